/-
  The document's Ranked, Ranks, Ties, Tied.
-/
import Derived.Test.YtohoihicmmidmaaKnRef2
namespace Go.Proofs.Ytohoihicmmidmaa
set_option linter.unusedVariables false
set_option linter.unusedSimpArgs false
open Go.ChangeShapes Go.WideShapes Go.ChangeAt Go.RowKit Kn

/-- An answer that is a new block of numbers. -/
def SomeNums (xs : List Int) (w : World) (e : Ending) (w' : World) : Prop := e = .returned (.slice (some ⟨w.heap.size, 0, none⟩) xs.length xs.length) ∧ IBlk w' w.heap.size xs ∧ Below w.heap.size w w'
/-- Heads' ranks, given to all (up to k). -/
noncomputable def finR (E : Nat → Nat → Prop) (n : Nat) (o : List Nat) (k : Nat) : List Nat := (List.range n).map fun j => if j < k then o.getD (headN E j) 0 else o.getD j 0
theorem finR_len (E : Nat → Nat → Prop) (n : Nat) (o : List Nat) (k : Nat) : (finR E n o k).length = n := by simp [finR]
theorem finR_at (E : Nat → Nat → Prop) {n : Nat} (o : List Nat) (k : Nat) {j : Nat} (hj : j < n) : (finR E n o k).getD j 0 = if j < k then o.getD (headN E j) 0 else o.getD j 0 := by
  simp [finR, List.getD_eq_getElem?_getD, hj]
theorem finR_zero {E : Nat → Nat → Prop} {n : Nat} {o : List Nat} (h : o.length = n) : finR E n o 0 = o := by
  apply List.ext_getElem
  · rw [finR_len, h]
  · intro i h1 h2
    have := finR_at E (n := n) o 0 (j := i) (by omega)
    rw [getD_lt _ h1, if_neg (by omega), getD_lt _ h2] at this
    exact this
theorem finR_step {E : Nat → Nat → Prop} {n : Nat} {o : List Nat} {k : Nat} (hk : k < n) : (finR E n o k).set k ((finR E n o k).getD (headN E k) 0) = finR E n o (k + 1) := by
  have hh := head_le E k
  apply List.ext_getElem
  · simp [finR_len]
  · intro i h1 h2
    have hi : i < n := by rw [finR_len] at h2; exact h2
    have a1 : ((finR E n o k).set k ((finR E n o k).getD (headN E k) 0))[i] = ((finR E n o k).set k ((finR E n o k).getD (headN E k) 0)).getD i 0 := (getD_lt _ h1).symm
    have a2 : (finR E n o (k + 1))[i] = (finR E n o (k + 1)).getD i 0 := (getD_lt _ h2).symm
    rw [a1, a2, getD_set (by rw [finR_len]; exact hk), finR_at E o (k + 1) hi, finR_at E o k hi, finR_at E o k (by omega)]
    by_cases e : i = k
    · subst e
      rw [if_pos rfl]
      by_cases e2 : headN E i < i
      · rw [if_pos e2, head_head, if_pos (by omega)]
      · rw [if_neg e2, if_pos (by omega)]
    · rw [if_neg e]
      by_cases e2 : i < k
      · rw [if_pos e2, if_pos (by omega)]
      · rw [if_neg e2, if_neg (by omega)]
theorem finR_end {l : List (Int × Int)} {n : Nat} {o : List Nat} (h : ∀ a, a < n → o.getD (headN (Arr l) a) 0 = rankN (Arr l) n a) : finR (Arr l) n o n = ranksL (Arr l) n := by
  apply List.ext_getElem
  · simp [finR_len, ranksL]
  · intro i h1 h2
    have hi : i < n := by rw [finR_len] at h1; exact h1
    rw [← getD_lt (d := 0) _ h1, ← getD_lt (d := 0) _ h2, finR_at _ _ _ hi, if_pos hi, ranksL_at _ hi]
    exact h i hi
theorem closedR_succ {l : List (Int × Int)} {o : List Nat} {k x y : Nat} (h : ClosedR l o k) (e : l[k]? = some ((x : Int), (y : Int))) (hb : headN (Arr l) x ≠ headN (Arr l) y → o.getD (headN (Arr l) y) 0 < o.getD (headN (Arr l) x) 0) : ClosedR l o (k + 1) := by
  intro i x' y' hi he hx
  by_cases h1 : i = k
  · subst h1
    rw [e] at he
    injection he with he
    injection he with e1 e2
    obtain rfl : x = x' := by omega
    obtain rfl : y = y' := by omega
    exact hb hx
  · exact h i x' y' (by omega) he hx
/-- The numbers of a block, as natural ones. -/
noncomputable def natsOf (w : World) (g : Nat) : List Nat := (numsOf w g).map Int.toNat
theorem nats_of {w : World} {g : Nat} {o : List Nat} (h : IBlk w g (nI o)) : natsOf w g = o := by
  unfold natsOf
  rw [nums_of h, nI, List.map_map]
  exact (List.map_congr_left (fun a _ => rfl)).trans (List.map_id o)

set_option maxHeartbeats 3200000 in
theorem ranked_any {w : World} {A A' : Option Addr} {c c' lo B : Nat} {l : List (Int × Int)} {n : Nat} (hx : GIn w A c l) (hn : n ≤ 1000) (hok : okG n l) (hh : Hdr A' n c') (hi : IntsAt w lo B A' (nI (headsL (Arr l) n))) :
    Calls Try.prog 28 #[.int .i64 n, .slice A l.length c, .slice A' n c'] w (SomeNums (nI (ranksL (Arr l) n)) w) := by
  have hl := hx.len
  have hmk := make_ints n (by omega)
  have hb0 : Below w.heap.size w (w.alloc (.cells (madeCells #[.int .i64 0] n) 3)) := (Below.refl _ _).alloc (Nat.le_refl _) _
  have hbk := IBlk.made w n
  have HS : Hid (IBlk (w.alloc (.cells (madeCells #[.int .i64 0] n) 3)) w.heap.size (nI (List.replicate n 0))) := Lib.hid (by
    rw [show nI (List.replicate n 0) = List.replicate n (0 : Int) by simp [nI]]; exact hbk)
  have HB0 := Lib.hid hb0
  have HX := Lib.hid hx
  have HI := Lib.hid hi
  have HOK := Lib.hid hok
  have HM0 := Lib.hid (rank_start l n)
  clear hx hok hb0 hbk hi hh
  go_enter Try.func28, Try.ntmps28
  go_wp2_with fail
  go_loopw [8, 9] (fun tv iv wr => ∃ (t : Bool) (o : List Nat), tv = .bool t ∧ IBlk wr w.heap.size (nI o) ∧ RankMid l n o ∧ Hid (t = false → ClosedR l o l.length) ∧ Below w.heap.size w wr) (fun tv _ wr => 2 * room l n (natsOf wr w.heap.size) + isT tv)
  case atStart => exact ⟨true, _, rfl, HS.out, HM0.out, Lib.hid (fun h => by cases h), HB0.out⟩
  case round =>
    obtain ⟨t, o, rfl, hbs, hmid, HCL, hbel⟩ := hrel
    have HBS := Lib.hid hbs
    have HMI := Lib.hid hmid
    have HBE := Lib.hid hbel
    clear hbs hmid hbel hmk
    cases t with
    | false =>
      have HD := Lib.hid (HMI.out.done HOK.out (HCL.out rfl))
      clear HCL
      go_wp2_with fail
      go_loopw [12] (fun iv wi => ∃ k : Nat, k ≤ n ∧ iv = .int .i64 k ∧ IBlk wi w.heap.size (nI (finR (Arr l) n o k)) ∧ Below w.heap.size w wi) (fun iv _ => n - (intOf iv).toNat)
      case atStart => exact ⟨0, Nat.zero_le _, rfl, by rw [finR_zero HMI.out.len]; exact HBS.out, HBE.out⟩
      case round =>
        obtain ⟨k, hk, rfl, hbk, hbel'⟩ := hrel
        have HBK := Lib.hid hbk
        have HB' := Lib.hid hbel'
        clear hbk hbel'
        by_cases hlt : k < n
        · obtain ⟨b', off', h, rfl, hch, HEH⟩ := HI.out.cell (k := k) (by rw [nI_len, headsL_len]; exact hlt)
          have hhk : h = (headN (Arr l) k : Nat) := by rw [← HEH.out, nI_at, headsL_at _ hlt]
          subst hhk
          have hle := head_le (Arr l) k
          have hch' := (HB'.out.cell (p := ⟨b', off' + k, none⟩) (World.block_lt_of_cell? w _ hch)).trans hch
          have c1 := HBK.out.at_ (i := headN (Arr l) k) (by rw [nI_len, finR_len]; omega)
          have c2 := HBK.out.at_ (i := k) (by rw [nI_len, finR_len]; omega)
          have f2 := HBK.out.free k
          have HST := finR_step (E := Arr l) (o := o) hlt
          have HNP := HBK.out.put k (((finR (Arr l) n o k).getD (headN (Arr l) k) 0 : Nat) : Int)
          rw [nI_set, HST] at HNP
          rw [nI_at] at c1
          have HP := Lib.hid HNP
          have HBP := Lib.hid (belowSet0 (j := k) (v := .int .i64 (((finR (Arr l) n o k).getD (headN (Arr l) k) 0 : Nat) : Int)) HB'.out)
          clear HST HNP hch
          generalize headN (Arr l) k = p at *
          generalize (finR (Arr l) n o k).getD p 0 = z at *
          have hp : p < n := by omega
          go_wp2_with fail
          go_roundw
          case rel => exact ⟨k + 1, by omega, by go_num, HP.out, HBP.out⟩
          case measure => simp [intOf]; omega
        · have hkn : k = n := by omega
          have HF : Hid (IBlk wr w.heap.size (nI (ranksL (Arr l) n))) := Lib.hid (by have h2 := HBK.out; rw [hkn, finR_end HD.out] at h2; exact h2)
          clear hkn
          go_wp2_with fail
          go_ret
          exact ⟨by rw [nI_len]; simp [ranksL], HF.out, HB'.out⟩
    | true =>
      clear HCL
      obtain ⟨wo, hwo⟩ : ∃ wo, wo = wr := ⟨_, rfl⟩
      have HWO := Lib.hid hwo
      clear hwo
      go_wp2_with fail
      go_loopw [8, 9] (fun tv iv wi => ∃ (t : Bool) (k : Nat) (o' : List Nat), tv = .bool t ∧ k ≤ l.length ∧ iv = .int .i64 k ∧ IBlk wi w.heap.size (nI o') ∧ RankMid l n o' ∧ Hid ((t = false → o' = o ∧ ClosedR l o k) ∧ (t = true → room l n o' < room l n o)) ∧ Below w.heap.size w wi) (fun _ iv _ => l.length - (intOf iv).toNat)
      case atStart => exact ⟨false, 0, o, rfl, Nat.zero_le _, rfl, HBS.out, HMI.out, Lib.hid ⟨fun _ => ⟨rfl, fun i x y hi => by omega⟩, fun h => by cases h⟩, HBE.out⟩
      case round =>
        obtain ⟨t, k, o', rfl, hk, rfl, hbs', hmid', HT, hbel'⟩ := hrel
        have HBS' := Lib.hid hbs'
        have HMI' := Lib.hid hmid'
        have HBE' := Lib.hid hbel'
        clear hbs' hmid' hbel'
        by_cases hlt : k < l.length
        · obtain ⟨b, off, p, q, rfl, hbk, v0, v1, HE⟩ := (HX.out.on HBE'.out).elem hlt
          obtain ⟨he, hpm⟩ := getA hlt HE.out
          obtain ⟨x, y, hx, hy, e1, har⟩ := arr_at HOK.out hpm
          injection e1 with e1 e2
          subst e1 e2
          have HA := Lib.hid he
          have HAR := Lib.hid har
          obtain ⟨b', off', h, rfl, hch, HEH⟩ := HI.out.cell (k := x) (by rw [nI_len, headsL_len]; exact hx)
          have hhx : h = (headN (Arr l) x : Nat) := by rw [← HEH.out, nI_at, headsL_at _ hx]
          subst hhx
          obtain ⟨b2, off2, h, hA2, hch2, HEH2⟩ := HI.out.cell (k := y) (by rw [nI_len, headsL_len]; exact hy)
          injection hA2 with hA2
          injection hA2 with h1 h2 _
          subst h1 h2
          have hhy : h = (headN (Arr l) y : Nat) := by rw [← HEH2.out, nI_at, headsL_at _ hy]
          subst hhy
          have d1 := (HBE'.out.cell (p := ⟨b', off' + x, none⟩) (World.block_lt_of_cell? w _ hch)).trans hch
          have d2 := (HBE'.out.cell (p := ⟨b', off' + y, none⟩) (World.block_lt_of_cell? w _ hch2)).trans hch2
          have hlen := HMI'.out.len
          have hlx := head_le (Arr l) x
          have hly := head_le (Arr l) y
          have c1 := HBS'.out.at_ (i := headN (Arr l) x) (by rw [nI_len]; omega)
          have c2 := HBS'.out.at_ (i := headN (Arr l) y) (by rw [nI_len]; omega)
          have f1 := HBS'.out.free (headN (Arr l) x)
          rw [nI_at] at c1 c2
          have hsm : o'.getD (headN (Arr l) y) 0 < 1000 := by
            have := HMI'.out.le (headN (Arr l) y) (by omega)
            have := rank_small HOK.out (a := headN (Arr l) y) (by omega)
            omega
          have HCS := Lib.hid (fun (hh : t = false → headN (Arr l) x ≠ headN (Arr l) y → o.getD (headN (Arr l) y) 0 < o.getD (headN (Arr l) x) 0) (h : t = false) => closedR_succ (HT.out.1 h).2 HA.out (hh h))
          have HGR : Hid (headN (Arr l) x ≠ headN (Arr l) y → RankMid l n (o'.set (headN (Arr l) x) (o'.getD (headN (Arr l) y) 0 + 1))) := Lib.hid (fun h => HMI'.out.grow HOK.out HAR.out h)
          have HRL : Hid (headN (Arr l) x ≠ headN (Arr l) y → o'.getD (headN (Arr l) x) 0 ≤ o'.getD (headN (Arr l) y) 0 → room l n (o'.set (headN (Arr l) x) (o'.getD (headN (Arr l) y) 0 + 1)) < room l n o) := Lib.hid (fun h1 h2 => by
            have h3 := HMI'.out.room_lt HOK.out HAR.out h1 h2
            cases t with
            | false => rw [← (HT.out.1 rfl).1]; exact h3
            | true => have := HT.out.2 rfl; omega)
          have HPU : Hid (IBlk (wr.setCell ⟨w.heap.size, headN (Arr l) x, none⟩ (.int .i64 (((o'.getD (headN (Arr l) y) 0 : Nat) : Int) + 1))) w.heap.size (nI (o'.set (headN (Arr l) x) (o'.getD (headN (Arr l) y) 0 + 1)))) := Lib.hid (by
            rw [← nI_set]
            exact HBS'.out.put _ _)
          have HBP := Lib.hid (belowSet0 (j := headN (Arr l) x) (v := .int .i64 (((o'.getD (headN (Arr l) y) 0 : Nat) : Int) + 1)) HBE'.out)
          have HOO : Hid (t = false → o.getD (headN (Arr l) x) 0 = o'.getD (headN (Arr l) x) 0 ∧ o.getD (headN (Arr l) y) 0 = o'.getD (headN (Arr l) y) 0) := Lib.hid (fun h => by rw [(HT.out.1 h).1]; exact ⟨rfl, rfl⟩)
          clear he hpm har hch hch2 HEH HEH2 HE HAR
          generalize o'.getD (headN (Arr l) x) 0 = ox at *
          generalize o'.getD (headN (Arr l) y) 0 = oy at *
          generalize o.getD (headN (Arr l) x) 0 = px at *
          generalize o.getD (headN (Arr l) y) 0 = py at *
          generalize headN (Arr l) x = p at *
          generalize headN (Arr l) y = q at *
          have hp : p < n := by omega
          have hq : q < n := by omega
          by_cases hpq : p = q
          · subst hpq
            go_wp2_with fail
            go_quiet (fail)
            go_wp2_with fail
            go_quiet (fail)
            go_wp2_with fail
            go_roundw
            case rel => exact ⟨t, k + 1, o', rfl, by omega, by go_num, HBS'.out, HMI'.out, Lib.hid ⟨fun h => ⟨(HT.out.1 h).1, HCS.out (fun _ h => absurd rfl h) h⟩, HT.out.2⟩, belowDrewN HBE'.out _⟩
            case measure => simp [intOf]; omega
          · have n1 : ((p : Int) == (q : Int)) = false := by simp; omega
            have n2 : ((p : Int) != (q : Int)) = true := by simp; omega
            have HPQ := Lib.hid hpq
            clear hpq
            by_cases hle : ox ≤ oy
            · have g1 : decide ((ox : Int) ≤ (oy : Int)) = true := by simp; omega
              go_wp2_with fail
              go_quiet (fail)
              go_wp2_with fail
              go_quiet (fail)
              go_wp2_with fail
              go_roundw
              case rel => exact ⟨true, k + 1, _, rfl, by omega, by go_num, HPU.out, HGR.out HPQ.out, Lib.hid ⟨(fun h => by cases h), fun _ => HRL.out HPQ.out hle⟩, belowSet0 (belowDrewN HBE'.out _)⟩
              case measure => simp [intOf]; omega
            · have g1 : decide ((ox : Int) ≤ (oy : Int)) = false := by simp; omega
              go_wp2_with fail
              go_quiet (fail)
              go_wp2_with fail
              go_quiet (fail)
              go_wp2_with fail
              go_roundw
              case rel => exact ⟨t, k + 1, o', rfl, by omega, by go_num, HBS'.out, HMI'.out, Lib.hid ⟨fun h => ⟨(HT.out.1 h).1, HCS.out (fun h _ => by have := HOO.out h; omega) h⟩, HT.out.2⟩, belowDrewN HBE'.out _⟩
              case measure => simp [intOf]; omega
        · have HC : Hid (t = false → ClosedR l o' l.length) := Lib.hid (fun h => by
            have h1 := HT.out.1 h
            rw [h1.1]
            have : k = l.length := by omega
            exact this ▸ h1.2)
          go_wp2_with fail
          go_roundw
          case rel => exact ⟨t, o', rfl, HBS'.out, HMI'.out, HC.out, HBE'.out⟩
          case measure =>
            rw [nats_of HBS'.out, ← HWO.out, nats_of (HWO.out ▸ HBS.out)]
            cases t with
            | false => rw [(HT.out.1 rfl).1]; simp [isT]
            | true => have := HT.out.2 rfl; simp [isT]; omega
end Go.Proofs.Ytohoihicmmidmaa
