/-
  The document's Come: what a point comes to.
-/
import Derived.Test.YtohoihicmmidmaaKnInts
namespace Go.Proofs.Ytohoihicmmidmaa
set_option linter.unusedVariables false
set_option linter.unusedSimpArgs false
open Go.ChangeShapes Go.WideShapes Go.ChangeAt Go.RowKit Kn

/-- An answer that is a new block of bits. -/
def SomeBits (bs : List Bool) (w : World) (e : Ending) (w' : World) : Prop := e = .returned (.slice (some ⟨w.heap.size, 0, none⟩) bs.length bs.length) ∧ BBlk w' w.heap.size bs ∧ Below w.heap.size w w'
theorem closedB_succ {l : List (Int × Int)} {bs : List Bool} {k x y : Nat} (h : ClosedB l bs k) (e : l[k]? = some ((x : Int), (y : Int))) (hb : bs.getD x false = true → bs.getD y false = true) : ClosedB l bs (k + 1) := by
  intro i x' y' hi he hx
  by_cases h1 : i = k
  · subst h1
    rw [e] at he
    injection he with he
    injection he with e1 e2
    obtain rfl : x = x' := by omega
    obtain rfl : y = y' := by omega
    exact hb hx
  · exact h i x' y' (by omega) he hx
def isT (v : Value) : Nat := match v with | .bool true => 1 | _ => 0
theorem getA {l : List (Int × Int)} {k : Nat} (h : k < l.length) {p : Int × Int} (e : l.getD k (0, 0) = p) : l[k]? = some p ∧ p ∈ l := by
  rw [getD_lt l h] at e
  exact ⟨by rw [List.getElem?_eq_getElem h, e], e ▸ List.getElem_mem h⟩
set_option maxHeartbeats 1600000 in
theorem come_any {w : World} {A : Option Addr} {c : Nat} {l : List (Int × Int)} {n a : Nat} (hx : GIn w A c l) (hn : n ≤ 1000) (hok : okG n l) (ha : a < n) :
    Calls Try.prog 11 #[.int .i64 n, .slice A l.length c, .int .i64 a] w (SomeBits (comeL (Arr l) n a) w) := by
  have hl := hx.len
  have hmk := make_bools n (by omega)
  have hb0 : Below w.heap.size w (w.alloc (.cells (madeCells #[.bool false] n) 4)) := (Below.refl _ _).alloc (Nat.le_refl _) _
  have hbk := BBlk.made w n
  have HS : Hid (BBlk (w.alloc (.cells ((madeCells #[.bool false] n).setIfInBounds a (.bool true)) 4)) w.heap.size ((List.replicate n false).set a true)) := Lib.hid (by
    unfold BBlk
    rw [List.map_set, List.map_replicate, ← List.setIfInBounds_toArray, ← made_rep]
    exact Blk.new w _ _)
  have HB0 : Hid (Below w.heap.size w (w.alloc (.cells ((madeCells #[.bool false] n).setIfInBounds a (.bool true)) 4))) := Lib.hid ((Below.refl _ _).alloc (Nat.le_refl _) _)
  have hc0 : (w.alloc (.cells (madeCells #[.bool false] n) 4)).cell? ⟨w.heap.size, a, none⟩ = some (.bool ((List.replicate n false).getD a false)) := hbk.at_ (by simp; exact ha)
  have hf0 := hbk.free a
  have HX := Lib.hid hx
  have HOK := Lib.hid hok
  have HM0 := Lib.hid (come_start (l := l) ha)
  clear hx hok hb0 hbk
  go_enter Try.func11, Try.ntmps11
  go_wp2_with fail
  go_loopw [8, 9] (fun tv iv wr => ∃ (t : Bool) (bs : List Bool), tv = .bool t ∧ BBlk wr w.heap.size bs ∧ ComeMid l n a bs ∧ Hid (t = false → ClosedB l bs l.length) ∧ Below w.heap.size w wr) (fun tv _ wr => 2 * falses (bitsOf wr w.heap.size) + isT tv)
  case atStart => exact ⟨true, _, rfl, HS.out, HM0.out, Lib.hid (fun h => by cases h), HB0.out⟩
  case round =>
    obtain ⟨t, bs, rfl, hbs, hmid, HCL, hbel⟩ := hrel
    have HBS := Lib.hid hbs
    have HMI := Lib.hid hmid
    have HBE := Lib.hid hbel
    clear hbs hmid hbel hc0 hf0 hmk
    cases t with
    | false =>
      have hE := Lib.hid (HMI.out.done (HCL.out rfl))
      go_wp2_with fail
      go_ret
      rw [← hE.out]
      exact ⟨by rw [HMI.out.len]; rfl, HBS.out, HBE.out⟩
    | true =>
      clear HCL
      obtain ⟨wo, hwo⟩ : ∃ wo, wo = wr := ⟨_, rfl⟩
      have HWO := Lib.hid hwo
      clear hwo
      go_wp2_with fail
      go_loopw [8, 9] (fun tv iv wi => ∃ (t : Bool) (k : Nat) (bs' : List Bool), tv = .bool t ∧ k ≤ l.length ∧ iv = .int .i64 k ∧ BBlk wi w.heap.size bs' ∧ ComeMid l n a bs' ∧ Hid ((t = false → bs' = bs ∧ ClosedB l bs k) ∧ (t = true → falses bs' < falses bs)) ∧ Below w.heap.size w wi) (fun _ iv _ => l.length - (intOf iv).toNat)
      case atStart => exact ⟨false, 0, bs, rfl, Nat.zero_le _, rfl, HBS.out, HMI.out, Lib.hid ⟨fun _ => ⟨rfl, fun i x y hi => by omega⟩, fun h => by cases h⟩, HBE.out⟩
      case round =>
        obtain ⟨t, k, bs', rfl, hk, rfl, hbs', hmid', HT, hbel'⟩ := hrel
        have HBS' := Lib.hid hbs'
        have HMI' := Lib.hid hmid'
        have HBE' := Lib.hid hbel'
        clear hbs' hmid' hbel'
        by_cases hlt : k < l.length
        · obtain ⟨b, off, p, q, rfl, hbk, v0, v1, HE⟩ := (HX.out.on HBE'.out).elem hlt
          obtain ⟨he, hpm⟩ := getA hlt HE.out
          obtain ⟨x, y, hx, hy, e1, har⟩ := arr_at HOK.out hpm
          injection e1 with e1 e2
          subst e1 e2
          have HA := Lib.hid he
          have HAR := Lib.hid har
          have hlen := HMI'.out.len
          have cx := HBS'.out.at_ (i := x) (by omega)
          have cy := HBS'.out.at_ (i := y) (by omega)
          have fy := HBS'.out.free y
          clear he hpm har
          obtain ⟨bx, hbx⟩ : ∃ bx, bs'.getD x false = bx := ⟨_, rfl⟩
          obtain ⟨bY, hby⟩ : ∃ bY, bs'.getD y false = bY := ⟨_, rfl⟩
          rw [hbx] at cx
          rw [hby] at cy
          have HBX := Lib.hid hbx
          have HBY := Lib.hid hby
          clear hbx hby hlen
          cases bx with
          | false =>
            go_wp2_with fail
            go_roundw
            case rel => exact ⟨t, k + 1, bs', rfl, by omega, by go_num, HBS'.out, HMI'.out, Lib.hid ⟨fun h => ⟨(HT.out.1 h).1, closedB_succ (HT.out.1 h).2 HA.out (fun h2 => by rw [← (HT.out.1 h).1, HBX.out] at h2; cases h2)⟩, HT.out.2⟩, HBE'.out⟩
            case measure => simp [intOf]; omega
          | true =>
            cases bY with
            | true =>
              go_wp2_with fail
              go_roundw
              case rel => exact ⟨t, k + 1, bs', rfl, by omega, by go_num, HBS'.out, HMI'.out, Lib.hid ⟨fun h => ⟨(HT.out.1 h).1, closedB_succ (HT.out.1 h).2 HA.out (fun h2 => by rw [← (HT.out.1 h).1, HBY.out])⟩, HT.out.2⟩, HBE'.out⟩
              case measure => simp [intOf]; omega
            | false =>
              have HP := Lib.hid (HBS'.out.put y true)
              have HBP := Lib.hid (belowSet0 (j := y) (v := .bool true) HBE'.out)
              have HG := Lib.hid (HMI'.out.grow hy HAR.out HBX.out)
              have HF : Hid (falses (bs'.set y true) < falses bs) := Lib.hid (by
                have h1 := falses_set (bs := bs') (k := y) (by rw [HMI'.out.len]; exact hy) HBY.out
                cases t with
                | false => rw [(HT.out.1 rfl).1] at h1 ⊢; omega
                | true => have := HT.out.2 rfl; omega)
              go_wp2_with fail
              go_roundw
              case rel => exact ⟨true, k + 1, _, rfl, by omega, by go_num, HP.out, HG.out, Lib.hid ⟨(fun h => by cases h), fun _ => HF.out⟩, HBP.out⟩
              case measure => simp [intOf]; omega
        · have HC : Hid (t = false → ClosedB l bs' l.length) := Lib.hid (fun h => by
            have h1 := HT.out.1 h
            rw [h1.1]
            have : k = l.length := by omega
            exact this ▸ h1.2)
          go_wp2_with fail
          go_roundw
          case rel => exact ⟨t, bs', rfl, HBS'.out, HMI'.out, HC.out, HBE'.out⟩
          case measure =>
            rw [bits_of HBS'.out, ← HWO.out, bits_of (HWO.out ▸ HBS.out)]
            cases t with
            | false => rw [(HT.out.1 rfl).1]; simp [isT]
            | true => have := HT.out.2 rfl; simp [isT]; omega
end Go.Proofs.Ytohoihicmmidmaa
