/-
  The reference's answers for types: PartOf, Part, Ahead, Offset; and whether two lists of numbers are the same. The reference's words for shapes: are numbers below one; how many instructions; how many parameters; may a number be; may an end be. The reference's words for shapes: may an instruction's number be; may an end be. The registers that an instruction and an end read. append of one element of several cells, just laid in a block of its own, onto a row of the call's own. Tables of types that the call owns.
-/
import Derived.Test.YtcbhmpkginebaaaDoorMg6
import Derived.Outline
import Derived.BigQuiet
import Derived.Deep.QuietTactic
import Derived.OwnWalk
namespace Go.Proofs.YtcbhmpkginebaaaDoor
set_option linter.unusedVariables false
set_option linter.unusedSimpArgs false
open Go.ChangeShapes Go.WideShapes Go.ChangeAt Go.RowKit
theorem part_ne_neg {t : List Ty} {k : Nat} (h : Good t k) {n : Int} : (partOfT (t.getD k default) n < 0 ↔ ¬ (0 ≤ n ∧ n < (partsT (t.getD k default)).length)) := by
  unfold partOfT
  by_cases hin : 0 ≤ n ∧ n < ((partsT (t.getD k default)).length : Int)
  · rw [if_pos hin]
    have := h.parts _ (mem_getD0 (l := partsT (t.getD k default)) (n := n.toNat) (by omega))
    exact ⟨fun h => by omega, fun h => absurd hin h⟩
  · rw [if_neg hin]
    exact ⟨fun _ => hin, fun _ => by omega⟩
section
variable {w : World} {A : Option Addr} {c : Nat} {rows : List TyR}
theorem TabIn.row (h : TabIn w A c rows) {i : Nat} (hi : i < rows.length) : (rows.getD i default).Ok w 0 w.heap.size := h.rows.ok _ (mem_getD (d := default) hi)
end
theorem take_eq_succ {α : Type} {d : α} {xs ys : List α} {k : Nat} (h : xs.take k = ys.take k) (h1 : k < xs.length) (h2 : k < ys.length) (e : xs.getD k d = ys.getD k d) : xs.take (k + 1) = ys.take (k + 1) := by
  rw [take_succ_getD (d := d) h1, take_succ_getD (d := d) h2, h, e]
theorem ne_of_getD {α : Type} {d : α} {xs ys : List α} {k : Nat} (e : xs.getD k d ≠ ys.getD k d) : xs ≠ ys := fun h => e (by rw [h])
theorem sameInts_any {w : World} {lo lo' B B' : Nat} {A A' : Option Addr} {c c' : Nat} {xs ys : List Int} (hh : Hdr A xs.length c) (hx : IntsAt w lo B A xs) (hh' : Hdr A' ys.length c') (hy : IntsAt w lo' B' A' ys) :
    Calls Tryd.prog 11 #[.slice A xs.length c, .slice A' ys.length c'] w fun e w' => e = .returned (.bool (decide (xs = ys))) ∧ Below w.heap.size w w' := by
  have hl := Nat.le_trans hh.fit hh.cap
  have hl' := Nat.le_trans hh'.fit hh'.cap
  unfold maxLen at hl hl'
  have HX := Lib.hid hx
  have HY := Lib.hid hy
  clear hx hy hh hh'
  by_cases hlen : xs.length = ys.length
  · have q : (xs.length : Int) = ys.length := by omega
    go_enter Tryd.func11, Tryd.ntmps11
    go_wp2_with fail
    go_loopw [5] (fun i wr => ∃ k : Nat, k ≤ xs.length ∧ i = .int .i64 k ∧ Hid (xs.take k = ys.take k) ∧ Below w.heap.size w wr) (fun i _ => xs.length - (intOf i).toNat)
    case atStart => exact ⟨0, Nat.zero_le _, rfl, Lib.hid rfl, Below.refl _ _⟩
    case round =>
      obtain ⟨k, hk, rfl, HT, hbel⟩ := hrel
      have HB := Lib.hid hbel
      clear hbel
      by_cases hlt : k < xs.length
      · obtain ⟨b, off, x, rfl, hcell, HE⟩ := (HX.out.cell hlt)
        obtain ⟨b', off', y, rfl, hcell', HE'⟩ := (HY.out.cell (k := k) (by omega))
        have d1 := (HB.out.cell (p := ⟨b, off + k, none⟩) (World.block_lt_of_cell? w _ hcell)).trans hcell
        have d2 := (HB.out.cell (p := ⟨b', off' + k, none⟩) (World.block_lt_of_cell? w _ hcell')).trans hcell'
        clear hcell hcell'
        by_cases hxy : x = y
        · subst hxy
          go_wp2_with fail
          go_quiet (fail)
          go_wp2_with fail
          go_roundw
          case rel => exact ⟨k + 1, by omega, by go_num, Lib.hid (take_eq_succ (d := 0) HT.out hlt (by omega) (by rw [HE.out, HE'.out])), belowDrewN HB.out _⟩
          case measure => simp [intOf]; omega
        · have hne : (x == y) = false := by simpa using hxy
          have HN : Hid (xs ≠ ys) := Lib.hid (ne_of_getD (d := 0) (k := k) (by rw [HE.out, HE'.out]; exact hxy))
          go_wp2_with fail
          go_quiet (fail)
          go_wp2_with fail
          go_ret
          exact ⟨ret_bool (by rw [decide_eq_false HN.out]), belowDrewN HB.out _⟩
      · go_wp2_with fail
        go_ret
        exact ⟨ret_bool (by rw [decide_eq_true]; have := HT.out; rwa [List.take_of_length_le (by omega), List.take_of_length_le (by omega)] at this), HB.out⟩
  · have q : ¬ (xs.length : Int) = ys.length := by omega
    have HN : Hid (xs ≠ ys) := Lib.hid (fun h => hlen (by rw [h]))
    clear hlen
    go_enter Tryd.func11, Tryd.ntmps11
    go_wp2_with fail
    go_ret
    exact ⟨ret_bool (by rw [decide_eq_false HN.out]), Below.refl _ _⟩
end Go.Proofs.YtcbhmpkginebaaaDoor
namespace Go.Proofs.YtcbhmpkginebaaaDoor
set_option linter.unusedVariables false
set_option linter.unusedSimpArgs false
open Go.ChangeShapes Go.WideShapes Go.ChangeAt Go.RowKit

def inP (m : Int) (n : Int) : Bool := inB n m
theorem rbelow_any {w : World} {lo B : Nat} {A : Option Addr} {c : Nat} {xs : List Int} (hh : Hdr A xs.length c) (hx : IntsAt w lo B A xs) (m : Int) :
    Calls Tryd.prog 97 #[.slice A xs.length c, .int .i64 m] w fun e w' => e = .returned (.bool (allB xs m)) ∧ w = w' := by
  have hl := Nat.le_trans hh.fit hh.cap
  unfold maxLen at hl
  have HX := Lib.hid hx
  clear hx hh
  go_enter Tryd.func97, Tryd.ntmps97
  go_wp2_with fail
  go_loop [5] (fun i => ∃ k : Nat, k ≤ xs.length ∧ i = .int .i64 k ∧ AllTo (inP m) xs k) (fun i => xs.length - (intOf i).toNat)
  case atStart => exact ⟨0, Nat.zero_le _, rfl, AllTo.zero _ _⟩
  case round =>
    obtain ⟨k, hk, rfl, hall⟩ := hrel
    have HA := Lib.hid hall
    clear hall
    by_cases hlt : k < xs.length
    · obtain ⟨b, off, x, rfl, hcell, HE⟩ := HX.out.cell hlt
      by_cases h0 : x < 0
      · go_wp2_with fail
        go_ret
        exact ⟨ret_bool (all_stop (d := 0) hlt (by rw [HE.out]; simp [inP, inB]; omega)).symm, rfl⟩
      · by_cases h1 : x < m
        · go_wp2_with fail
          go_round
          case rel => exact ⟨k + 1, by omega, by go_num, HA.out.step (d := 0) hlt (by rw [HE.out]; simp [inP, inB]; omega)⟩
          case measure => simp [intOf]; omega
        · go_wp2_with fail
          go_ret
          exact ⟨ret_bool (all_stop (d := 0) hlt (by rw [HE.out]; simp [inP, inB]; omega)).symm, rfl⟩
    · go_wp2_with fail
      go_ret
      exact ⟨ret_bool (HA.out.done (by omega)).symm, rfl⟩

theorem rbelow_is {w : World} {A : Option Addr} {c : Nat} {xs : List Int} (hh : Hdr A xs.length c) (hx : IntsAt w 0 w.heap.size A xs) (m : Int) {b : Bool} (hb : allB xs m = b) :
    Calls Tryd.prog 97 #[.slice A xs.length c, .int .i64 m] w fun e w' => e = .returned (.bool b) ∧ Below w.heap.size w w' := by
  refine (rbelow_any hh hx m).mono ?_
  rintro e w' ⟨rfl, rfl⟩
  exact ⟨by rw [hb], Below.refl _ _⟩
set_option maxRecDepth 100000 in
theorem rmany_any {w : World} {A : Option Addr} {c : Nat} {rows : List BlR} (h : BlksAt w A c rows) (hf : rows.length ≤ 1000) (hi : ∀ r ∈ rows, r.ins.length ≤ 1000000) :
    Calls Tryd.prog 68 #[.slice A rows.length c] w fun e w' => e = .returned (.int .i64 (manyB (rows.map BlR.data) : Nat)) ∧ Below w.heap.size w w' := by
  have HX := Lib.hid h
  have hl : (rows.length : Int) ≤ 1000 := by omega
  have HF := Lib.hid hf
  have HI := Lib.hid hi
  clear h hf hi
  go_enter Tryd.func68, Tryd.ntmps68
  go_wp2_with fail
  go_loop [3, 4] (fun v i => ∃ k n : Nat, k ≤ rows.length ∧ i = .int .i64 k ∧ v = .int .i64 n ∧ n ≤ 1000000 * k ∧ Hid (n = manyB ((rows.map BlR.data).take k))) (fun _ i => rows.length - (intOf i).toNat)
  case atStart => exact ⟨0, 0, Nat.zero_le _, rfl, rfl, Nat.zero_le _, Lib.hid rfl⟩
  case round =>
    obtain ⟨k, n, hk, rfl, rfl, hn, HN⟩ := hrel
    have hnz : (n : Int) ≤ 1000000000 := by omega
    by_cases hlt : k < rows.length
    · have hkz : (k : Int) < rows.length := by omega
      obtain ⟨b, off, r, rfl, hb, ⟨d0, _, _, _, _⟩, hr, HE⟩ := HX.out.elem hlt
      have hrl : r.ins.length ≤ 1000000 := by
        have := HI.out _ (mem_getD (d := default) hlt)
        rwa [HE.out] at this
      have hrz : (r.ins.length : Int) ≤ 1000000 := by omega
      have HM : Hid (manyB ((rows.map BlR.data).take (k + 1)) = manyB ((rows.map BlR.data).take k) + r.ins.length) := Lib.hid (by
        rw [many_take (by rw [List.length_map]; exact hlt), map_getD BlR.data rows hlt, HE.out]
        show _ + (r.ins.map InR.data).length = _
        rw [List.length_map])
      have HLT := Lib.hid hlt
      have HRL := Lib.hid hrl
      have HNN := Lib.hid hn
      clear hr hlt hrl hn
      go_wp2_with fail
      go_round
      case rel => exact ⟨k + 1, n + r.ins.length, by have := HLT.out; omega, by go_num, by go_num, by have := HRL.out; have := HNN.out; omega, Lib.hid (by rw [HM.out, HN.out])⟩
      case measure => simp [intOf]; have := HLT.out; omega
    · obtain rfl : k = rows.length := by omega
      go_wp2_with fail
      go_ret
      exact ⟨ret_num (by rw [HN.out, List.take_of_length_le (by rw [List.length_map]; exact Nat.le_refl _)]), Below.refl _ _⟩
set_option maxRecDepth 100000 in
theorem rparams_any {w : World} {p : PrR} (h : ProgIn w p) (f : FuR) (h0 : 0 ≤ f.sig) (h1 : f.sig < p.types.length) :
    Calls Tryd.prog 67 #[p.val, f.val] w fun e w' => e = .returned (.int .i64 ((p.types.getD f.sig.toNat default).parts.length : Nat)) ∧ Below w.heap.size w w' := by
  obtain ⟨k, hk⟩ : ∃ k : Nat, f.sig = k := ⟨f.sig.toNat, by omega⟩
  have hkl : k < p.types.length := by omega
  have hkz : (k : Int) < p.types.length := by omega
  have hl := h.types.len
  have H : Elem w p.ta k (p.types.getD k default) := h.types.rows.elem hkl
  obtain ⟨b, off, ha, hb, _, _, _, d3⟩ := H.at_
  have HQ : Hid ((p.types.getD f.sig.toNat default).parts.length = (p.types.getD k default).parts.length) := Lib.hid (by rw [hk, Int.toNat_natCast])
  rw [HQ.out]
  obtain ⟨r, hr⟩ : ∃ r, p.types.getD k default = r := ⟨_, rfl⟩
  rw [hr] at d3
  rw [hr]
  have hhd : r.parts.length ≤ 9223372036854775807 := by rw [← hr]; exact (h.types.rows.ok _ (mem_getD (d := default) hkl)).hdr.cle
  unfold PrR.val FuR.val
  rw [ha, hk]
  obtain ⟨ta, tc, types, fa, fc, funs⟩ := p
  dsimp only at *
  clear ha hk h H HQ hr h0 h1 hkl
  have d4 : ∀ o o2, ((w.alloc o).alloc o2).cell? ⟨b, off + k * 4 + 3, none⟩ = some (.slice r.pa r.parts.length r.pc) := fun o o2 => by
    have hb1 : Below w.heap.size w ((w.alloc o).alloc o2) := ((Below.refl _ _).alloc (Nat.le_refl _) _).alloc (by simp only [World.size_alloc]; omega) _
    exact (hb1.cell (p := ⟨b, off + k * 4 + 3, none⟩) hb).trans d3
  go_enter Tryd.func67, Tryd.ntmps67
  go_wp2_with fail
  go_ret
  exact ⟨rfl, ((Below.refl _ _).alloc (Nat.le_refl _) _).alloc (by simp only [World.size_alloc]; omega) _⟩
end Go.Proofs.YtcbhmpkginebaaaDoor
namespace Go.Proofs.YtcbhmpkginebaaaDoor
set_option linter.unusedVariables false
set_option linter.unusedSimpArgs false
open Go.ChangeShapes Go.WideShapes Go.ChangeAt Go.RowKit

theorem ints_block {w : World} {g : Nat} {xs : List Int} {cs : Array Value} {t : TypeId} {fr : Nat × Nat} (hb : w.heap[g]? = some (.cells cs t fr)) (hcs : cs = (xs.map (Value.int .i64)).toArray) (hl : xs.length ≤ 1000000) : Hdr (some ⟨g, 0, none⟩) xs.length xs.length ∧ IntsAt w 0 w.heap.size (some ⟨g, 0, none⟩) xs := by
  subst hcs
  refine ⟨⟨Nat.le_refl _, by unfold maxLen; omega, fun e => by cases e⟩, fun hn => ⟨g, 0, rfl, Nat.zero_le _, (Array.getElem?_eq_some_iff.1 hb).1, fun i hi j hj => ?_⟩⟩
  obtain rfl : j = 0 := by omega
  rw [cell_of_row w g _ _ t fr hb]
  rw [show 0 + i * 1 + 0 = i by omega, List.getElem?_toArray, List.getElem?_map, List.getElem?_eq_getElem hi]
  show _ = some (Value.int .i64 (xs.getD i 0))
  rw [List.getD_eq_getElem?_getD, List.getElem?_eq_getElem hi]
  rfl
theorem heap_at (w : World) (o : Obj) (g : Nat) (h : w.heap.size = g) : (w.alloc o).heap[g]? = some o := by rw [← h]; exact heap_alloc_new w o
theorem op_is {n m : Nat} (h : n = m) : ((n : Int) == (m : Int)) = true := by rw [h]; exact beq_self_eq_true _
theorem op_no {n m : Nat} (h : n ≠ m) : ((n : Int) == (m : Int)) = false := by rw [beq_eq_false_iff_ne]; omega
def mayNB (x : PIns) (funs : Int) : Bool := numB x funs && (hasT x.op 2 || decide (x.n = 0))
theorem mayN_1 {x : PIns} {f : Int} (h : x.op = 1) : mayNB x f = true := by unfold mayNB numB hasT; rw [h]; rfl
theorem mayN_f {x : PIns} {f : Int} (h : x.op = 3 ∨ x.op = 18) : mayNB x f = inB x.n f := by
  unfold mayNB numB hasT
  rw [if_pos h]
  rcases h with h | h <;> rw [h] <;> simp
theorem mayN_p {x : PIns} {f : Int} (h : x.op = 14) : mayNB x f = inB x.n 8 := by
  unfold mayNB numB hasT
  rw [h]
  simp
theorem mayN_o {x : PIns} {f : Int} (h1 : x.op ≠ 1) (h3 : x.op ≠ 3) (h18 : x.op ≠ 18) (h14 : x.op ≠ 14) : mayNB x f = decide (x.n = 0) := by
  unfold mayNB numB hasT
  rw [if_neg (by omega), if_neg h14]
  simp [h1, h3, h18, h14]
set_option maxRecDepth 100000 in
set_option maxHeartbeats 1600000 in
theorem rmayN_any {w : World} {p : PrR} (h : ProgIn w p) (x : InR) :
    Calls Tryd.prog 98 #[p.val, x.val] w fun e w' => e = .returned (.bool (mayNB x.data p.funs.length)) ∧ Below w.heap.size w w' := by
  have hl := h.funs.hdr.cle
  have HB2 := Lib.hid (fun o o2 => (((Below.refl w.heap.size w).alloc (Nat.le_refl _) o).alloc (by simp only [World.size_alloc]; omega) o2))
  obtain ⟨b, hb⟩ : ∃ b, mayNB x.data p.funs.length = b := ⟨_, rfl⟩
  rw [hb]
  unfold PrR.val InR.val
  obtain ⟨ta, tc, types, fa, fc, funs⟩ := p
  obtain ⟨op, ty, a, bb, n, aa, ac, args, xa, xc, from_⟩ := x
  dsimp only at *
  clear h
  by_cases h1 : op = 1
  · have e1 : ((op : Int) == 1) = true := op_is h1
    have HR : Hid (b = true) := Lib.hid (hb.symm.trans (mayN_1 h1))
    clear h1 hb
    go_enter Tryd.func98, Tryd.ntmps98
    go_wp2_with fail
    go_ret
    exact ⟨ret_bool HR.out.symm, HB2.out _ _⟩
  have e1 : ((op : Int) == 1) = false := op_no h1
  by_cases h3 : op = 3 ∨ op = 18
  · have HR : Hid (b = inB n funs.length) := Lib.hid (hb.symm.trans (mayN_f h3))
    clear h1 hb
    have e3 : ((op : Int) == 3) = true ∨ ((op : Int) == 3) = false ∧ ((op : Int) == 18) = true := by
      rcases h3 with h | h
      · exact .inl (op_is h)
      · exact .inr ⟨op_no (m := 3) (by omega), op_is h⟩
    clear h3
    by_cases n0 : 0 ≤ n
    · by_cases n1 : n < funs.length
      · have HQ : Hid (b = true) := Lib.hid (by rw [HR.out, inB_iff]; exact ⟨n0, n1⟩)
        rcases e3 with e3 | ⟨e3, e4⟩
        all_goals
          go_enter Tryd.func98, Tryd.ntmps98
          go_wp2_with fail
          go_ret
          exact ⟨ret_bool HQ.out.symm, HB2.out _ _⟩
      · have HQ : Hid (b = false) := Lib.hid (by rw [HR.out, inB_not]; omega)
        rcases e3 with e3 | ⟨e3, e4⟩
        all_goals
          go_enter Tryd.func98, Tryd.ntmps98
          go_wp2_with fail
          go_ret
          exact ⟨ret_bool HQ.out.symm, HB2.out _ _⟩
    · have HQ : Hid (b = false) := Lib.hid (by rw [HR.out, inB_not]; omega)
      rcases e3 with e3 | ⟨e3, e4⟩
      all_goals
        go_enter Tryd.func98, Tryd.ntmps98
        go_wp2_with fail
        go_ret
        exact ⟨ret_bool HQ.out.symm, HB2.out _ _⟩
  have e3 : ((op : Int) == 3) = false := op_no (m := 3) (by omega)
  have e18 : ((op : Int) == 18) = false := op_no (m := 18) (by omega)
  by_cases h14 : op = 14
  · have e14 : ((op : Int) == 14) = true := op_is h14
    have HR : Hid (b = inB n 8) := Lib.hid (hb.symm.trans (mayN_p h14))
    clear h1 h3 h14 hb
    by_cases n0 : 0 ≤ n
    · by_cases n1 : n < 8
      · have HQ : Hid (b = true) := Lib.hid (by rw [HR.out, inB_iff]; exact ⟨n0, n1⟩)
        go_enter Tryd.func98, Tryd.ntmps98
        go_wp2_with fail
        go_ret
        exact ⟨ret_bool HQ.out.symm, HB2.out _ _⟩
      · have HQ : Hid (b = false) := Lib.hid (by rw [HR.out, inB_not]; omega)
        go_enter Tryd.func98, Tryd.ntmps98
        go_wp2_with fail
        go_ret
        exact ⟨ret_bool HQ.out.symm, HB2.out _ _⟩
    · have HQ : Hid (b = false) := Lib.hid (by rw [HR.out, inB_not]; omega)
      go_enter Tryd.func98, Tryd.ntmps98
      go_wp2_with fail
      go_ret
      exact ⟨ret_bool HQ.out.symm, HB2.out _ _⟩
  · have e14 : ((op : Int) == 14) = false := op_no h14
    have HR : Hid (b = decide (n = 0)) := Lib.hid (hb.symm.trans (mayN_o h1 (fun e => h3 (.inl e)) (fun e => h3 (.inr e)) h14))
    clear h1 h3 h14 hb
    by_cases n0 : n = 0
    · have HQ : Hid (b = true) := Lib.hid (by rw [HR.out]; exact decide_eq_true n0)
      subst n0
      go_enter Tryd.func98, Tryd.ntmps98
      go_wp2_with fail
      go_ret
      exact ⟨ret_bool HQ.out.symm, HB2.out _ _⟩
    · have HQ : Hid (b = false) := Lib.hid (by rw [HR.out]; exact decide_eq_false n0)
      have en : (n == 0) = false := beq_eq_false_iff_ne.2 n0
      clear n0
      go_enter Tryd.func98, Tryd.ntmps98
      go_wp2_with fail
      go_ret
      exact ⟨ret_bool HQ.out.symm, HB2.out _ _⟩
def endVal (x : PEnd) : Value := .agg #[.int .u8 x.kind, .int .i64 x.a, .int .i64 x.to, .int .i64 x.els]
theorem all1 (x m : Int) : allB [x] m = inB x m := by unfold allB; simp
theorem all2 (x y m : Int) : allB [x, y] m = (inB x m && inB y m) := by unfold allB; simp
set_option maxRecDepth 100000 in
set_option maxHeartbeats 3200000 in
theorem rmayEnd_any {w : World} (x : PEnd) (regs many : Int) :
    Calls Tryd.prog 82 #[endVal x, .int .i64 regs, .int .i64 many] w fun e w' => e = .returned (.bool (endB x regs many)) ∧ Below w.heap.size w w' := by
  obtain ⟨b, hb⟩ : ∃ b, endB x regs many = b := ⟨_, rfl⟩
  rw [hb]
  unfold endVal
  obtain ⟨kind, a, to, els⟩ := x
  unfold endB at hb
  dsimp only at *
  obtain ⟨W, hW⟩ : ∃ W, w.alloc (.cells #[.int .u8 kind, .int .i64 a, .int .i64 to, .int .i64 els] 26) = W := ⟨_, rfl⟩
  have one : ∀ (W : World) (g : Nat), W.heap.size = g → ∀ (y m : Int) (c : Bool), inB y m = c → Calls Tryd.prog 97 #[.slice (some ⟨g, 0, none⟩) 1 1, .int .i64 m] (W.alloc (.cells #[.int .i64 y] 3)) fun e w' => e = .returned (.bool c) ∧ Below W.heap.size W w' := fun W g hg y m c hc => by
    subst hg
    obtain ⟨i1, i2⟩ := ints_block (xs := [y]) (heap_at W (.cells #[.int .i64 y] 3) _ rfl) rfl (by show 1 ≤ 1000000; omega)
    refine (rbelow_is i1 i2 m ((all1 y m).trans hc)).mono ?_
    rintro e w' ⟨rfl, hb⟩
    exact ⟨rfl, ((Below.refl _ _).alloc (Nat.le_refl _) _).trans (hb.mono (by rw [World.size_alloc]; omega))⟩
  have two : ∀ (W : World) (g : Nat), W.heap.size = g → ∀ (y z m : Int) (c : Bool), (inB y m && inB z m) = c → Calls Tryd.prog 97 #[.slice (some ⟨g, 0, none⟩) 2 2, .int .i64 m] (W.alloc (.cells #[.int .i64 y, .int .i64 z] 3)) fun e w' => e = .returned (.bool c) ∧ Below W.heap.size W w' := fun W g hg y z m c hc => by
    subst hg
    obtain ⟨i1, i2⟩ := ints_block (xs := [y, z]) (heap_at W (.cells #[.int .i64 y, .int .i64 z] 3) _ rfl) rfl (by show 2 ≤ 1000000; omega)
    refine (rbelow_is i1 i2 m ((all2 y z m).trans hc)).mono ?_
    rintro e w' ⟨rfl, hb⟩
    exact ⟨rfl, ((Below.refl _ _).alloc (Nat.le_refl _) _).trans (hb.mono (by rw [World.size_alloc]; omega))⟩
  have ONE := Lib.hid one
  have TWO := Lib.hid two
  clear one two hW W
  have HB1 := Lib.hid (fun o => (Below.refl w.heap.size w).alloc (Nat.le_refl _) o)
  by_cases k1 : kind = 1
  · have e1 : ((kind : Int) == 1) = true := op_is k1
    rw [if_pos k1] at hb
    have HH := Lib.hid hb
    clear k1 hb
    by_cases a0 : a = 0
    · subst a0
      by_cases l0 : els = 0
      · subst l0
        have HQ : Hid (inB to many = b) := Lib.hid (by rw [← HH.out]; simp)
        go_enter Tryd.func82, Tryd.ntmps82
        go_wp2_with fail
        refine (ONE.out _ _ (World.size_alloc _ _) to many b HQ.out).mono ?_
        rintro e w1 ⟨rfl, hb1⟩
        have HB2 := Lib.hid ((HB1.out _).trans (hb1.mono (HB1.out _).size))
        clear hb1
        go_wp2_with fail
        go_ret
        exact ⟨rfl, HB2.out⟩
      · have HQ : Hid (b = false) := Lib.hid (by rw [← HH.out]; simp [l0])
        have en : (els == 0) = false := beq_eq_false_iff_ne.2 l0
        clear l0
        go_enter Tryd.func82, Tryd.ntmps82
        go_wp2_with fail
        go_ret
        exact ⟨ret_bool HQ.out.symm, HB1.out _⟩
    · have HQ : Hid (b = false) := Lib.hid (by rw [← HH.out]; simp [a0])
      have en : (a == 0) = false := beq_eq_false_iff_ne.2 a0
      clear a0
      go_enter Tryd.func82, Tryd.ntmps82
      go_wp2_with fail
      go_ret
      exact ⟨ret_bool HQ.out.symm, HB1.out _⟩
  rw [if_neg k1] at hb
  have e1 : ((kind : Int) == 1) = false := op_no k1
  clear k1
  by_cases k2 : kind = 2
  · have e2 : ((kind : Int) == 2) = true := op_is k2
    rw [if_pos k2] at hb
    have HH := Lib.hid hb
    clear k2 hb
    cases hc : inB a regs with
    | false =>
      have HC := Lib.hid hc
      have HQ : Hid (b = false) := Lib.hid (by rw [← HH.out, hc]; rfl)
      clear hc
      go_enter Tryd.func82, Tryd.ntmps82
      go_wp2_with fail
      refine (ONE.out _ _ (World.size_alloc _ _) a regs false HC.out).mono ?_
      rintro e w1 ⟨rfl, hb1⟩
      have HB2 := Lib.hid ((HB1.out _).trans (hb1.mono (HB1.out _).size))
      clear hb1
      go_wp2_with fail
      go_ret
      exact ⟨ret_bool HQ.out.symm, HB2.out⟩
    | true =>
      have HC := Lib.hid hc
      have HQ : Hid ((inB to many && inB els many) = b) := Lib.hid (by rw [← HH.out, hc]; rfl)
      clear hc
      have x2 : ∀ o : Obj, Hid (∀ w1, Below (w.alloc o).heap.size (w.alloc o) w1 → True) := fun o => Lib.hid (fun _ _ => trivial)
      clear x2
      have KX := Lib.hid (Blk.new w 26 #[.int .u8 kind, .int .i64 a, .int .i64 to, .int .i64 els])
      go_enter Tryd.func82, Tryd.ntmps82
      go_wp2_with fail
      refine (ONE.out _ _ (World.size_alloc _ _) a regs true HC.out).mono ?_
      rintro e w1 ⟨rfl, hb1⟩
      have HB2 := Lib.hid ((HB1.out _).trans (hb1.mono (HB1.out _).size))
      have KX1 := KX.out.beneath hb1
      have x2 := KX1.cells 2
      have x3 := KX1.cells 3
      clear hb1 KX1
      go_wp2_with fail
      refine (TWO.out _ _ rfl to els many b HQ.out).mono ?_
      rintro e w2 ⟨rfl, hb2⟩
      have HB3 := Lib.hid (HB2.out.trans (hb2.mono HB2.out.size))
      clear hb2
      go_wp2_with fail
      go_ret
      exact ⟨rfl, HB3.out⟩
  rw [if_neg k2] at hb
  have e2 : ((kind : Int) == 2) = false := op_no k2
  clear k2
  by_cases k3 : kind = 3
  · have e3 : ((kind : Int) == 3) = true := op_is k3
    rw [if_pos k3] at hb
    have HH := Lib.hid hb
    clear k3 hb
    by_cases a0 : to = 0
    · subst a0
      by_cases l0 : els = 0
      · subst l0
        have HQ : Hid (inB a regs = b) := Lib.hid (by rw [← HH.out]; simp)
        go_enter Tryd.func82, Tryd.ntmps82
        go_wp2_with fail
        refine (ONE.out _ _ (World.size_alloc _ _) a regs b HQ.out).mono ?_
        rintro e w1 ⟨rfl, hb1⟩
        have HB2 := Lib.hid ((HB1.out _).trans (hb1.mono (HB1.out _).size))
        clear hb1
        go_wp2_with fail
        go_ret
        exact ⟨rfl, HB2.out⟩
      · have HQ : Hid (b = false) := Lib.hid (by rw [← HH.out]; simp [l0])
        have en : (els == 0) = false := beq_eq_false_iff_ne.2 l0
        clear l0
        go_enter Tryd.func82, Tryd.ntmps82
        go_wp2_with fail
        go_ret
        exact ⟨ret_bool HQ.out.symm, HB1.out _⟩
    · have HQ : Hid (b = false) := Lib.hid (by rw [← HH.out]; simp [a0])
      have en : (to == 0) = false := beq_eq_false_iff_ne.2 a0
      clear a0
      go_enter Tryd.func82, Tryd.ntmps82
      go_wp2_with fail
      go_ret
      exact ⟨ret_bool HQ.out.symm, HB1.out _⟩
  · rw [if_neg k3] at hb
    have e3 : ((kind : Int) == 3) = false := op_no k3
    have HH := Lib.hid hb
    clear k3 hb
    go_enter Tryd.func82, Tryd.ntmps82
    go_wp2_with fail
    go_ret
    exact ⟨ret_bool HH.out, HB1.out _⟩
end Go.Proofs.YtcbhmpkginebaaaDoor
namespace Go.Proofs.YtcbhmpkginebaaaDoor
set_option linter.unusedVariables false
set_option linter.unusedSimpArgs false
open Go.ChangeShapes Go.WideShapes Go.ChangeAt Go.RowKit

/-- An instruction, its two lists somewhere. -/
abbrev insV (op : Nat) (ty a b n : Int) (A : Option Addr) (la ca : Nat) (F : Option Addr) (lf cf : Nat) : Value :=
  .agg #[.int .u8 op, .int .i64 ty, .int .i64 a, .int .i64 b, .int .i64 n, .slice A la ca, .slice F lf cf]
def usesL (b0 b1 b3 : Bool) (a b : Int) (args : List Int) : List Int := (if b0 then [a] else []) ++ (if b1 then [b] else []) ++ (if b3 then args else [])
def endsL (k a : Int) : List Int := if k = 2 ∨ k = 3 then [a] else []

set_option maxRecDepth 100000 in
set_option maxHeartbeats 1600000 in
theorem uses_any {op : Nat} {b0 b1 b2 b3 b4 b5 : Bool} (h : Has op b0 b1 b2 b3 b4 b5) (hop : op ≤ 255) (ty a b n : Int) {A : Option Addr} {ca : Nat} {args : List Int} (hd : Hdr A args.length ca) {w : World} (ht : TabW w) (ha : IntsAt w 0 w.heap.size A args) (hl : args.length ≤ 1000) (F : Option Addr) (lf cf : Nat) :
    Calls Tryd.prog 8 #[insV op ty a b n A args.length ca F lf cf] w (SomeInts (usesL b0 b1 b3 a b args) w) := by
  have hb0 : Below w.heap.size w (w.alloc (.cells #[.int .u8 op, .int .i64 ty, .int .i64 a, .int .i64 b, .int .i64 n, .slice A args.length ca, .slice F lf cf] 24)) := (Below.refl _ _).alloc (Nat.le_refl _) _
  have HQ0 := Lib.hid hb0
  have KX0 := Lib.hid (Blk.new w 24 #[.int .u8 op, .int .i64 ty, .int .i64 a, .int .i64 b, .int .i64 n, .slice A args.length ca, .slice F lf cf])
  have HA := Lib.hid ha
  have HT := Lib.hid (ht.on hb0)
  have HH := Lib.hid h
  clear ht h ha hb0
  cases b0 <;> cases b1 <;> cases b3
  rotate_left 7
  · go_enter Tryd.func8, Tryd.ntmps8
    have HO0 := Lib.hid (OwnInts.nil (w.alloc (.cells #[.int .u8 op, .int .i64 ty, .int .i64 a, .int .i64 b, .int .i64 n, .slice A args.length ca, .slice F lf cf] 24)) w.heap.size)
    have x0 := KX0.out.cells 0
    have x1 := KX0.out.cells 1
    have x2 := KX0.out.cells 2
    have x3 := KX0.out.cells 3
    have x4 := KX0.out.cells 4
    have x5 := KX0.out.cells 5
    have x6 := KX0.out.cells 6
    go_wp2_with fail
    refine (of_is HH.out hop _ HT.out).mono ?_
    rintro e w1 ⟨rfl, hb⟩
    clear x0 x1 x2 x3 x4 x5 x6
    have KX1 := Lib.hid (KX0.out.beneath hb)
    have HQ1 := Lib.hid (HQ0.out.trans (hb.mono HQ0.out.size))
    have HO1 := Lib.hid (HO0.out.keep hb)
    clear hb
    have hb : Below w1.heap.size w1 (w1.alloc (.cells #[.bool true, .bool true, .bool b2, .bool true, .bool b4, .bool b5] 65)) := (Below.refl _ _).alloc (Nat.le_refl _) _
    have KX2 := Lib.hid (KX1.out.beneath hb)
    have HQ2 := Lib.hid (HQ1.out.trans (hb.mono HQ1.out.size))
    have HO2 := Lib.hid (HO1.out.keep hb)
    clear hb
    have KH2 := Lib.hid (Blk.new w1 65 #[.bool true, .bool true, .bool b2, .bool true, .bool b4, .bool b5])
    have x0 := KX2.out.cells 0
    have x1 := KX2.out.cells 1
    have x2 := KX2.out.cells 2
    have x3 := KX2.out.cells 3
    have x4 := KX2.out.cells 4
    have x5 := KX2.out.cells 5
    have x6 := KX2.out.cells 6
    have g0 := KH2.out.cells 0
    have g1 := KH2.out.cells 1
    have g2 := KH2.out.cells 2
    have g3 := KH2.out.cells 3
    have g4 := KH2.out.cells 4
    have g5 := KH2.out.cells 5
    have hlo := HQ2.out.size
    go_wp2_with (at_builtin; refine wpList_app1 rfl (.tmp 9) (.tmp 12) rfl w.heap.size _ [] rfl a HO2.out (by first | rfl | (rw [World.size_alloc]; rfl)) (by simp) hlo ?_; intro v2 w2 hown hg; refine pause ?_)
    clear hlo
    clear x0 x1 x2 x3 x4 x5 x6 g0 g1 g2 g3 g4 g5
    have hne := HO2.out.base
    have KX3 := Lib.hid (Blk.grown (KX2.out.alloc _) hg (HO2.out.ne KX2.out (by decide)))
    have KH3 := Lib.hid (Blk.grown (KH2.out.alloc _) hg (HO2.out.ne KH2.out (by decide)))
    have HQ3 := Lib.hid (Below.grown (HQ2.out.alloc HQ2.out.size _) hg (HQ2.out.alloc HQ2.out.size _).size hne)
    have HO3 := Lib.hid hown
    clear hown hg hne
    refine resume ?_
    have x0 := KX3.out.cells 0
    have x1 := KX3.out.cells 1
    have x2 := KX3.out.cells 2
    have x3 := KX3.out.cells 3
    have x4 := KX3.out.cells 4
    have x5 := KX3.out.cells 5
    have x6 := KX3.out.cells 6
    have g0 := KH3.out.cells 0
    have g1 := KH3.out.cells 1
    have g2 := KH3.out.cells 2
    have g3 := KH3.out.cells 3
    have g4 := KH3.out.cells 4
    have g5 := KH3.out.cells 5
    have hlo := HQ3.out.size
    go_wp2_with (at_builtin; refine wpList_app1 rfl (.tmp 16) (.tmp 19) rfl w.heap.size _ ([] ++ [a]) rfl b HO3.out (by first | rfl | (rw [World.size_alloc]; rfl)) (by simp) hlo ?_; intro v3 w3 hown hg; refine pause ?_)
    clear hlo
    clear x0 x1 x2 x3 x4 x5 x6 g0 g1 g2 g3 g4 g5
    have hne := HO3.out.base
    have KX4 := Lib.hid (Blk.grown (KX3.out.alloc _) hg (HO3.out.ne KX3.out (by decide)))
    have KH4 := Lib.hid (Blk.grown (KH3.out.alloc _) hg (HO3.out.ne KH3.out (by decide)))
    have HQ4 := Lib.hid (Below.grown (HQ3.out.alloc HQ3.out.size _) hg (HQ3.out.alloc HQ3.out.size _).size hne)
    have HO4 := Lib.hid hown
    clear hown hg hne
    refine resume ?_
    have x0 := KX4.out.cells 0
    have x1 := KX4.out.cells 1
    have x2 := KX4.out.cells 2
    have x3 := KX4.out.cells 3
    have x4 := KX4.out.cells 4
    have x5 := KX4.out.cells 5
    have x6 := KX4.out.cells 6
    have g0 := KH4.out.cells 0
    have g1 := KH4.out.cells 1
    have g2 := KH4.out.cells 2
    have g3 := KH4.out.cells 3
    have g4 := KH4.out.cells 4
    have g5 := KH4.out.cells 5
    have hlo := HQ4.out.size
    go_wp2_with (at_builtin; refine wpList_appN rfl (.tmp 23) (.tmp 25) rfl w.heap.size 0 w.heap.size _ (([] ++ [a]) ++ [b]) rfl HO4.out A args.length ca args rfl rfl hd.nil (HA.out.keep HQ4.out) (by simp; omega) hlo ?_; intro v4 w4 hown hg; refine pause ?_)
    clear hlo
    clear x0 x1 x2 x3 x4 x5 x6 g0 g1 g2 g3 g4 g5
    have hne := HO4.out.base
    have KX5 := Lib.hid (Blk.grown KX4.out hg (HO4.out.ne KX4.out (by decide)))
    have KH5 := Lib.hid (Blk.grown KH4.out hg (HO4.out.ne KH4.out (by decide)))
    have HQ5 := Lib.hid (Below.grown HQ4.out hg HQ4.out.size hne)
    have HO5 := Lib.hid hown
    clear hown hg hne
    refine resume ?_
    have x0 := KX5.out.cells 0
    have x1 := KX5.out.cells 1
    have x2 := KX5.out.cells 2
    have x3 := KX5.out.cells 3
    have x4 := KX5.out.cells 4
    have x5 := KX5.out.cells 5
    have x6 := KX5.out.cells 6
    have g0 := KH5.out.cells 0
    have g1 := KH5.out.cells 1
    have g2 := KH5.out.cells 2
    have g3 := KH5.out.cells 3
    have g4 := KH5.out.cells 4
    have g5 := KH5.out.cells 5
    go_wp2_with fail
    go_ret
    refine ⟨_, rfl, ?_, HQ5.out⟩
    have hfin := HO5.out
    simpa [usesL] using hfin
  · go_enter Tryd.func8, Tryd.ntmps8
    have HO0 := Lib.hid (OwnInts.nil (w.alloc (.cells #[.int .u8 op, .int .i64 ty, .int .i64 a, .int .i64 b, .int .i64 n, .slice A args.length ca, .slice F lf cf] 24)) w.heap.size)
    have x0 := KX0.out.cells 0
    have x1 := KX0.out.cells 1
    have x2 := KX0.out.cells 2
    have x3 := KX0.out.cells 3
    have x4 := KX0.out.cells 4
    have x5 := KX0.out.cells 5
    have x6 := KX0.out.cells 6
    go_wp2_with fail
    refine (of_is HH.out hop _ HT.out).mono ?_
    rintro e w1 ⟨rfl, hb⟩
    clear x0 x1 x2 x3 x4 x5 x6
    have KX1 := Lib.hid (KX0.out.beneath hb)
    have HQ1 := Lib.hid (HQ0.out.trans (hb.mono HQ0.out.size))
    have HO1 := Lib.hid (HO0.out.keep hb)
    clear hb
    have hb : Below w1.heap.size w1 (w1.alloc (.cells #[.bool false, .bool false, .bool b2, .bool false, .bool b4, .bool b5] 65)) := (Below.refl _ _).alloc (Nat.le_refl _) _
    have KX2 := Lib.hid (KX1.out.beneath hb)
    have HQ2 := Lib.hid (HQ1.out.trans (hb.mono HQ1.out.size))
    have HO2 := Lib.hid (HO1.out.keep hb)
    clear hb
    have KH2 := Lib.hid (Blk.new w1 65 #[.bool false, .bool false, .bool b2, .bool false, .bool b4, .bool b5])
    have x0 := KX2.out.cells 0
    have x1 := KX2.out.cells 1
    have x2 := KX2.out.cells 2
    have x3 := KX2.out.cells 3
    have x4 := KX2.out.cells 4
    have x5 := KX2.out.cells 5
    have x6 := KX2.out.cells 6
    have g0 := KH2.out.cells 0
    have g1 := KH2.out.cells 1
    have g2 := KH2.out.cells 2
    have g3 := KH2.out.cells 3
    have g4 := KH2.out.cells 4
    have g5 := KH2.out.cells 5
    go_wp2_with fail
    go_ret
    refine ⟨_, rfl, ?_, HQ2.out⟩
    have hfin := HO2.out
    simpa [usesL] using hfin
  · go_enter Tryd.func8, Tryd.ntmps8
    have HO0 := Lib.hid (OwnInts.nil (w.alloc (.cells #[.int .u8 op, .int .i64 ty, .int .i64 a, .int .i64 b, .int .i64 n, .slice A args.length ca, .slice F lf cf] 24)) w.heap.size)
    have x0 := KX0.out.cells 0
    have x1 := KX0.out.cells 1
    have x2 := KX0.out.cells 2
    have x3 := KX0.out.cells 3
    have x4 := KX0.out.cells 4
    have x5 := KX0.out.cells 5
    have x6 := KX0.out.cells 6
    go_wp2_with fail
    refine (of_is HH.out hop _ HT.out).mono ?_
    rintro e w1 ⟨rfl, hb⟩
    clear x0 x1 x2 x3 x4 x5 x6
    have KX1 := Lib.hid (KX0.out.beneath hb)
    have HQ1 := Lib.hid (HQ0.out.trans (hb.mono HQ0.out.size))
    have HO1 := Lib.hid (HO0.out.keep hb)
    clear hb
    have hb : Below w1.heap.size w1 (w1.alloc (.cells #[.bool false, .bool false, .bool b2, .bool true, .bool b4, .bool b5] 65)) := (Below.refl _ _).alloc (Nat.le_refl _) _
    have KX2 := Lib.hid (KX1.out.beneath hb)
    have HQ2 := Lib.hid (HQ1.out.trans (hb.mono HQ1.out.size))
    have HO2 := Lib.hid (HO1.out.keep hb)
    clear hb
    have KH2 := Lib.hid (Blk.new w1 65 #[.bool false, .bool false, .bool b2, .bool true, .bool b4, .bool b5])
    have x0 := KX2.out.cells 0
    have x1 := KX2.out.cells 1
    have x2 := KX2.out.cells 2
    have x3 := KX2.out.cells 3
    have x4 := KX2.out.cells 4
    have x5 := KX2.out.cells 5
    have x6 := KX2.out.cells 6
    have g0 := KH2.out.cells 0
    have g1 := KH2.out.cells 1
    have g2 := KH2.out.cells 2
    have g3 := KH2.out.cells 3
    have g4 := KH2.out.cells 4
    have g5 := KH2.out.cells 5
    have hlo := HQ2.out.size
    go_wp2_with (at_builtin; refine wpList_appN rfl (.tmp 23) (.tmp 25) rfl w.heap.size 0 w.heap.size _ [] rfl HO2.out A args.length ca args rfl rfl hd.nil (HA.out.keep HQ2.out) (by simp; omega) hlo ?_; intro v2 w2 hown hg; refine pause ?_)
    clear hlo
    clear x0 x1 x2 x3 x4 x5 x6 g0 g1 g2 g3 g4 g5
    have hne := HO2.out.base
    have KX3 := Lib.hid (Blk.grown KX2.out hg (HO2.out.ne KX2.out (by decide)))
    have KH3 := Lib.hid (Blk.grown KH2.out hg (HO2.out.ne KH2.out (by decide)))
    have HQ3 := Lib.hid (Below.grown HQ2.out hg HQ2.out.size hne)
    have HO3 := Lib.hid hown
    clear hown hg hne
    refine resume ?_
    have x0 := KX3.out.cells 0
    have x1 := KX3.out.cells 1
    have x2 := KX3.out.cells 2
    have x3 := KX3.out.cells 3
    have x4 := KX3.out.cells 4
    have x5 := KX3.out.cells 5
    have x6 := KX3.out.cells 6
    have g0 := KH3.out.cells 0
    have g1 := KH3.out.cells 1
    have g2 := KH3.out.cells 2
    have g3 := KH3.out.cells 3
    have g4 := KH3.out.cells 4
    have g5 := KH3.out.cells 5
    go_wp2_with fail
    go_ret
    refine ⟨_, rfl, ?_, HQ3.out⟩
    have hfin := HO3.out
    simpa [usesL] using hfin
  · go_enter Tryd.func8, Tryd.ntmps8
    have HO0 := Lib.hid (OwnInts.nil (w.alloc (.cells #[.int .u8 op, .int .i64 ty, .int .i64 a, .int .i64 b, .int .i64 n, .slice A args.length ca, .slice F lf cf] 24)) w.heap.size)
    have x0 := KX0.out.cells 0
    have x1 := KX0.out.cells 1
    have x2 := KX0.out.cells 2
    have x3 := KX0.out.cells 3
    have x4 := KX0.out.cells 4
    have x5 := KX0.out.cells 5
    have x6 := KX0.out.cells 6
    go_wp2_with fail
    refine (of_is HH.out hop _ HT.out).mono ?_
    rintro e w1 ⟨rfl, hb⟩
    clear x0 x1 x2 x3 x4 x5 x6
    have KX1 := Lib.hid (KX0.out.beneath hb)
    have HQ1 := Lib.hid (HQ0.out.trans (hb.mono HQ0.out.size))
    have HO1 := Lib.hid (HO0.out.keep hb)
    clear hb
    have hb : Below w1.heap.size w1 (w1.alloc (.cells #[.bool false, .bool true, .bool b2, .bool false, .bool b4, .bool b5] 65)) := (Below.refl _ _).alloc (Nat.le_refl _) _
    have KX2 := Lib.hid (KX1.out.beneath hb)
    have HQ2 := Lib.hid (HQ1.out.trans (hb.mono HQ1.out.size))
    have HO2 := Lib.hid (HO1.out.keep hb)
    clear hb
    have KH2 := Lib.hid (Blk.new w1 65 #[.bool false, .bool true, .bool b2, .bool false, .bool b4, .bool b5])
    have x0 := KX2.out.cells 0
    have x1 := KX2.out.cells 1
    have x2 := KX2.out.cells 2
    have x3 := KX2.out.cells 3
    have x4 := KX2.out.cells 4
    have x5 := KX2.out.cells 5
    have x6 := KX2.out.cells 6
    have g0 := KH2.out.cells 0
    have g1 := KH2.out.cells 1
    have g2 := KH2.out.cells 2
    have g3 := KH2.out.cells 3
    have g4 := KH2.out.cells 4
    have g5 := KH2.out.cells 5
    have hlo := HQ2.out.size
    go_wp2_with (at_builtin; refine wpList_app1 rfl (.tmp 16) (.tmp 19) rfl w.heap.size _ [] rfl b HO2.out (by first | rfl | (rw [World.size_alloc]; rfl)) (by simp) hlo ?_; intro v2 w2 hown hg; refine pause ?_)
    clear hlo
    clear x0 x1 x2 x3 x4 x5 x6 g0 g1 g2 g3 g4 g5
    have hne := HO2.out.base
    have KX3 := Lib.hid (Blk.grown (KX2.out.alloc _) hg (HO2.out.ne KX2.out (by decide)))
    have KH3 := Lib.hid (Blk.grown (KH2.out.alloc _) hg (HO2.out.ne KH2.out (by decide)))
    have HQ3 := Lib.hid (Below.grown (HQ2.out.alloc HQ2.out.size _) hg (HQ2.out.alloc HQ2.out.size _).size hne)
    have HO3 := Lib.hid hown
    clear hown hg hne
    refine resume ?_
    have x0 := KX3.out.cells 0
    have x1 := KX3.out.cells 1
    have x2 := KX3.out.cells 2
    have x3 := KX3.out.cells 3
    have x4 := KX3.out.cells 4
    have x5 := KX3.out.cells 5
    have x6 := KX3.out.cells 6
    have g0 := KH3.out.cells 0
    have g1 := KH3.out.cells 1
    have g2 := KH3.out.cells 2
    have g3 := KH3.out.cells 3
    have g4 := KH3.out.cells 4
    have g5 := KH3.out.cells 5
    go_wp2_with fail
    go_ret
    refine ⟨_, rfl, ?_, HQ3.out⟩
    have hfin := HO3.out
    simpa [usesL] using hfin
  · go_enter Tryd.func8, Tryd.ntmps8
    have HO0 := Lib.hid (OwnInts.nil (w.alloc (.cells #[.int .u8 op, .int .i64 ty, .int .i64 a, .int .i64 b, .int .i64 n, .slice A args.length ca, .slice F lf cf] 24)) w.heap.size)
    have x0 := KX0.out.cells 0
    have x1 := KX0.out.cells 1
    have x2 := KX0.out.cells 2
    have x3 := KX0.out.cells 3
    have x4 := KX0.out.cells 4
    have x5 := KX0.out.cells 5
    have x6 := KX0.out.cells 6
    go_wp2_with fail
    refine (of_is HH.out hop _ HT.out).mono ?_
    rintro e w1 ⟨rfl, hb⟩
    clear x0 x1 x2 x3 x4 x5 x6
    have KX1 := Lib.hid (KX0.out.beneath hb)
    have HQ1 := Lib.hid (HQ0.out.trans (hb.mono HQ0.out.size))
    have HO1 := Lib.hid (HO0.out.keep hb)
    clear hb
    have hb : Below w1.heap.size w1 (w1.alloc (.cells #[.bool false, .bool true, .bool b2, .bool true, .bool b4, .bool b5] 65)) := (Below.refl _ _).alloc (Nat.le_refl _) _
    have KX2 := Lib.hid (KX1.out.beneath hb)
    have HQ2 := Lib.hid (HQ1.out.trans (hb.mono HQ1.out.size))
    have HO2 := Lib.hid (HO1.out.keep hb)
    clear hb
    have KH2 := Lib.hid (Blk.new w1 65 #[.bool false, .bool true, .bool b2, .bool true, .bool b4, .bool b5])
    have x0 := KX2.out.cells 0
    have x1 := KX2.out.cells 1
    have x2 := KX2.out.cells 2
    have x3 := KX2.out.cells 3
    have x4 := KX2.out.cells 4
    have x5 := KX2.out.cells 5
    have x6 := KX2.out.cells 6
    have g0 := KH2.out.cells 0
    have g1 := KH2.out.cells 1
    have g2 := KH2.out.cells 2
    have g3 := KH2.out.cells 3
    have g4 := KH2.out.cells 4
    have g5 := KH2.out.cells 5
    have hlo := HQ2.out.size
    go_wp2_with (at_builtin; refine wpList_app1 rfl (.tmp 16) (.tmp 19) rfl w.heap.size _ [] rfl b HO2.out (by first | rfl | (rw [World.size_alloc]; rfl)) (by simp) hlo ?_; intro v2 w2 hown hg; refine pause ?_)
    clear hlo
    clear x0 x1 x2 x3 x4 x5 x6 g0 g1 g2 g3 g4 g5
    have hne := HO2.out.base
    have KX3 := Lib.hid (Blk.grown (KX2.out.alloc _) hg (HO2.out.ne KX2.out (by decide)))
    have KH3 := Lib.hid (Blk.grown (KH2.out.alloc _) hg (HO2.out.ne KH2.out (by decide)))
    have HQ3 := Lib.hid (Below.grown (HQ2.out.alloc HQ2.out.size _) hg (HQ2.out.alloc HQ2.out.size _).size hne)
    have HO3 := Lib.hid hown
    clear hown hg hne
    refine resume ?_
    have x0 := KX3.out.cells 0
    have x1 := KX3.out.cells 1
    have x2 := KX3.out.cells 2
    have x3 := KX3.out.cells 3
    have x4 := KX3.out.cells 4
    have x5 := KX3.out.cells 5
    have x6 := KX3.out.cells 6
    have g0 := KH3.out.cells 0
    have g1 := KH3.out.cells 1
    have g2 := KH3.out.cells 2
    have g3 := KH3.out.cells 3
    have g4 := KH3.out.cells 4
    have g5 := KH3.out.cells 5
    have hlo := HQ3.out.size
    go_wp2_with (at_builtin; refine wpList_appN rfl (.tmp 23) (.tmp 25) rfl w.heap.size 0 w.heap.size _ ([] ++ [b]) rfl HO3.out A args.length ca args rfl rfl hd.nil (HA.out.keep HQ3.out) (by simp; omega) hlo ?_; intro v3 w3 hown hg; refine pause ?_)
    clear hlo
    clear x0 x1 x2 x3 x4 x5 x6 g0 g1 g2 g3 g4 g5
    have hne := HO3.out.base
    have KX4 := Lib.hid (Blk.grown KX3.out hg (HO3.out.ne KX3.out (by decide)))
    have KH4 := Lib.hid (Blk.grown KH3.out hg (HO3.out.ne KH3.out (by decide)))
    have HQ4 := Lib.hid (Below.grown HQ3.out hg HQ3.out.size hne)
    have HO4 := Lib.hid hown
    clear hown hg hne
    refine resume ?_
    have x0 := KX4.out.cells 0
    have x1 := KX4.out.cells 1
    have x2 := KX4.out.cells 2
    have x3 := KX4.out.cells 3
    have x4 := KX4.out.cells 4
    have x5 := KX4.out.cells 5
    have x6 := KX4.out.cells 6
    have g0 := KH4.out.cells 0
    have g1 := KH4.out.cells 1
    have g2 := KH4.out.cells 2
    have g3 := KH4.out.cells 3
    have g4 := KH4.out.cells 4
    have g5 := KH4.out.cells 5
    go_wp2_with fail
    go_ret
    refine ⟨_, rfl, ?_, HQ4.out⟩
    have hfin := HO4.out
    simpa [usesL] using hfin
  · go_enter Tryd.func8, Tryd.ntmps8
    have HO0 := Lib.hid (OwnInts.nil (w.alloc (.cells #[.int .u8 op, .int .i64 ty, .int .i64 a, .int .i64 b, .int .i64 n, .slice A args.length ca, .slice F lf cf] 24)) w.heap.size)
    have x0 := KX0.out.cells 0
    have x1 := KX0.out.cells 1
    have x2 := KX0.out.cells 2
    have x3 := KX0.out.cells 3
    have x4 := KX0.out.cells 4
    have x5 := KX0.out.cells 5
    have x6 := KX0.out.cells 6
    go_wp2_with fail
    refine (of_is HH.out hop _ HT.out).mono ?_
    rintro e w1 ⟨rfl, hb⟩
    clear x0 x1 x2 x3 x4 x5 x6
    have KX1 := Lib.hid (KX0.out.beneath hb)
    have HQ1 := Lib.hid (HQ0.out.trans (hb.mono HQ0.out.size))
    have HO1 := Lib.hid (HO0.out.keep hb)
    clear hb
    have hb : Below w1.heap.size w1 (w1.alloc (.cells #[.bool true, .bool false, .bool b2, .bool false, .bool b4, .bool b5] 65)) := (Below.refl _ _).alloc (Nat.le_refl _) _
    have KX2 := Lib.hid (KX1.out.beneath hb)
    have HQ2 := Lib.hid (HQ1.out.trans (hb.mono HQ1.out.size))
    have HO2 := Lib.hid (HO1.out.keep hb)
    clear hb
    have KH2 := Lib.hid (Blk.new w1 65 #[.bool true, .bool false, .bool b2, .bool false, .bool b4, .bool b5])
    have x0 := KX2.out.cells 0
    have x1 := KX2.out.cells 1
    have x2 := KX2.out.cells 2
    have x3 := KX2.out.cells 3
    have x4 := KX2.out.cells 4
    have x5 := KX2.out.cells 5
    have x6 := KX2.out.cells 6
    have g0 := KH2.out.cells 0
    have g1 := KH2.out.cells 1
    have g2 := KH2.out.cells 2
    have g3 := KH2.out.cells 3
    have g4 := KH2.out.cells 4
    have g5 := KH2.out.cells 5
    have hlo := HQ2.out.size
    go_wp2_with (at_builtin; refine wpList_app1 rfl (.tmp 9) (.tmp 12) rfl w.heap.size _ [] rfl a HO2.out (by first | rfl | (rw [World.size_alloc]; rfl)) (by simp) hlo ?_; intro v2 w2 hown hg; refine pause ?_)
    clear hlo
    clear x0 x1 x2 x3 x4 x5 x6 g0 g1 g2 g3 g4 g5
    have hne := HO2.out.base
    have KX3 := Lib.hid (Blk.grown (KX2.out.alloc _) hg (HO2.out.ne KX2.out (by decide)))
    have KH3 := Lib.hid (Blk.grown (KH2.out.alloc _) hg (HO2.out.ne KH2.out (by decide)))
    have HQ3 := Lib.hid (Below.grown (HQ2.out.alloc HQ2.out.size _) hg (HQ2.out.alloc HQ2.out.size _).size hne)
    have HO3 := Lib.hid hown
    clear hown hg hne
    refine resume ?_
    have x0 := KX3.out.cells 0
    have x1 := KX3.out.cells 1
    have x2 := KX3.out.cells 2
    have x3 := KX3.out.cells 3
    have x4 := KX3.out.cells 4
    have x5 := KX3.out.cells 5
    have x6 := KX3.out.cells 6
    have g0 := KH3.out.cells 0
    have g1 := KH3.out.cells 1
    have g2 := KH3.out.cells 2
    have g3 := KH3.out.cells 3
    have g4 := KH3.out.cells 4
    have g5 := KH3.out.cells 5
    go_wp2_with fail
    go_ret
    refine ⟨_, rfl, ?_, HQ3.out⟩
    have hfin := HO3.out
    simpa [usesL] using hfin
  · go_enter Tryd.func8, Tryd.ntmps8
    have HO0 := Lib.hid (OwnInts.nil (w.alloc (.cells #[.int .u8 op, .int .i64 ty, .int .i64 a, .int .i64 b, .int .i64 n, .slice A args.length ca, .slice F lf cf] 24)) w.heap.size)
    have x0 := KX0.out.cells 0
    have x1 := KX0.out.cells 1
    have x2 := KX0.out.cells 2
    have x3 := KX0.out.cells 3
    have x4 := KX0.out.cells 4
    have x5 := KX0.out.cells 5
    have x6 := KX0.out.cells 6
    go_wp2_with fail
    refine (of_is HH.out hop _ HT.out).mono ?_
    rintro e w1 ⟨rfl, hb⟩
    clear x0 x1 x2 x3 x4 x5 x6
    have KX1 := Lib.hid (KX0.out.beneath hb)
    have HQ1 := Lib.hid (HQ0.out.trans (hb.mono HQ0.out.size))
    have HO1 := Lib.hid (HO0.out.keep hb)
    clear hb
    have hb : Below w1.heap.size w1 (w1.alloc (.cells #[.bool true, .bool false, .bool b2, .bool true, .bool b4, .bool b5] 65)) := (Below.refl _ _).alloc (Nat.le_refl _) _
    have KX2 := Lib.hid (KX1.out.beneath hb)
    have HQ2 := Lib.hid (HQ1.out.trans (hb.mono HQ1.out.size))
    have HO2 := Lib.hid (HO1.out.keep hb)
    clear hb
    have KH2 := Lib.hid (Blk.new w1 65 #[.bool true, .bool false, .bool b2, .bool true, .bool b4, .bool b5])
    have x0 := KX2.out.cells 0
    have x1 := KX2.out.cells 1
    have x2 := KX2.out.cells 2
    have x3 := KX2.out.cells 3
    have x4 := KX2.out.cells 4
    have x5 := KX2.out.cells 5
    have x6 := KX2.out.cells 6
    have g0 := KH2.out.cells 0
    have g1 := KH2.out.cells 1
    have g2 := KH2.out.cells 2
    have g3 := KH2.out.cells 3
    have g4 := KH2.out.cells 4
    have g5 := KH2.out.cells 5
    have hlo := HQ2.out.size
    go_wp2_with (at_builtin; refine wpList_app1 rfl (.tmp 9) (.tmp 12) rfl w.heap.size _ [] rfl a HO2.out (by first | rfl | (rw [World.size_alloc]; rfl)) (by simp) hlo ?_; intro v2 w2 hown hg; refine pause ?_)
    clear hlo
    clear x0 x1 x2 x3 x4 x5 x6 g0 g1 g2 g3 g4 g5
    have hne := HO2.out.base
    have KX3 := Lib.hid (Blk.grown (KX2.out.alloc _) hg (HO2.out.ne KX2.out (by decide)))
    have KH3 := Lib.hid (Blk.grown (KH2.out.alloc _) hg (HO2.out.ne KH2.out (by decide)))
    have HQ3 := Lib.hid (Below.grown (HQ2.out.alloc HQ2.out.size _) hg (HQ2.out.alloc HQ2.out.size _).size hne)
    have HO3 := Lib.hid hown
    clear hown hg hne
    refine resume ?_
    have x0 := KX3.out.cells 0
    have x1 := KX3.out.cells 1
    have x2 := KX3.out.cells 2
    have x3 := KX3.out.cells 3
    have x4 := KX3.out.cells 4
    have x5 := KX3.out.cells 5
    have x6 := KX3.out.cells 6
    have g0 := KH3.out.cells 0
    have g1 := KH3.out.cells 1
    have g2 := KH3.out.cells 2
    have g3 := KH3.out.cells 3
    have g4 := KH3.out.cells 4
    have g5 := KH3.out.cells 5
    have hlo := HQ3.out.size
    go_wp2_with (at_builtin; refine wpList_appN rfl (.tmp 23) (.tmp 25) rfl w.heap.size 0 w.heap.size _ ([] ++ [a]) rfl HO3.out A args.length ca args rfl rfl hd.nil (HA.out.keep HQ3.out) (by simp; omega) hlo ?_; intro v3 w3 hown hg; refine pause ?_)
    clear hlo
    clear x0 x1 x2 x3 x4 x5 x6 g0 g1 g2 g3 g4 g5
    have hne := HO3.out.base
    have KX4 := Lib.hid (Blk.grown KX3.out hg (HO3.out.ne KX3.out (by decide)))
    have KH4 := Lib.hid (Blk.grown KH3.out hg (HO3.out.ne KH3.out (by decide)))
    have HQ4 := Lib.hid (Below.grown HQ3.out hg HQ3.out.size hne)
    have HO4 := Lib.hid hown
    clear hown hg hne
    refine resume ?_
    have x0 := KX4.out.cells 0
    have x1 := KX4.out.cells 1
    have x2 := KX4.out.cells 2
    have x3 := KX4.out.cells 3
    have x4 := KX4.out.cells 4
    have x5 := KX4.out.cells 5
    have x6 := KX4.out.cells 6
    have g0 := KH4.out.cells 0
    have g1 := KH4.out.cells 1
    have g2 := KH4.out.cells 2
    have g3 := KH4.out.cells 3
    have g4 := KH4.out.cells 4
    have g5 := KH4.out.cells 5
    go_wp2_with fail
    go_ret
    refine ⟨_, rfl, ?_, HQ4.out⟩
    have hfin := HO4.out
    simpa [usesL] using hfin
  · go_enter Tryd.func8, Tryd.ntmps8
    have HO0 := Lib.hid (OwnInts.nil (w.alloc (.cells #[.int .u8 op, .int .i64 ty, .int .i64 a, .int .i64 b, .int .i64 n, .slice A args.length ca, .slice F lf cf] 24)) w.heap.size)
    have x0 := KX0.out.cells 0
    have x1 := KX0.out.cells 1
    have x2 := KX0.out.cells 2
    have x3 := KX0.out.cells 3
    have x4 := KX0.out.cells 4
    have x5 := KX0.out.cells 5
    have x6 := KX0.out.cells 6
    go_wp2_with fail
    refine (of_is HH.out hop _ HT.out).mono ?_
    rintro e w1 ⟨rfl, hb⟩
    clear x0 x1 x2 x3 x4 x5 x6
    have KX1 := Lib.hid (KX0.out.beneath hb)
    have HQ1 := Lib.hid (HQ0.out.trans (hb.mono HQ0.out.size))
    have HO1 := Lib.hid (HO0.out.keep hb)
    clear hb
    have hb : Below w1.heap.size w1 (w1.alloc (.cells #[.bool true, .bool true, .bool b2, .bool false, .bool b4, .bool b5] 65)) := (Below.refl _ _).alloc (Nat.le_refl _) _
    have KX2 := Lib.hid (KX1.out.beneath hb)
    have HQ2 := Lib.hid (HQ1.out.trans (hb.mono HQ1.out.size))
    have HO2 := Lib.hid (HO1.out.keep hb)
    clear hb
    have KH2 := Lib.hid (Blk.new w1 65 #[.bool true, .bool true, .bool b2, .bool false, .bool b4, .bool b5])
    have x0 := KX2.out.cells 0
    have x1 := KX2.out.cells 1
    have x2 := KX2.out.cells 2
    have x3 := KX2.out.cells 3
    have x4 := KX2.out.cells 4
    have x5 := KX2.out.cells 5
    have x6 := KX2.out.cells 6
    have g0 := KH2.out.cells 0
    have g1 := KH2.out.cells 1
    have g2 := KH2.out.cells 2
    have g3 := KH2.out.cells 3
    have g4 := KH2.out.cells 4
    have g5 := KH2.out.cells 5
    have hlo := HQ2.out.size
    go_wp2_with (at_builtin; refine wpList_app1 rfl (.tmp 9) (.tmp 12) rfl w.heap.size _ [] rfl a HO2.out (by first | rfl | (rw [World.size_alloc]; rfl)) (by simp) hlo ?_; intro v2 w2 hown hg; refine pause ?_)
    clear hlo
    clear x0 x1 x2 x3 x4 x5 x6 g0 g1 g2 g3 g4 g5
    have hne := HO2.out.base
    have KX3 := Lib.hid (Blk.grown (KX2.out.alloc _) hg (HO2.out.ne KX2.out (by decide)))
    have KH3 := Lib.hid (Blk.grown (KH2.out.alloc _) hg (HO2.out.ne KH2.out (by decide)))
    have HQ3 := Lib.hid (Below.grown (HQ2.out.alloc HQ2.out.size _) hg (HQ2.out.alloc HQ2.out.size _).size hne)
    have HO3 := Lib.hid hown
    clear hown hg hne
    refine resume ?_
    have x0 := KX3.out.cells 0
    have x1 := KX3.out.cells 1
    have x2 := KX3.out.cells 2
    have x3 := KX3.out.cells 3
    have x4 := KX3.out.cells 4
    have x5 := KX3.out.cells 5
    have x6 := KX3.out.cells 6
    have g0 := KH3.out.cells 0
    have g1 := KH3.out.cells 1
    have g2 := KH3.out.cells 2
    have g3 := KH3.out.cells 3
    have g4 := KH3.out.cells 4
    have g5 := KH3.out.cells 5
    have hlo := HQ3.out.size
    go_wp2_with (at_builtin; refine wpList_app1 rfl (.tmp 16) (.tmp 19) rfl w.heap.size _ ([] ++ [a]) rfl b HO3.out (by first | rfl | (rw [World.size_alloc]; rfl)) (by simp) hlo ?_; intro v3 w3 hown hg; refine pause ?_)
    clear hlo
    clear x0 x1 x2 x3 x4 x5 x6 g0 g1 g2 g3 g4 g5
    have hne := HO3.out.base
    have KX4 := Lib.hid (Blk.grown (KX3.out.alloc _) hg (HO3.out.ne KX3.out (by decide)))
    have KH4 := Lib.hid (Blk.grown (KH3.out.alloc _) hg (HO3.out.ne KH3.out (by decide)))
    have HQ4 := Lib.hid (Below.grown (HQ3.out.alloc HQ3.out.size _) hg (HQ3.out.alloc HQ3.out.size _).size hne)
    have HO4 := Lib.hid hown
    clear hown hg hne
    refine resume ?_
    have x0 := KX4.out.cells 0
    have x1 := KX4.out.cells 1
    have x2 := KX4.out.cells 2
    have x3 := KX4.out.cells 3
    have x4 := KX4.out.cells 4
    have x5 := KX4.out.cells 5
    have x6 := KX4.out.cells 6
    have g0 := KH4.out.cells 0
    have g1 := KH4.out.cells 1
    have g2 := KH4.out.cells 2
    have g3 := KH4.out.cells 3
    have g4 := KH4.out.cells 4
    have g5 := KH4.out.cells 5
    go_wp2_with fail
    go_ret
    refine ⟨_, rfl, ?_, HQ4.out⟩
    have hfin := HO4.out
    simpa [usesL] using hfin
set_option maxRecDepth 100000 in
set_option maxHeartbeats 1600000 in
theorem ruses_any {op : Nat} {b0 b1 b3 : Bool} (h0 : hasT op 0 = b0) (h1 : hasT op 1 = b1) (h3 : hasT op 3 = b3) (ty a b n : Int) {A : Option Addr} {ca : Nat} {args : List Int} (hd : Hdr A args.length ca) {w : World} (ha : IntsAt w 0 w.heap.size A args) (hl : args.length ≤ 1000) (F : Option Addr) (lf cf : Nat) :
    Calls Tryd.prog 12 #[insV op ty a b n A args.length ca F lf cf] w (SomeInts (usesL b0 b1 b3 a b args) w) := by
  have hb0 : Below w.heap.size w (w.alloc (.cells #[.int .u8 op, .int .i64 ty, .int .i64 a, .int .i64 b, .int .i64 n, .slice A args.length ca, .slice F lf cf] 24)) := (Below.refl _ _).alloc (Nat.le_refl _) _
  have HQ0 := Lib.hid hb0
  have KX0 := Lib.hid (Blk.new w 24 #[.int .u8 op, .int .i64 ty, .int .i64 a, .int .i64 b, .int .i64 n, .slice A args.length ca, .slice F lf cf])
  have HA := Lib.hid ha
  have H0 := Lib.hid h0
  have H1 := Lib.hid h1
  have H3 := Lib.hid h3
  clear ha hb0 h0 h1 h3
  cases b0 <;> cases b1 <;> cases b3
  rotate_left 7
  · go_enter Tryd.func12, Tryd.ntmps12
    have HO0 := Lib.hid (OwnInts.nil (w.alloc (.cells #[.int .u8 op, .int .i64 ty, .int .i64 a, .int .i64 b, .int .i64 n, .slice A args.length ca, .slice F lf cf] 24)) w.heap.size)
    have x0 := KX0.out.cells 0
    have x1 := KX0.out.cells 1
    have x2 := KX0.out.cells 2
    have x3 := KX0.out.cells 3
    have x4 := KX0.out.cells 4
    have x5 := KX0.out.cells 5
    have x6 := KX0.out.cells 6
    go_wp2_with fail
    have hc := rhasa_any op (w.alloc (.cells #[.int .u8 op, .int .i64 ty, .int .i64 a, .int .i64 b, .int .i64 n, .slice A args.length ca, .slice F lf cf] 24))
    rw [H0.out] at hc
    refine hc.mono ?_
    clear hc
    rintro e w1 ⟨rfl, hb⟩
    clear x0 x1 x2 x3 x4 x5 x6
    have KX1 := Lib.hid (KX0.out.beneath hb)
    have HQ1 := Lib.hid (HQ0.out.trans (hb.mono HQ0.out.size))
    have HO1 := Lib.hid (HO0.out.keep hb)
    clear hb
    have x0 := KX1.out.cells 0
    have x1 := KX1.out.cells 1
    have x2 := KX1.out.cells 2
    have x3 := KX1.out.cells 3
    have x4 := KX1.out.cells 4
    have x5 := KX1.out.cells 5
    have x6 := KX1.out.cells 6
    have hlo := HQ1.out.size
    go_wp2_with (at_builtin; refine wpList_app1 rfl (.tmp 7) (.tmp 10) rfl w.heap.size _ [] rfl a HO1.out (by first | rfl | (rw [World.size_alloc]; rfl)) (by simp) hlo ?_; intro v2 w2 hown hg; refine pause ?_)
    clear hlo
    clear x0 x1 x2 x3 x4 x5 x6
    have hne := HO1.out.base
    have KX2 := Lib.hid (Blk.grown (KX1.out.alloc _) hg (HO1.out.ne KX1.out (by decide)))
    have HQ2 := Lib.hid (Below.grown (HQ1.out.alloc HQ1.out.size _) hg (HQ1.out.alloc HQ1.out.size _).size hne)
    have HO2 := Lib.hid hown
    clear hown hg hne
    refine resume ?_
    have x0 := KX2.out.cells 0
    have x1 := KX2.out.cells 1
    have x2 := KX2.out.cells 2
    have x3 := KX2.out.cells 3
    have x4 := KX2.out.cells 4
    have x5 := KX2.out.cells 5
    have x6 := KX2.out.cells 6
    go_wp2_with fail
    have hc := rtwo_any op w2
    rw [H1.out] at hc
    refine hc.mono ?_
    clear hc
    rintro e w3 ⟨rfl, hb⟩
    clear x0 x1 x2 x3 x4 x5 x6
    have KX3 := Lib.hid (KX2.out.beneath hb)
    have HQ3 := Lib.hid (HQ2.out.trans (hb.mono HQ2.out.size))
    have HO3 := Lib.hid (HO2.out.keep hb)
    clear hb
    have x0 := KX3.out.cells 0
    have x1 := KX3.out.cells 1
    have x2 := KX3.out.cells 2
    have x3 := KX3.out.cells 3
    have x4 := KX3.out.cells 4
    have x5 := KX3.out.cells 5
    have x6 := KX3.out.cells 6
    have hlo := HQ3.out.size
    go_wp2_with (at_builtin; refine wpList_app1 rfl (.tmp 15) (.tmp 18) rfl w.heap.size _ ([] ++ [a]) rfl b HO3.out (by first | rfl | (rw [World.size_alloc]; rfl)) (by simp) hlo ?_; intro v4 w4 hown hg; refine pause ?_)
    clear hlo
    clear x0 x1 x2 x3 x4 x5 x6
    have hne := HO3.out.base
    have KX4 := Lib.hid (Blk.grown (KX3.out.alloc _) hg (HO3.out.ne KX3.out (by decide)))
    have HQ4 := Lib.hid (Below.grown (HQ3.out.alloc HQ3.out.size _) hg (HQ3.out.alloc HQ3.out.size _).size hne)
    have HO4 := Lib.hid hown
    clear hown hg hne
    refine resume ?_
    have x0 := KX4.out.cells 0
    have x1 := KX4.out.cells 1
    have x2 := KX4.out.cells 2
    have x3 := KX4.out.cells 3
    have x4 := KX4.out.cells 4
    have x5 := KX4.out.cells 5
    have x6 := KX4.out.cells 6
    go_wp2_with fail
    have hc := rargs_any op w4
    rw [H3.out] at hc
    refine hc.mono ?_
    clear hc
    rintro e w5 ⟨rfl, hb⟩
    clear x0 x1 x2 x3 x4 x5 x6
    have KX5 := Lib.hid (KX4.out.beneath hb)
    have HQ5 := Lib.hid (HQ4.out.trans (hb.mono HQ4.out.size))
    have HO5 := Lib.hid (HO4.out.keep hb)
    clear hb
    have x0 := KX5.out.cells 0
    have x1 := KX5.out.cells 1
    have x2 := KX5.out.cells 2
    have x3 := KX5.out.cells 3
    have x4 := KX5.out.cells 4
    have x5 := KX5.out.cells 5
    have x6 := KX5.out.cells 6
    have hlo := HQ5.out.size
    go_wp2_with (at_builtin; refine wpList_appN rfl (.tmp 23) (.tmp 25) rfl w.heap.size 0 w.heap.size _ (([] ++ [a]) ++ [b]) rfl HO5.out A args.length ca args rfl rfl hd.nil (HA.out.keep HQ5.out) (by simp; omega) hlo ?_; intro v6 w6 hown hg; refine pause ?_)
    clear hlo
    clear x0 x1 x2 x3 x4 x5 x6
    have hne := HO5.out.base
    have KX6 := Lib.hid (Blk.grown KX5.out hg (HO5.out.ne KX5.out (by decide)))
    have HQ6 := Lib.hid (Below.grown HQ5.out hg HQ5.out.size hne)
    have HO6 := Lib.hid hown
    clear hown hg hne
    refine resume ?_
    have x0 := KX6.out.cells 0
    have x1 := KX6.out.cells 1
    have x2 := KX6.out.cells 2
    have x3 := KX6.out.cells 3
    have x4 := KX6.out.cells 4
    have x5 := KX6.out.cells 5
    have x6 := KX6.out.cells 6
    go_wp2_with fail
    go_ret
    refine ⟨_, rfl, ?_, HQ6.out⟩
    have hfin := HO6.out
    simpa [usesL] using hfin
  · go_enter Tryd.func12, Tryd.ntmps12
    have HO0 := Lib.hid (OwnInts.nil (w.alloc (.cells #[.int .u8 op, .int .i64 ty, .int .i64 a, .int .i64 b, .int .i64 n, .slice A args.length ca, .slice F lf cf] 24)) w.heap.size)
    have x0 := KX0.out.cells 0
    have x1 := KX0.out.cells 1
    have x2 := KX0.out.cells 2
    have x3 := KX0.out.cells 3
    have x4 := KX0.out.cells 4
    have x5 := KX0.out.cells 5
    have x6 := KX0.out.cells 6
    go_wp2_with fail
    have hc := rhasa_any op (w.alloc (.cells #[.int .u8 op, .int .i64 ty, .int .i64 a, .int .i64 b, .int .i64 n, .slice A args.length ca, .slice F lf cf] 24))
    rw [H0.out] at hc
    refine hc.mono ?_
    clear hc
    rintro e w1 ⟨rfl, hb⟩
    clear x0 x1 x2 x3 x4 x5 x6
    have KX1 := Lib.hid (KX0.out.beneath hb)
    have HQ1 := Lib.hid (HQ0.out.trans (hb.mono HQ0.out.size))
    have HO1 := Lib.hid (HO0.out.keep hb)
    clear hb
    have x0 := KX1.out.cells 0
    have x1 := KX1.out.cells 1
    have x2 := KX1.out.cells 2
    have x3 := KX1.out.cells 3
    have x4 := KX1.out.cells 4
    have x5 := KX1.out.cells 5
    have x6 := KX1.out.cells 6
    go_wp2_with fail
    have hc := rtwo_any op w1
    rw [H1.out] at hc
    refine hc.mono ?_
    clear hc
    rintro e w2 ⟨rfl, hb⟩
    clear x0 x1 x2 x3 x4 x5 x6
    have KX2 := Lib.hid (KX1.out.beneath hb)
    have HQ2 := Lib.hid (HQ1.out.trans (hb.mono HQ1.out.size))
    have HO2 := Lib.hid (HO1.out.keep hb)
    clear hb
    have x0 := KX2.out.cells 0
    have x1 := KX2.out.cells 1
    have x2 := KX2.out.cells 2
    have x3 := KX2.out.cells 3
    have x4 := KX2.out.cells 4
    have x5 := KX2.out.cells 5
    have x6 := KX2.out.cells 6
    go_wp2_with fail
    have hc := rargs_any op w2
    rw [H3.out] at hc
    refine hc.mono ?_
    clear hc
    rintro e w3 ⟨rfl, hb⟩
    clear x0 x1 x2 x3 x4 x5 x6
    have KX3 := Lib.hid (KX2.out.beneath hb)
    have HQ3 := Lib.hid (HQ2.out.trans (hb.mono HQ2.out.size))
    have HO3 := Lib.hid (HO2.out.keep hb)
    clear hb
    have x0 := KX3.out.cells 0
    have x1 := KX3.out.cells 1
    have x2 := KX3.out.cells 2
    have x3 := KX3.out.cells 3
    have x4 := KX3.out.cells 4
    have x5 := KX3.out.cells 5
    have x6 := KX3.out.cells 6
    go_wp2_with fail
    go_ret
    refine ⟨_, rfl, ?_, HQ3.out⟩
    have hfin := HO3.out
    simpa [usesL] using hfin
  · go_enter Tryd.func12, Tryd.ntmps12
    have HO0 := Lib.hid (OwnInts.nil (w.alloc (.cells #[.int .u8 op, .int .i64 ty, .int .i64 a, .int .i64 b, .int .i64 n, .slice A args.length ca, .slice F lf cf] 24)) w.heap.size)
    have x0 := KX0.out.cells 0
    have x1 := KX0.out.cells 1
    have x2 := KX0.out.cells 2
    have x3 := KX0.out.cells 3
    have x4 := KX0.out.cells 4
    have x5 := KX0.out.cells 5
    have x6 := KX0.out.cells 6
    go_wp2_with fail
    have hc := rhasa_any op (w.alloc (.cells #[.int .u8 op, .int .i64 ty, .int .i64 a, .int .i64 b, .int .i64 n, .slice A args.length ca, .slice F lf cf] 24))
    rw [H0.out] at hc
    refine hc.mono ?_
    clear hc
    rintro e w1 ⟨rfl, hb⟩
    clear x0 x1 x2 x3 x4 x5 x6
    have KX1 := Lib.hid (KX0.out.beneath hb)
    have HQ1 := Lib.hid (HQ0.out.trans (hb.mono HQ0.out.size))
    have HO1 := Lib.hid (HO0.out.keep hb)
    clear hb
    have x0 := KX1.out.cells 0
    have x1 := KX1.out.cells 1
    have x2 := KX1.out.cells 2
    have x3 := KX1.out.cells 3
    have x4 := KX1.out.cells 4
    have x5 := KX1.out.cells 5
    have x6 := KX1.out.cells 6
    go_wp2_with fail
    have hc := rtwo_any op w1
    rw [H1.out] at hc
    refine hc.mono ?_
    clear hc
    rintro e w2 ⟨rfl, hb⟩
    clear x0 x1 x2 x3 x4 x5 x6
    have KX2 := Lib.hid (KX1.out.beneath hb)
    have HQ2 := Lib.hid (HQ1.out.trans (hb.mono HQ1.out.size))
    have HO2 := Lib.hid (HO1.out.keep hb)
    clear hb
    have x0 := KX2.out.cells 0
    have x1 := KX2.out.cells 1
    have x2 := KX2.out.cells 2
    have x3 := KX2.out.cells 3
    have x4 := KX2.out.cells 4
    have x5 := KX2.out.cells 5
    have x6 := KX2.out.cells 6
    go_wp2_with fail
    have hc := rargs_any op w2
    rw [H3.out] at hc
    refine hc.mono ?_
    clear hc
    rintro e w3 ⟨rfl, hb⟩
    clear x0 x1 x2 x3 x4 x5 x6
    have KX3 := Lib.hid (KX2.out.beneath hb)
    have HQ3 := Lib.hid (HQ2.out.trans (hb.mono HQ2.out.size))
    have HO3 := Lib.hid (HO2.out.keep hb)
    clear hb
    have x0 := KX3.out.cells 0
    have x1 := KX3.out.cells 1
    have x2 := KX3.out.cells 2
    have x3 := KX3.out.cells 3
    have x4 := KX3.out.cells 4
    have x5 := KX3.out.cells 5
    have x6 := KX3.out.cells 6
    have hlo := HQ3.out.size
    go_wp2_with (at_builtin; refine wpList_appN rfl (.tmp 23) (.tmp 25) rfl w.heap.size 0 w.heap.size _ [] rfl HO3.out A args.length ca args rfl rfl hd.nil (HA.out.keep HQ3.out) (by simp; omega) hlo ?_; intro v4 w4 hown hg; refine pause ?_)
    clear hlo
    clear x0 x1 x2 x3 x4 x5 x6
    have hne := HO3.out.base
    have KX4 := Lib.hid (Blk.grown KX3.out hg (HO3.out.ne KX3.out (by decide)))
    have HQ4 := Lib.hid (Below.grown HQ3.out hg HQ3.out.size hne)
    have HO4 := Lib.hid hown
    clear hown hg hne
    refine resume ?_
    have x0 := KX4.out.cells 0
    have x1 := KX4.out.cells 1
    have x2 := KX4.out.cells 2
    have x3 := KX4.out.cells 3
    have x4 := KX4.out.cells 4
    have x5 := KX4.out.cells 5
    have x6 := KX4.out.cells 6
    go_wp2_with fail
    go_ret
    refine ⟨_, rfl, ?_, HQ4.out⟩
    have hfin := HO4.out
    simpa [usesL] using hfin
  · go_enter Tryd.func12, Tryd.ntmps12
    have HO0 := Lib.hid (OwnInts.nil (w.alloc (.cells #[.int .u8 op, .int .i64 ty, .int .i64 a, .int .i64 b, .int .i64 n, .slice A args.length ca, .slice F lf cf] 24)) w.heap.size)
    have x0 := KX0.out.cells 0
    have x1 := KX0.out.cells 1
    have x2 := KX0.out.cells 2
    have x3 := KX0.out.cells 3
    have x4 := KX0.out.cells 4
    have x5 := KX0.out.cells 5
    have x6 := KX0.out.cells 6
    go_wp2_with fail
    have hc := rhasa_any op (w.alloc (.cells #[.int .u8 op, .int .i64 ty, .int .i64 a, .int .i64 b, .int .i64 n, .slice A args.length ca, .slice F lf cf] 24))
    rw [H0.out] at hc
    refine hc.mono ?_
    clear hc
    rintro e w1 ⟨rfl, hb⟩
    clear x0 x1 x2 x3 x4 x5 x6
    have KX1 := Lib.hid (KX0.out.beneath hb)
    have HQ1 := Lib.hid (HQ0.out.trans (hb.mono HQ0.out.size))
    have HO1 := Lib.hid (HO0.out.keep hb)
    clear hb
    have x0 := KX1.out.cells 0
    have x1 := KX1.out.cells 1
    have x2 := KX1.out.cells 2
    have x3 := KX1.out.cells 3
    have x4 := KX1.out.cells 4
    have x5 := KX1.out.cells 5
    have x6 := KX1.out.cells 6
    go_wp2_with fail
    have hc := rtwo_any op w1
    rw [H1.out] at hc
    refine hc.mono ?_
    clear hc
    rintro e w2 ⟨rfl, hb⟩
    clear x0 x1 x2 x3 x4 x5 x6
    have KX2 := Lib.hid (KX1.out.beneath hb)
    have HQ2 := Lib.hid (HQ1.out.trans (hb.mono HQ1.out.size))
    have HO2 := Lib.hid (HO1.out.keep hb)
    clear hb
    have x0 := KX2.out.cells 0
    have x1 := KX2.out.cells 1
    have x2 := KX2.out.cells 2
    have x3 := KX2.out.cells 3
    have x4 := KX2.out.cells 4
    have x5 := KX2.out.cells 5
    have x6 := KX2.out.cells 6
    have hlo := HQ2.out.size
    go_wp2_with (at_builtin; refine wpList_app1 rfl (.tmp 15) (.tmp 18) rfl w.heap.size _ [] rfl b HO2.out (by first | rfl | (rw [World.size_alloc]; rfl)) (by simp) hlo ?_; intro v3 w3 hown hg; refine pause ?_)
    clear hlo
    clear x0 x1 x2 x3 x4 x5 x6
    have hne := HO2.out.base
    have KX3 := Lib.hid (Blk.grown (KX2.out.alloc _) hg (HO2.out.ne KX2.out (by decide)))
    have HQ3 := Lib.hid (Below.grown (HQ2.out.alloc HQ2.out.size _) hg (HQ2.out.alloc HQ2.out.size _).size hne)
    have HO3 := Lib.hid hown
    clear hown hg hne
    refine resume ?_
    have x0 := KX3.out.cells 0
    have x1 := KX3.out.cells 1
    have x2 := KX3.out.cells 2
    have x3 := KX3.out.cells 3
    have x4 := KX3.out.cells 4
    have x5 := KX3.out.cells 5
    have x6 := KX3.out.cells 6
    go_wp2_with fail
    have hc := rargs_any op w3
    rw [H3.out] at hc
    refine hc.mono ?_
    clear hc
    rintro e w4 ⟨rfl, hb⟩
    clear x0 x1 x2 x3 x4 x5 x6
    have KX4 := Lib.hid (KX3.out.beneath hb)
    have HQ4 := Lib.hid (HQ3.out.trans (hb.mono HQ3.out.size))
    have HO4 := Lib.hid (HO3.out.keep hb)
    clear hb
    have x0 := KX4.out.cells 0
    have x1 := KX4.out.cells 1
    have x2 := KX4.out.cells 2
    have x3 := KX4.out.cells 3
    have x4 := KX4.out.cells 4
    have x5 := KX4.out.cells 5
    have x6 := KX4.out.cells 6
    go_wp2_with fail
    go_ret
    refine ⟨_, rfl, ?_, HQ4.out⟩
    have hfin := HO4.out
    simpa [usesL] using hfin
  · go_enter Tryd.func12, Tryd.ntmps12
    have HO0 := Lib.hid (OwnInts.nil (w.alloc (.cells #[.int .u8 op, .int .i64 ty, .int .i64 a, .int .i64 b, .int .i64 n, .slice A args.length ca, .slice F lf cf] 24)) w.heap.size)
    have x0 := KX0.out.cells 0
    have x1 := KX0.out.cells 1
    have x2 := KX0.out.cells 2
    have x3 := KX0.out.cells 3
    have x4 := KX0.out.cells 4
    have x5 := KX0.out.cells 5
    have x6 := KX0.out.cells 6
    go_wp2_with fail
    have hc := rhasa_any op (w.alloc (.cells #[.int .u8 op, .int .i64 ty, .int .i64 a, .int .i64 b, .int .i64 n, .slice A args.length ca, .slice F lf cf] 24))
    rw [H0.out] at hc
    refine hc.mono ?_
    clear hc
    rintro e w1 ⟨rfl, hb⟩
    clear x0 x1 x2 x3 x4 x5 x6
    have KX1 := Lib.hid (KX0.out.beneath hb)
    have HQ1 := Lib.hid (HQ0.out.trans (hb.mono HQ0.out.size))
    have HO1 := Lib.hid (HO0.out.keep hb)
    clear hb
    have x0 := KX1.out.cells 0
    have x1 := KX1.out.cells 1
    have x2 := KX1.out.cells 2
    have x3 := KX1.out.cells 3
    have x4 := KX1.out.cells 4
    have x5 := KX1.out.cells 5
    have x6 := KX1.out.cells 6
    go_wp2_with fail
    have hc := rtwo_any op w1
    rw [H1.out] at hc
    refine hc.mono ?_
    clear hc
    rintro e w2 ⟨rfl, hb⟩
    clear x0 x1 x2 x3 x4 x5 x6
    have KX2 := Lib.hid (KX1.out.beneath hb)
    have HQ2 := Lib.hid (HQ1.out.trans (hb.mono HQ1.out.size))
    have HO2 := Lib.hid (HO1.out.keep hb)
    clear hb
    have x0 := KX2.out.cells 0
    have x1 := KX2.out.cells 1
    have x2 := KX2.out.cells 2
    have x3 := KX2.out.cells 3
    have x4 := KX2.out.cells 4
    have x5 := KX2.out.cells 5
    have x6 := KX2.out.cells 6
    have hlo := HQ2.out.size
    go_wp2_with (at_builtin; refine wpList_app1 rfl (.tmp 15) (.tmp 18) rfl w.heap.size _ [] rfl b HO2.out (by first | rfl | (rw [World.size_alloc]; rfl)) (by simp) hlo ?_; intro v3 w3 hown hg; refine pause ?_)
    clear hlo
    clear x0 x1 x2 x3 x4 x5 x6
    have hne := HO2.out.base
    have KX3 := Lib.hid (Blk.grown (KX2.out.alloc _) hg (HO2.out.ne KX2.out (by decide)))
    have HQ3 := Lib.hid (Below.grown (HQ2.out.alloc HQ2.out.size _) hg (HQ2.out.alloc HQ2.out.size _).size hne)
    have HO3 := Lib.hid hown
    clear hown hg hne
    refine resume ?_
    have x0 := KX3.out.cells 0
    have x1 := KX3.out.cells 1
    have x2 := KX3.out.cells 2
    have x3 := KX3.out.cells 3
    have x4 := KX3.out.cells 4
    have x5 := KX3.out.cells 5
    have x6 := KX3.out.cells 6
    go_wp2_with fail
    have hc := rargs_any op w3
    rw [H3.out] at hc
    refine hc.mono ?_
    clear hc
    rintro e w4 ⟨rfl, hb⟩
    clear x0 x1 x2 x3 x4 x5 x6
    have KX4 := Lib.hid (KX3.out.beneath hb)
    have HQ4 := Lib.hid (HQ3.out.trans (hb.mono HQ3.out.size))
    have HO4 := Lib.hid (HO3.out.keep hb)
    clear hb
    have x0 := KX4.out.cells 0
    have x1 := KX4.out.cells 1
    have x2 := KX4.out.cells 2
    have x3 := KX4.out.cells 3
    have x4 := KX4.out.cells 4
    have x5 := KX4.out.cells 5
    have x6 := KX4.out.cells 6
    have hlo := HQ4.out.size
    go_wp2_with (at_builtin; refine wpList_appN rfl (.tmp 23) (.tmp 25) rfl w.heap.size 0 w.heap.size _ ([] ++ [b]) rfl HO4.out A args.length ca args rfl rfl hd.nil (HA.out.keep HQ4.out) (by simp; omega) hlo ?_; intro v5 w5 hown hg; refine pause ?_)
    clear hlo
    clear x0 x1 x2 x3 x4 x5 x6
    have hne := HO4.out.base
    have KX5 := Lib.hid (Blk.grown KX4.out hg (HO4.out.ne KX4.out (by decide)))
    have HQ5 := Lib.hid (Below.grown HQ4.out hg HQ4.out.size hne)
    have HO5 := Lib.hid hown
    clear hown hg hne
    refine resume ?_
    have x0 := KX5.out.cells 0
    have x1 := KX5.out.cells 1
    have x2 := KX5.out.cells 2
    have x3 := KX5.out.cells 3
    have x4 := KX5.out.cells 4
    have x5 := KX5.out.cells 5
    have x6 := KX5.out.cells 6
    go_wp2_with fail
    go_ret
    refine ⟨_, rfl, ?_, HQ5.out⟩
    have hfin := HO5.out
    simpa [usesL] using hfin
  · go_enter Tryd.func12, Tryd.ntmps12
    have HO0 := Lib.hid (OwnInts.nil (w.alloc (.cells #[.int .u8 op, .int .i64 ty, .int .i64 a, .int .i64 b, .int .i64 n, .slice A args.length ca, .slice F lf cf] 24)) w.heap.size)
    have x0 := KX0.out.cells 0
    have x1 := KX0.out.cells 1
    have x2 := KX0.out.cells 2
    have x3 := KX0.out.cells 3
    have x4 := KX0.out.cells 4
    have x5 := KX0.out.cells 5
    have x6 := KX0.out.cells 6
    go_wp2_with fail
    have hc := rhasa_any op (w.alloc (.cells #[.int .u8 op, .int .i64 ty, .int .i64 a, .int .i64 b, .int .i64 n, .slice A args.length ca, .slice F lf cf] 24))
    rw [H0.out] at hc
    refine hc.mono ?_
    clear hc
    rintro e w1 ⟨rfl, hb⟩
    clear x0 x1 x2 x3 x4 x5 x6
    have KX1 := Lib.hid (KX0.out.beneath hb)
    have HQ1 := Lib.hid (HQ0.out.trans (hb.mono HQ0.out.size))
    have HO1 := Lib.hid (HO0.out.keep hb)
    clear hb
    have x0 := KX1.out.cells 0
    have x1 := KX1.out.cells 1
    have x2 := KX1.out.cells 2
    have x3 := KX1.out.cells 3
    have x4 := KX1.out.cells 4
    have x5 := KX1.out.cells 5
    have x6 := KX1.out.cells 6
    have hlo := HQ1.out.size
    go_wp2_with (at_builtin; refine wpList_app1 rfl (.tmp 7) (.tmp 10) rfl w.heap.size _ [] rfl a HO1.out (by first | rfl | (rw [World.size_alloc]; rfl)) (by simp) hlo ?_; intro v2 w2 hown hg; refine pause ?_)
    clear hlo
    clear x0 x1 x2 x3 x4 x5 x6
    have hne := HO1.out.base
    have KX2 := Lib.hid (Blk.grown (KX1.out.alloc _) hg (HO1.out.ne KX1.out (by decide)))
    have HQ2 := Lib.hid (Below.grown (HQ1.out.alloc HQ1.out.size _) hg (HQ1.out.alloc HQ1.out.size _).size hne)
    have HO2 := Lib.hid hown
    clear hown hg hne
    refine resume ?_
    have x0 := KX2.out.cells 0
    have x1 := KX2.out.cells 1
    have x2 := KX2.out.cells 2
    have x3 := KX2.out.cells 3
    have x4 := KX2.out.cells 4
    have x5 := KX2.out.cells 5
    have x6 := KX2.out.cells 6
    go_wp2_with fail
    have hc := rtwo_any op w2
    rw [H1.out] at hc
    refine hc.mono ?_
    clear hc
    rintro e w3 ⟨rfl, hb⟩
    clear x0 x1 x2 x3 x4 x5 x6
    have KX3 := Lib.hid (KX2.out.beneath hb)
    have HQ3 := Lib.hid (HQ2.out.trans (hb.mono HQ2.out.size))
    have HO3 := Lib.hid (HO2.out.keep hb)
    clear hb
    have x0 := KX3.out.cells 0
    have x1 := KX3.out.cells 1
    have x2 := KX3.out.cells 2
    have x3 := KX3.out.cells 3
    have x4 := KX3.out.cells 4
    have x5 := KX3.out.cells 5
    have x6 := KX3.out.cells 6
    go_wp2_with fail
    have hc := rargs_any op w3
    rw [H3.out] at hc
    refine hc.mono ?_
    clear hc
    rintro e w4 ⟨rfl, hb⟩
    clear x0 x1 x2 x3 x4 x5 x6
    have KX4 := Lib.hid (KX3.out.beneath hb)
    have HQ4 := Lib.hid (HQ3.out.trans (hb.mono HQ3.out.size))
    have HO4 := Lib.hid (HO3.out.keep hb)
    clear hb
    have x0 := KX4.out.cells 0
    have x1 := KX4.out.cells 1
    have x2 := KX4.out.cells 2
    have x3 := KX4.out.cells 3
    have x4 := KX4.out.cells 4
    have x5 := KX4.out.cells 5
    have x6 := KX4.out.cells 6
    go_wp2_with fail
    go_ret
    refine ⟨_, rfl, ?_, HQ4.out⟩
    have hfin := HO4.out
    simpa [usesL] using hfin
  · go_enter Tryd.func12, Tryd.ntmps12
    have HO0 := Lib.hid (OwnInts.nil (w.alloc (.cells #[.int .u8 op, .int .i64 ty, .int .i64 a, .int .i64 b, .int .i64 n, .slice A args.length ca, .slice F lf cf] 24)) w.heap.size)
    have x0 := KX0.out.cells 0
    have x1 := KX0.out.cells 1
    have x2 := KX0.out.cells 2
    have x3 := KX0.out.cells 3
    have x4 := KX0.out.cells 4
    have x5 := KX0.out.cells 5
    have x6 := KX0.out.cells 6
    go_wp2_with fail
    have hc := rhasa_any op (w.alloc (.cells #[.int .u8 op, .int .i64 ty, .int .i64 a, .int .i64 b, .int .i64 n, .slice A args.length ca, .slice F lf cf] 24))
    rw [H0.out] at hc
    refine hc.mono ?_
    clear hc
    rintro e w1 ⟨rfl, hb⟩
    clear x0 x1 x2 x3 x4 x5 x6
    have KX1 := Lib.hid (KX0.out.beneath hb)
    have HQ1 := Lib.hid (HQ0.out.trans (hb.mono HQ0.out.size))
    have HO1 := Lib.hid (HO0.out.keep hb)
    clear hb
    have x0 := KX1.out.cells 0
    have x1 := KX1.out.cells 1
    have x2 := KX1.out.cells 2
    have x3 := KX1.out.cells 3
    have x4 := KX1.out.cells 4
    have x5 := KX1.out.cells 5
    have x6 := KX1.out.cells 6
    have hlo := HQ1.out.size
    go_wp2_with (at_builtin; refine wpList_app1 rfl (.tmp 7) (.tmp 10) rfl w.heap.size _ [] rfl a HO1.out (by first | rfl | (rw [World.size_alloc]; rfl)) (by simp) hlo ?_; intro v2 w2 hown hg; refine pause ?_)
    clear hlo
    clear x0 x1 x2 x3 x4 x5 x6
    have hne := HO1.out.base
    have KX2 := Lib.hid (Blk.grown (KX1.out.alloc _) hg (HO1.out.ne KX1.out (by decide)))
    have HQ2 := Lib.hid (Below.grown (HQ1.out.alloc HQ1.out.size _) hg (HQ1.out.alloc HQ1.out.size _).size hne)
    have HO2 := Lib.hid hown
    clear hown hg hne
    refine resume ?_
    have x0 := KX2.out.cells 0
    have x1 := KX2.out.cells 1
    have x2 := KX2.out.cells 2
    have x3 := KX2.out.cells 3
    have x4 := KX2.out.cells 4
    have x5 := KX2.out.cells 5
    have x6 := KX2.out.cells 6
    go_wp2_with fail
    have hc := rtwo_any op w2
    rw [H1.out] at hc
    refine hc.mono ?_
    clear hc
    rintro e w3 ⟨rfl, hb⟩
    clear x0 x1 x2 x3 x4 x5 x6
    have KX3 := Lib.hid (KX2.out.beneath hb)
    have HQ3 := Lib.hid (HQ2.out.trans (hb.mono HQ2.out.size))
    have HO3 := Lib.hid (HO2.out.keep hb)
    clear hb
    have x0 := KX3.out.cells 0
    have x1 := KX3.out.cells 1
    have x2 := KX3.out.cells 2
    have x3 := KX3.out.cells 3
    have x4 := KX3.out.cells 4
    have x5 := KX3.out.cells 5
    have x6 := KX3.out.cells 6
    go_wp2_with fail
    have hc := rargs_any op w3
    rw [H3.out] at hc
    refine hc.mono ?_
    clear hc
    rintro e w4 ⟨rfl, hb⟩
    clear x0 x1 x2 x3 x4 x5 x6
    have KX4 := Lib.hid (KX3.out.beneath hb)
    have HQ4 := Lib.hid (HQ3.out.trans (hb.mono HQ3.out.size))
    have HO4 := Lib.hid (HO3.out.keep hb)
    clear hb
    have x0 := KX4.out.cells 0
    have x1 := KX4.out.cells 1
    have x2 := KX4.out.cells 2
    have x3 := KX4.out.cells 3
    have x4 := KX4.out.cells 4
    have x5 := KX4.out.cells 5
    have x6 := KX4.out.cells 6
    have hlo := HQ4.out.size
    go_wp2_with (at_builtin; refine wpList_appN rfl (.tmp 23) (.tmp 25) rfl w.heap.size 0 w.heap.size _ ([] ++ [a]) rfl HO4.out A args.length ca args rfl rfl hd.nil (HA.out.keep HQ4.out) (by simp; omega) hlo ?_; intro v5 w5 hown hg; refine pause ?_)
    clear hlo
    clear x0 x1 x2 x3 x4 x5 x6
    have hne := HO4.out.base
    have KX5 := Lib.hid (Blk.grown KX4.out hg (HO4.out.ne KX4.out (by decide)))
    have HQ5 := Lib.hid (Below.grown HQ4.out hg HQ4.out.size hne)
    have HO5 := Lib.hid hown
    clear hown hg hne
    refine resume ?_
    have x0 := KX5.out.cells 0
    have x1 := KX5.out.cells 1
    have x2 := KX5.out.cells 2
    have x3 := KX5.out.cells 3
    have x4 := KX5.out.cells 4
    have x5 := KX5.out.cells 5
    have x6 := KX5.out.cells 6
    go_wp2_with fail
    go_ret
    refine ⟨_, rfl, ?_, HQ5.out⟩
    have hfin := HO5.out
    simpa [usesL] using hfin
  · go_enter Tryd.func12, Tryd.ntmps12
    have HO0 := Lib.hid (OwnInts.nil (w.alloc (.cells #[.int .u8 op, .int .i64 ty, .int .i64 a, .int .i64 b, .int .i64 n, .slice A args.length ca, .slice F lf cf] 24)) w.heap.size)
    have x0 := KX0.out.cells 0
    have x1 := KX0.out.cells 1
    have x2 := KX0.out.cells 2
    have x3 := KX0.out.cells 3
    have x4 := KX0.out.cells 4
    have x5 := KX0.out.cells 5
    have x6 := KX0.out.cells 6
    go_wp2_with fail
    have hc := rhasa_any op (w.alloc (.cells #[.int .u8 op, .int .i64 ty, .int .i64 a, .int .i64 b, .int .i64 n, .slice A args.length ca, .slice F lf cf] 24))
    rw [H0.out] at hc
    refine hc.mono ?_
    clear hc
    rintro e w1 ⟨rfl, hb⟩
    clear x0 x1 x2 x3 x4 x5 x6
    have KX1 := Lib.hid (KX0.out.beneath hb)
    have HQ1 := Lib.hid (HQ0.out.trans (hb.mono HQ0.out.size))
    have HO1 := Lib.hid (HO0.out.keep hb)
    clear hb
    have x0 := KX1.out.cells 0
    have x1 := KX1.out.cells 1
    have x2 := KX1.out.cells 2
    have x3 := KX1.out.cells 3
    have x4 := KX1.out.cells 4
    have x5 := KX1.out.cells 5
    have x6 := KX1.out.cells 6
    have hlo := HQ1.out.size
    go_wp2_with (at_builtin; refine wpList_app1 rfl (.tmp 7) (.tmp 10) rfl w.heap.size _ [] rfl a HO1.out (by first | rfl | (rw [World.size_alloc]; rfl)) (by simp) hlo ?_; intro v2 w2 hown hg; refine pause ?_)
    clear hlo
    clear x0 x1 x2 x3 x4 x5 x6
    have hne := HO1.out.base
    have KX2 := Lib.hid (Blk.grown (KX1.out.alloc _) hg (HO1.out.ne KX1.out (by decide)))
    have HQ2 := Lib.hid (Below.grown (HQ1.out.alloc HQ1.out.size _) hg (HQ1.out.alloc HQ1.out.size _).size hne)
    have HO2 := Lib.hid hown
    clear hown hg hne
    refine resume ?_
    have x0 := KX2.out.cells 0
    have x1 := KX2.out.cells 1
    have x2 := KX2.out.cells 2
    have x3 := KX2.out.cells 3
    have x4 := KX2.out.cells 4
    have x5 := KX2.out.cells 5
    have x6 := KX2.out.cells 6
    go_wp2_with fail
    have hc := rtwo_any op w2
    rw [H1.out] at hc
    refine hc.mono ?_
    clear hc
    rintro e w3 ⟨rfl, hb⟩
    clear x0 x1 x2 x3 x4 x5 x6
    have KX3 := Lib.hid (KX2.out.beneath hb)
    have HQ3 := Lib.hid (HQ2.out.trans (hb.mono HQ2.out.size))
    have HO3 := Lib.hid (HO2.out.keep hb)
    clear hb
    have x0 := KX3.out.cells 0
    have x1 := KX3.out.cells 1
    have x2 := KX3.out.cells 2
    have x3 := KX3.out.cells 3
    have x4 := KX3.out.cells 4
    have x5 := KX3.out.cells 5
    have x6 := KX3.out.cells 6
    have hlo := HQ3.out.size
    go_wp2_with (at_builtin; refine wpList_app1 rfl (.tmp 15) (.tmp 18) rfl w.heap.size _ ([] ++ [a]) rfl b HO3.out (by first | rfl | (rw [World.size_alloc]; rfl)) (by simp) hlo ?_; intro v4 w4 hown hg; refine pause ?_)
    clear hlo
    clear x0 x1 x2 x3 x4 x5 x6
    have hne := HO3.out.base
    have KX4 := Lib.hid (Blk.grown (KX3.out.alloc _) hg (HO3.out.ne KX3.out (by decide)))
    have HQ4 := Lib.hid (Below.grown (HQ3.out.alloc HQ3.out.size _) hg (HQ3.out.alloc HQ3.out.size _).size hne)
    have HO4 := Lib.hid hown
    clear hown hg hne
    refine resume ?_
    have x0 := KX4.out.cells 0
    have x1 := KX4.out.cells 1
    have x2 := KX4.out.cells 2
    have x3 := KX4.out.cells 3
    have x4 := KX4.out.cells 4
    have x5 := KX4.out.cells 5
    have x6 := KX4.out.cells 6
    go_wp2_with fail
    have hc := rargs_any op w4
    rw [H3.out] at hc
    refine hc.mono ?_
    clear hc
    rintro e w5 ⟨rfl, hb⟩
    clear x0 x1 x2 x3 x4 x5 x6
    have KX5 := Lib.hid (KX4.out.beneath hb)
    have HQ5 := Lib.hid (HQ4.out.trans (hb.mono HQ4.out.size))
    have HO5 := Lib.hid (HO4.out.keep hb)
    clear hb
    have x0 := KX5.out.cells 0
    have x1 := KX5.out.cells 1
    have x2 := KX5.out.cells 2
    have x3 := KX5.out.cells 3
    have x4 := KX5.out.cells 4
    have x5 := KX5.out.cells 5
    have x6 := KX5.out.cells 6
    go_wp2_with fail
    go_ret
    refine ⟨_, rfl, ?_, HQ5.out⟩
    have hfin := HO5.out
    simpa [usesL] using hfin
theorem ends_any (k a t e : Int) (w : World) : Calls Tryd.prog 13 #[.agg #[.int .u8 k, .int .i64 a, .int .i64 t, .int .i64 e]] w (SomeInts (endsL k a) w) := by
  have KX := Lib.hid (Blk.new w 26 #[.int .u8 k, .int .i64 a, .int .i64 t, .int .i64 e])
  have HQ : Hid (Below w.heap.size w (w.alloc (.cells #[.int .u8 k, .int .i64 a, .int .i64 t, .int .i64 e] 26))) := Lib.hid ((Below.refl _ _).alloc (Nat.le_refl _) _)
  have x0 := KX.out.cells 0
  have x1 := KX.out.cells 1
  have hk : k = 2 ∨ k = 3 ∨ (¬ k = 2 ∧ ¬ k = 3) := by omega
  rcases hk with rfl | rfl | ⟨h2, h3⟩
  · go_enter Tryd.func13, Tryd.ntmps13
    go_wp2_with fail
    go_ret
    refine ⟨_, rfl, ?_, HQ.out.alloc HQ.out.size _⟩
    have h9 := World.ownsRow_lit (base := w.heap.size) (e := 3) (size := 1) (w.alloc (.cells #[.int .u8 2, .int .i64 a, .int .i64 t, .int .i64 e] 26)) #[.int .i64 a] 1 HQ.out.size (by unfold maxLen; omega) rfl
    unfold OwnInts
    simpa [endsL] using h9
  · go_enter Tryd.func13, Tryd.ntmps13
    go_wp2_with fail
    go_ret
    refine ⟨_, rfl, ?_, HQ.out.alloc HQ.out.size _⟩
    have h9 := World.ownsRow_lit (base := w.heap.size) (e := 3) (size := 1) (w.alloc (.cells #[.int .u8 3, .int .i64 a, .int .i64 t, .int .i64 e] 26)) #[.int .i64 a] 1 HQ.out.size (by unfold maxLen; omega) rfl
    unfold OwnInts
    simpa [endsL] using h9
  · have hb2 : (k == 2) = false := beq_eq_false_iff_ne.2 h2
    have hb3 : (k == 3) = false := beq_eq_false_iff_ne.2 h3
    go_enter Tryd.func13, Tryd.ntmps13
    go_wp2_with fail
    go_ret
    refine ⟨_, rfl, ?_, HQ.out⟩
    unfold endsL
    rw [if_neg (by omega)]
    exact OwnInts.nil _ _
theorem rends_any (k a t e : Int) (w : World) : Calls Tryd.prog 14 #[.agg #[.int .u8 k, .int .i64 a, .int .i64 t, .int .i64 e]] w (SomeInts (endsL k a) w) := by
  have KX := Lib.hid (Blk.new w 26 #[.int .u8 k, .int .i64 a, .int .i64 t, .int .i64 e])
  have HQ : Hid (Below w.heap.size w (w.alloc (.cells #[.int .u8 k, .int .i64 a, .int .i64 t, .int .i64 e] 26))) := Lib.hid ((Below.refl _ _).alloc (Nat.le_refl _) _)
  have x0 := KX.out.cells 0
  have x1 := KX.out.cells 1
  have hk : k = 2 ∨ k = 3 ∨ (¬ k = 2 ∧ ¬ k = 3) := by omega
  rcases hk with rfl | rfl | ⟨h2, h3⟩
  · go_enter Tryd.func14, Tryd.ntmps14
    go_wp2_with fail
    go_ret
    refine ⟨_, rfl, ?_, HQ.out.alloc HQ.out.size _⟩
    have h9 := World.ownsRow_lit (base := w.heap.size) (e := 3) (size := 1) (w.alloc (.cells #[.int .u8 2, .int .i64 a, .int .i64 t, .int .i64 e] 26)) #[.int .i64 a] 1 HQ.out.size (by unfold maxLen; omega) rfl
    unfold OwnInts
    simpa [endsL] using h9
  · go_enter Tryd.func14, Tryd.ntmps14
    go_wp2_with fail
    go_ret
    refine ⟨_, rfl, ?_, HQ.out.alloc HQ.out.size _⟩
    have h9 := World.ownsRow_lit (base := w.heap.size) (e := 3) (size := 1) (w.alloc (.cells #[.int .u8 3, .int .i64 a, .int .i64 t, .int .i64 e] 26)) #[.int .i64 a] 1 HQ.out.size (by unfold maxLen; omega) rfl
    unfold OwnInts
    simpa [endsL] using h9
  · have hb2 : (k == 2) = false := beq_eq_false_iff_ne.2 h2
    have hb3 : (k == 3) = false := beq_eq_false_iff_ne.2 h3
    go_enter Tryd.func14, Tryd.ntmps14
    go_wp2_with fail
    go_ret
    refine ⟨_, rfl, ?_, HQ.out⟩
    unfold endsL
    rw [if_neg (by omega)]
    exact OwnInts.nil _ _
end Go.Proofs.YtcbhmpkginebaaaDoor
namespace Go.Proofs.YtcbhmpkginebaaaDoor
set_option linter.unusedVariables false
set_option linter.unusedSimpArgs false
open Go.RowKit

theorem wpList_appS {P : Program} {w : World} {ops : Array Oper} {rest : List Oper} {o : Oper} {a : Act} {Q : Exit → Act → World → Prop} (hgd : o.guard = none) (s x : Operand) (t e : TypeId)
    (ho : o.op = .call { callee := .builtin .append, args := #[s, x], argTypes := #[t, t] })
    (i : TypeInfo) (z : Value) (size bytes : Nat) (ht : P.underlying t = some (.slice e)) (hi : P.info? e = some i) (hz : i.zero = some z)
    (hsize : i.size = size) (hby : i.bytes = bytes) (hzs : z.cells.size = size) (hsz : 0 < size)
    (base : Nat) (v : Value) (n : Nat) (xs : List Value) (hs : a.eval s = v) (hown : w.ownsRow base e size v n xs)
    (news : Array Value) (hx : a.eval x = .slice (some ⟨w.heap.size, 0, none⟩) 1 1) (hl : news.size = size) (h1 : ∀ u ∈ news.toList, u.oneCell' = true)
    (hn : n ≤ 1000000) (hbb : bytes ≤ 1000) (hbase : base ≤ w.heap.size)
    (h : ∀ v' w', w'.ownsRow base e size v' (n + 1) (xs ++ news.toList) → (w.alloc (.cells news e)).grownBy w' v.ownBlock → wpList P ops Q rest (a.put o.dst v') w') :
    wpList P ops Q (o :: rest) a (w.alloc (.cells news e)) := by
  refine wpList_app hgd s x t ho base e i z size bytes ht hi hz hsize hby hzs hsz v n xs hs (World.ownsRow.alloc hown _) _ 1 1 news.toList hx (fun h => by cases h) (by rw [Array.length_toList, hl, Nat.one_mul]) ?_ h1 ?_ ?_ ?_ h
  · intro ad had j u hj
    injection had with had
    subst had
    rw [add_lit, Nat.zero_add, World.cell?, show (w.alloc (.cells news e)).heap = w.heap.push (.cells news e) from rfl, Array.getElem?_push_size]
    simpa using hj
  · unfold maxLen; omega
  · have : (n + 1) * bytes ≤ 1000001 * 1000 := Nat.mul_le_mul (by omega) hbb
    omega
  · rw [World.size_alloc]; omega
theorem ownsRow_keep {w w' : World} {lo : Nat} {e : TypeId} {size n : Nat} {v : Value} {xs : List Value} (h : w.ownsRow lo e size v n xs) (hb : Below w.heap.size w w') : w'.ownsRow lo e size v n xs := by
  refine ⟨h.1, ?_⟩
  rcases h.2 with h1 | ⟨g, cap, cur, h1, h2, h3, h4⟩
  · exact .inl h1
  · exact .inr ⟨g, cap, cur, h1, h2, (hb.block g (Array.getElem?_eq_some_iff.1 h3).1).trans h3, h4⟩
theorem ownsRow_more {w : World} {lo lo' : Nat} {e : TypeId} {size n : Nat} {v : Value} {xs : List Value} (h : w.ownsRow lo e size v n xs) (hl : lo' ≤ lo) : w.ownsRow lo' e size v n xs := by
  refine ⟨h.1, ?_⟩
  rcases h.2 with h1 | ⟨g, cap, cur, h1, h2, h3⟩
  · exact .inl h1
  · exact .inr ⟨g, cap, cur, h1, Nat.le_trans hl h2, h3⟩
/-- A row of the call's own, read. -/
theorem ownsRow_form {w : World} {lo : Nat} {e : TypeId} {size n : Nat} {v : Value} {xs : List Value} (h : w.ownsRow lo e size v n xs) (hsz : 0 < size) :
    ∃ A c, v = .slice A n c ∧ n ≤ c ∧ c ≤ maxLen ∧ (A = none → n = 0 ∧ c = 0) ∧ CellsAt w lo w.heap.size A size n fun i j => xs.getD (i * size + j) undef := by
  rcases h.2 with ⟨rfl, rfl⟩ | ⟨g, cap, cur, rfl, hb, hh, hle, hm, hs, htk⟩
  · exact ⟨none, 0, rfl, Nat.le_refl _, by unfold maxLen; omega, fun _ => ⟨rfl, rfl⟩, CellsAt.empty⟩
  · refine ⟨_, cap, rfl, hle, hm, (fun e => by cases e), fun hn => ⟨g, 0, rfl, hb, (Array.getElem?_eq_some_iff.1 hh).1, fun i hi j hj => ?_⟩⟩
    have hij : i * size + j < n * size := by
      have := Nat.mul_le_mul_right size (show i + 1 ≤ n from hi)
      rw [Nat.add_mul, Nat.one_mul] at this
      omega
    have hlen := h.1
    rw [Nat.zero_add, cell_of_row w g (i * size + j) cur e (0, 0) hh, ← Array.getElem?_toList, ← (show (cur.toList.take (n * size))[i * size + j]? = cur.toList[i * size + j]? from by rw [List.getElem?_take, if_pos hij]), htk]
    show _ = some (xs.getD (i * size + j) undef)
    rw [List.getD_eq_getElem?_getD, List.getElem?_eq_getElem (by omega)]
    rfl
end Go.Proofs.YtcbhmpkginebaaaDoor
namespace Go.Proofs.YtcbhmpkginebaaaDoor
set_option linter.unusedVariables false
set_option linter.unusedSimpArgs false
open Go.ChangeShapes Go.WideShapes Go.ChangeAt Go.RowKit

def TyR.cells4 (r : TyR) : List Value := [.int .u8 r.kind, .int .i64 r.elem, .int .i64 r.many, .slice r.pa r.parts.length r.pc]
structure OwnTys (w : World) (lo : Nat) (v : Value) (rows : List TyR) : Prop where
  row : w.ownsRow lo 78 4 v rows.length (rows.flatMap TyR.cells4)
  inner : ∀ r ∈ rows, OwnInts w lo (.slice r.pa r.parts.length r.pc) r.parts ∧ r.kind ≤ 255
theorem flat_getD {α : Type} (f : α → List Value) (size : Nat) (hf : ∀ x, (f x).length = size) (d : α) : ∀ (l : List α) (i j : Nat), i < l.length → j < size → (l.flatMap f).getD (i * size + j) undef = (f (l.getD i d)).getD j undef
  | x :: l, 0, j, _, hj => by
    rw [List.flatMap_cons, Nat.zero_mul, Nat.zero_add, List.getD_eq_getElem?_getD, List.getElem?_append_left (by rw [hf]; exact hj), ← List.getD_eq_getElem?_getD]
    rfl
  | x :: l, i + 1, j, hi, hj => by
    rw [List.flatMap_cons, List.getD_eq_getElem?_getD, List.getElem?_append_right (by rw [hf, Nat.add_mul]; omega), hf, show (i + 1) * size + j - size = i * size + j by rw [Nat.add_mul]; omega, ← List.getD_eq_getElem?_getD, flat_getD f size hf d l i j (by simpa using hi) hj]
    rfl
theorem own_hdr {w : World} {lo : Nat} {A : Option Addr} {c : Nat} {xs : List Int} (h : OwnInts w lo (.slice A xs.length c) xs) : Hdr A xs.length c ∧ IntsAt w lo w.heap.size A xs := by
  obtain ⟨A', c', e, hnil, hints, hle, hcap⟩ := h.form
  injection e with e1 e2 e3
  subst e1 e3
  exact ⟨⟨hle, hcap, hnil⟩, hints⟩
section
variable {w w' : World} {lo lo' : Nat} {v : Value} {rows : List TyR}
theorem OwnTys.nil (w : World) (lo : Nat) : OwnTys w lo (.slice none 0 0) [] := ⟨World.ownsRow_nil _ _ _ _, fun r hr => by cases hr⟩
theorem OwnTys.keep (h : OwnTys w lo v rows) (hb : Below w.heap.size w w') : OwnTys w' lo v rows := ⟨ownsRow_keep h.row hb, fun r hr => ⟨(h.inner r hr).1.keep hb, (h.inner r hr).2⟩⟩
theorem OwnTys.more (h : OwnTys w lo v rows) (hl : lo' ≤ lo) : OwnTys w lo' v rows := ⟨ownsRow_more h.row hl, fun r hr => ⟨(h.inner r hr).1.more hl, (h.inner r hr).2⟩⟩
theorem OwnTys.form (h : OwnTys w lo v rows) : ∃ A c, v = .slice A rows.length c ∧ Hdr A rows.length c ∧ TypsAt w lo w.heap.size A rows := by
  obtain ⟨A, c, hv, hle, hcap, hnil, hc⟩ := ownsRow_form h.row (by omega)
  refine ⟨A, c, hv, ⟨hle, hcap, hnil⟩, ⟨hc.congr fun i hi j hj => ?_, fun r hr => ?_⟩⟩
  · rw [flat_getD TyR.cells4 4 (fun _ => rfl) default rows i j hi hj]
    match j, hj with
    | 0, _ => rfl
    | 1, _ => rfl
    | 2, _ => rfl
    | 3, _ => rfl
  · obtain ⟨h1, h2⟩ := h.inner r hr
    obtain ⟨h3, h4⟩ := own_hdr h1
    exact ⟨h2, h3, h4⟩
/-- One row more. -/
theorem OwnTys.push {r : TyR} (h : OwnTys w lo v rows) {v' : Value} (hr : w'.ownsRow lo 78 4 v' (rows.length + 1) (rows.flatMap TyR.cells4 ++ r.cells4))
    (hg : w.grownBy w' v.ownBlock) (hne : ∀ r ∈ rows, (Value.slice r.pa r.parts.length r.pc).ownBlock = none ∨ (Value.slice r.pa r.parts.length r.pc).ownBlock ≠ v.ownBlock) (hi : OwnInts w lo (.slice r.pa r.parts.length r.pc) r.parts) (hne' : (Value.slice r.pa r.parts.length r.pc).ownBlock = none ∨ (Value.slice r.pa r.parts.length r.pc).ownBlock ≠ v.ownBlock) (hk : r.kind ≤ 255) : OwnTys w' lo v' (rows ++ [r]) := by
  refine ⟨by rw [List.length_append, List.flatMap_append]; simpa using hr, fun q hq => ?_⟩
  rcases List.mem_append.1 hq with hq | hq
  · obtain ⟨h1, h2⟩ := h.inner q hq
    exact ⟨World.ownsRow.kept h1 hg (hne q hq), h2⟩
  · obtain rfl := List.mem_singleton.1 hq
    exact ⟨World.ownsRow.kept hi hg hne', hk⟩
end
/-- Rows of two types are two rows. -/
theorem rows_ne {w : World} {lo lo' : Nat} {e e' : TypeId} {size size' n n' : Nat} {v v' : Value} {xs xs' : List Value} (h : w.ownsRow lo e size v n xs) (h' : w.ownsRow lo' e' size' v' n' xs') (hne : e ≠ e') : v.ownBlock = none ∨ v.ownBlock ≠ v'.ownBlock := by
  rcases h.2 with ⟨rfl, _⟩ | ⟨g, cap, cur, rfl, hb, hh, _⟩
  · exact .inl rfl
  · right
    rcases h'.2 with ⟨rfl, _⟩ | ⟨g', cap', cur', rfl, hb', hh', _⟩
    · simp [Value.ownBlock]
    · intro he
      have : g = g' := by simpa [Value.ownBlock] using he
      subst this
      rw [hh] at hh'
      injection hh' with hh'
      injection hh' with _ ht _
      exact hne ht
end Go.Proofs.YtcbhmpkginebaaaDoor
