/-
  What operations have: the program's table, and the reference's words for it.
-/
import Derived.Test.YtcbhmpkginebaaaDoorAppInts
import Derived.Test.YtcbhmpkginebaaaDoorLoops
import Derived.WalkKit
import Derived.ProofKit
import Derived.OpenShut
import Derived.Outline
import Derived.Deep.Light
import Derived.Lib.Hide
namespace Go.Proofs.YtcbhmpkginebaaaDoor
set_option linter.unusedVariables false
set_option linter.unusedSimpArgs false
open Go.ChangeShapes Go.WideShapes Go.ChangeAt Go.RowKit

/-- What an operation has: the table of shape. -/
def hasT (op : Nat) (j : Nat) : Bool := match j with
  | 0 => (4 ≤ op && op ≤ 10) || op == 13 || op == 14 || op == 15 || op == 16 || op == 17 || op == 19 || op == 21
  | 1 => (4 ≤ op && op ≤ 10) || op == 15 || op == 17
  | 2 => op == 1 || op == 3 || op == 14 || op == 18
  | 3 => op == 18 || op == 19 || op == 22
  | 4 => op == 22
  | _ => 1 ≤ op && op ≤ 22 && op != 13 && op != 17 && op != 21
def TabW (w : World) : Prop := ∀ i, i < 23 → ∀ j, j < 6 → w.cell? ⟨0, i * 6 + j, none⟩ = some (.bool (hasT i j))
theorem TabW.on {w w' : World} (h : TabW w) (hb : Below w.heap.size w w') : TabW w' := fun i hi j hj => by
  have h1 := h i hi j hj
  exact (hb.cell (p := ⟨0, i * 6 + j, none⟩) (World.block_lt_of_cell? w _ h1)).trans h1
def hasV (op : Nat) : Value := .agg #[.bool (hasT op 0), .bool (hasT op 1), .bool (hasT op 2), .bool (hasT op 3), .bool (hasT op 4), .bool (hasT op 5)]

theorem of_any (op : Nat) (hop : op ≤ 255) (w : World) (ht : TabW w) : Calls Tryd.prog 32 #[.int .u8 op] w fun e w' => e = .returned (hasV op) ∧ Below w.heap.size w w' := by
  by_cases h : op < 23
  · have h0 : w.cell? ⟨0, op * 6, none⟩ = _ := ht op h 0 (by omega)
    have h1 := ht op h 1 (by omega)
    have h2 := ht op h 2 (by omega)
    have h3 := ht op h 3 (by omega)
    have h4 := ht op h 4 (by omega)
    have h5 := ht op h 5 (by omega)
    have z0 : 0 < w.heap.size := World.block_lt_of_cell? w _ h0
    have q0 : (0 : Int) ≤ (op : Int) := by omega
    have q1 : (op : Int) < 23 := by omega
    go_enter Tryd.func32, Tryd.ntmps32
    go_wp2
    refine bodyPost_ret (v := hasV op) (by simp [results, Tryd.results32, go_sem, hasV]) rfl ⟨rfl, ?_⟩
    exact ((Below.refl _ _).alloc (Nat.le_refl _) _)
  · have hv : hasV op = .agg #[.bool false, .bool false, .bool false, .bool false, .bool false, .bool false] := by
      unfold hasV hasT
      simp
      omega
    rw [hv]
    have q1 : (23 : Int) ≤ (op : Int) := by omega
    have q2 : (op : Int) ≤ 255 := by omega
    go_enter Tryd.func32, Tryd.ntmps32
    go_wp2
    refine bodyPost_ret (v := .agg #[.bool false, .bool false, .bool false, .bool false, .bool false, .bool false]) (by simp [results, Tryd.results32, go_sem]) rfl ⟨rfl, ?_⟩
    exact ((Below.refl _ _).alloc (Nat.le_refl _) _)

/-- Has: six answers. -/
structure Has (op : Nat) (b0 b1 b2 b3 b4 b5 : Bool) : Prop where
  h0 : hasT op 0 = b0
  h1 : hasT op 1 = b1
  h2 : hasT op 2 = b2
  h3 : hasT op 3 = b3
  h4 : hasT op 4 = b4
  h5 : hasT op 5 = b5
theorem Has.mk' (op : Nat) : Has op (hasT op 0) (hasT op 1) (hasT op 2) (hasT op 3) (hasT op 4) (hasT op 5) := ⟨rfl, rfl, rfl, rfl, rfl, rfl⟩
theorem of_is {op : Nat} {b0 b1 b2 b3 b4 b5 : Bool} (h : Has op b0 b1 b2 b3 b4 b5) (hop : op ≤ 255) (w : World) (ht : TabW w) : Calls Tryd.prog 32 #[.int .u8 op] w fun e w' => e = .returned (.agg #[.bool b0, .bool b1, .bool b2, .bool b3, .bool b4, .bool b5]) ∧ Below w.heap.size w w' := by
  obtain ⟨rfl, rfl, rfl, rfl, rfl, rfl⟩ := h
  exact of_any op hop w ht


theorem field_has (b0 b1 b2 b3 b4 b5 : Bool) (w : World) : (Instr.field 65 (.agg #[.bool b0, .bool b1, .bool b2, .bool b3, .bool b4, .bool b5]) 5).run Tryd.prog w = .ok (.bool b5) w := by
  simp [Instr.field, part, isAgg, asAgg, run_underlying Tryd.underlying65, run_underlying Tryd.underlying4]
set_option maxRecDepth 100000 in
theorem answers_any {op : Nat} {b0 b1 b2 b3 b4 b5 : Bool} (h : Has op b0 b1 b2 b3 b4 b5) (hop : op ≤ 255) (w : World) (ht : TabW w) : Calls Tryd.prog 9 #[.int .u8 op] w fun e w' => e = .returned (.bool b5) ∧ Below w.heap.size w w' := by
  have HT := Lib.hid ht
  have HH := Lib.hid h
  clear ht h
  go_enter Tryd.func9, Tryd.ntmps9
  go_wp2_with fail
  refine (of_is HH.out hop _ HT.out).mono ?_
  rintro e w1 ⟨rfl, hb1⟩
  have hf := field_has b0 b1 b2 b3 b4 b5
  go_wp2_with fail
  go_ret
  exact ⟨rfl, hb1⟩
theorem rtwo_any (op : Nat) (w : World) : Calls Tryd.prog 34 #[.int .u8 op] w fun e w' => e = .returned (.bool (hasT op 1)) ∧ Below w.heap.size w w' := by
  go_enter Tryd.func34, Tryd.ntmps34
  go_wp2
  all_goals go_ret
  all_goals refine ⟨ret_bool ?_, Below.refl _ _⟩
  all_goals show _ = ((decide (4 ≤ op) && decide (op ≤ 10)) || op == 15 || op == 17)
  all_goals (first | rfl | (rw [Bool.eq_iff_iff]; simp only [Bool.and_eq_true, Bool.or_eq_true, decide_eq_true_eq, beq_iff_eq, bne_iff_ne, Bool.not_eq_true', beq_eq_false_iff_ne, decide_eq_false_iff_not, Bool.false_eq_true, false_iff, true_iff, iff_false, iff_true, true_and, and_true, false_and, and_false, true_or, or_true, false_or, or_false, ne_eq]; first | done | omega | (intros; omega)) | (rw [Bool.eq_iff_iff]; simp [*]; done) | (rw [Bool.eq_iff_iff]; simp [*]; omega))
theorem rargs_any (op : Nat) (w : World) : Calls Tryd.prog 35 #[.int .u8 op] w fun e w' => e = .returned (.bool (hasT op 3)) ∧ Below w.heap.size w w' := by
  go_enter Tryd.func35, Tryd.ntmps35
  go_wp2
  all_goals go_ret
  all_goals refine ⟨ret_bool ?_, Below.refl _ _⟩
  all_goals show _ = (op == 18 || op == 19 || op == 22)
  all_goals (first | rfl | (rw [Bool.eq_iff_iff]; simp only [Bool.and_eq_true, Bool.or_eq_true, decide_eq_true_eq, beq_iff_eq, bne_iff_ne, Bool.not_eq_true', beq_eq_false_iff_ne, decide_eq_false_iff_not, Bool.false_eq_true, false_iff, true_iff, iff_false, iff_true, true_and, and_true, false_and, and_false, true_or, or_true, false_or, or_false, ne_eq]; first | done | omega | (intros; omega)) | (rw [Bool.eq_iff_iff]; simp [*]; done) | (rw [Bool.eq_iff_iff]; simp [*]; omega))
theorem ranswers_any (op : Nat) (w : World) : Calls Tryd.prog 10 #[.int .u8 op] w fun e w' => e = .returned (.bool (hasT op 5)) ∧ Below w.heap.size w w' := by
  go_enter Tryd.func10, Tryd.ntmps10
  go_wp2
  all_goals go_ret
  all_goals refine ⟨ret_bool ?_, Below.refl _ _⟩
  all_goals show _ = (decide (1 ≤ op) && decide (op ≤ 22) && op != 13 && op != 17 && op != 21)
  all_goals (first | rfl | (rw [Bool.eq_iff_iff]; simp only [Bool.and_eq_true, Bool.or_eq_true, decide_eq_true_eq, beq_iff_eq, bne_iff_ne, Bool.not_eq_true', beq_eq_false_iff_ne, decide_eq_false_iff_not, Bool.false_eq_true, false_iff, true_iff, iff_false, iff_true, true_and, and_true, false_and, and_false, true_or, or_true, false_or, or_false, ne_eq]; first | done | omega | (intros; omega)) | (rw [Bool.eq_iff_iff]; simp [*]; done) | (rw [Bool.eq_iff_iff]; simp [*]; omega))
theorem rhasa_any (op : Nat) (w : World) : Calls Tryd.prog 33 #[.int .u8 op] w fun e w' => e = .returned (.bool (hasT op 0)) ∧ Below w.heap.size w w' := by
  obtain ⟨b, hb⟩ : ∃ b, hasT op 1 = b := ⟨_, rfl⟩
  have HT := Lib.hid (rtwo_any op w)
  rw [hb] at HT
  have HBT := Lib.hid hb
  clear hb
  cases b with
  | true =>
    have hq : hasT op 0 = true := by
      have := HBT.out
      revert this
      show ((decide (4 ≤ op) && decide (op ≤ 10)) || op == 15 || op == 17) = true → ((decide (4 ≤ op) && decide (op ≤ 10)) || op == 13 || op == 14 || op == 15 || op == 16 || op == 17 || op == 19 || op == 21) = true
      simp only [Bool.or_eq_true, Bool.and_eq_true, decide_eq_true_eq, beq_iff_eq]
      omega
    rw [hq]
    clear hq
    go_enter Tryd.func33, Tryd.ntmps33
    go_wp2_with fail
    refine HT.out.mono ?_
    rintro e w1 ⟨rfl, hb⟩
    go_wp2_with fail
    go_ret
    exact ⟨rfl, hb⟩
  | false =>
    go_enter Tryd.func33, Tryd.ntmps33
    go_wp2_with fail
    refine HT.out.mono ?_
    rintro e w1 ⟨rfl, hb⟩
    go_wp2_with fail
    all_goals go_ret
    all_goals refine ⟨ret_bool ?_, hb⟩
    all_goals have h9 : ((decide (4 ≤ op) && decide (op ≤ 10)) || op == 15 || op == 17) = false := HBT.out
    all_goals show _ = ((decide (4 ≤ op) && decide (op ≤ 10)) || op == 13 || op == 14 || op == 15 || op == 16 || op == 17 || op == 19 || op == 21)
    all_goals simp only [Bool.or_eq_false_iff, Bool.and_eq_false_iff, decide_eq_false_iff_not, beq_eq_false_iff_ne] at h9
    all_goals (first | rfl | (rw [Bool.eq_iff_iff]; simp only [Bool.and_eq_true, Bool.or_eq_true, decide_eq_true_eq, beq_iff_eq, bne_iff_ne, Bool.not_eq_true', beq_eq_false_iff_ne, decide_eq_false_iff_not, Bool.false_eq_true, false_iff, true_iff, iff_false, iff_true, true_and, and_true, false_and, and_false, true_or, or_true, false_or, or_false, ne_eq]; first | done | omega | (intros; omega)) | (rw [Bool.eq_iff_iff]; simp [*]; done) | (rw [Bool.eq_iff_iff]; simp [*]; omega))
end Go.Proofs.YtcbhmpkginebaaaDoor
