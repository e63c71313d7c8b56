/-
  The walk of calc: contracts of its functions.
-/
import Derived.Test.YtliihlidobajdaaRows
import Derived.Test.YtliihlidobajdaaCalcPure
import Derived.WalkKit
import Derived.ProofKit
import Derived.OpenShut
import Derived.Outline
import Derived.Deep.Light
namespace Go.Proofs.Ytliihlidobajdaa
set_option linter.unusedVariables false
open Go.ChangeShapes Go.WideShapes Go.ChangeAt Go.RowKit

theorem truth_any (p : Bool) (w : World) : Calls Try.prog 22 #[.bool p] w fun e w' => e = .returned (.int .i64 (bit p)) ∧ w = w' := by
  cases p
  · go_enter Try.func22, Try.ntmps22
    go_wp2
    go_ret
    exact ⟨rfl, rfl⟩
  · go_enter Try.func22, Try.ntmps22
    go_wp2
    go_ret
    exact ⟨rfl, rfl⟩

theorem done_any (op a b : Int) (hop : op = 4 ∨ op = 5 ∨ op = 6 ∨ op = 7 ∧ ¬ b = 0 ∨ op = 8 ∨ op = 9) (w : World) : Calls Try.prog 20 #[.int .u8 op, .agg #[.int .i64 a, .int .i64 b]] w fun e w' => e = .returned (.int .i64 (doneV op a b)) ∧ Below w.heap.size w w' := by
  rcases hop with rfl | rfl | rfl | ⟨rfl, hb⟩ | rfl | rfl
  all_goals
    go_enter Try.func20, Try.ntmps20
    go_wp2_with (go_at_call 22; refine (truth_any _ _).mono ?_; rintro e w' ⟨rfl, rfl⟩)
    go_ret
    exact ⟨rfl, (Below.refl _ _).alloc (Nat.le_refl _) _⟩

/-- What Do answers: the number, and the error. -/
theorem do_any (op a b : Int) (w : World) : Calls Try.prog 15 #[.int .u8 op, .int .i64 a, .int .i64 b] w fun e w' => e = .returned (.tuple #[.int .i64 (doV op a b), .int .i64 (doE op b)]) ∧ Below w.heap.size w w' := by
  by_cases h1 : op < 4
  · rw [doV_low h1, doE_low h1]
    go_enter Try.func15, Try.ntmps15
    go_wp2
    go_ret2
    exact ⟨rfl, (Below.refl _ _).alloc (Nat.le_refl _) _⟩
  by_cases h2 : 9 < op
  · rw [doV_high h2, doE_high h2]
    go_enter Try.func15, Try.ntmps15
    go_wp2
    go_ret2
    exact ⟨rfl, (Below.refl _ _).alloc (Nat.le_refl _) _⟩
  by_cases h7 : op = 7 ∧ b = 0
  · obtain ⟨rfl, rfl⟩ := h7
    go_enter Try.func15, Try.ntmps15
    go_wp2
    go_ret2
    exact ⟨rfl, (Below.refl _ _).alloc (Nat.le_refl _) _⟩
  have hop : op = 4 ∨ op = 5 ∨ op = 6 ∨ op = 7 ∧ ¬ b = 0 ∨ op = 8 ∨ op = 9 := by omega
  rw [doV_mid h1 h2 h7, doE_mid h1 h2 h7]
  rcases hop with rfl | rfl | rfl | ⟨rfl, hb⟩ | rfl | rfl
  all_goals
    clear h1 h2 h7
    go_enter Try.func15, Try.ntmps15
    go_wp2_with (go_at_call 20; refine (done_any _ _ _ (by simp; try assumption) _).mono ?_; rintro e w' ⟨rfl, hb'⟩)
    go_ret2
    exact ⟨rfl, ((Below.refl _ _).alloc (Nat.le_refl _) _).trans (hb'.mono (by simp))⟩

set_option maxHeartbeats 4000000 in
theorem check_any (k n b t : Int) (w : World) : Calls Try.prog 11 #[valV k n b t] w fun e w' => e = .returned (.int .i64 (chkV k n b t)) ∧ Below w.heap.size w w' := by
  have hk : k = 1 ∨ k = 2 ∨ k = 3 ∨ (¬ k = 1 ∧ ¬ k = 2 ∧ ¬ k = 3) := by omega
  by_cases hb : 0 < b
  all_goals rcases hk with rfl | rfl | rfl | ⟨h1, h2, h3⟩
  all_goals
    go_enter Try.func11, Try.ntmps11
    go_wp2
    all_goals
      go_ret
      refine ⟨ret_i64 ?_, (Below.refl _ _).alloc (Nat.le_refl _) _⟩
      go_light
      first
        | (refine chk_t ?_; unfold MayP; omega)
        | (refine chk_f ?_; unfold MayP; omega)
        | (simp only [beq_eq_false_iff_ne, Bool.not_eq_true'] at *; refine chk_f ?_; unfold MayP; omega)
        | (simp only [beq_iff_eq, Bool.not_eq_false'] at *; refine chk_t ?_; unfold MayP; omega)

/-- First, where the kind is a scalar's, and where not. -/
theorem first_any (k : Int) (w : World) : Calls Try.prog 9 #[.int .u8 k] w fun e w' => e = .returned (.tuple #[valV (firstK k) 0 0 0, .int .i64 (firstE k)]) ∧ Below w.heap.size w w' := by
  by_cases h : 1 ≤ k ∧ k ≤ 3
  · have hk : k = 1 ∨ k = 2 ∨ k = 3 := by omega
    rw [(first_yes h).1, (first_yes h).2]
    clear h
    rcases hk with rfl | rfl | rfl
    all_goals
      go_enter Try.func9, Try.ntmps9
      go_wp2
      refine bodyPost_ret (v := .tuple #[valV _ 0 0 0, .int .i64 0]) (by simp [results, Try.results9, go_sem]) rfl ⟨rfl, ?_⟩
      exact ((Below.refl _ _).alloc (Nat.le_refl _) _)
  · rw [(first_no h).1, (first_no h).2]
    have h1 : (k == 1) = false := by simp; omega
    have h2 : (k == 2) = false := by simp; omega
    have h3 : (k == 3) = false := by simp; omega
    clear h
    go_enter Try.func9, Try.ntmps9
    go_wp2
    refine bodyPost_ret (v := .tuple #[valV 0 0 0 0, .int .i64 2]) (by simp [results, Try.results9, go_sem]) rfl ⟨rfl, ?_⟩
    exact ((Below.refl _ _).alloc (Nat.le_refl _) _)

end Go.Proofs.Ytliihlidobajdaa
