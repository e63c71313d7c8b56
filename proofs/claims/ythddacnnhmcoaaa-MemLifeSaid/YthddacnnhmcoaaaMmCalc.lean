/-
  Values: which may be, and the first ones: calc and its reference, in a seat that lacks the rest of calc.
-/
import Derived.Test.YthddacnnhmcoaaaProg
import Derived.Test.YthddacnnhmcoaaaMmLoops
import Derived.WalkKit
import Derived.ProofKit
import Derived.OpenShut
import Derived.Test.YthddacnnhmcoaaaMem
import Derived.Lib.Hide
import Derived.Outline
import Derived.Deep.Light
namespace Go.Proofs.Ythddacnnhmcoaaa
set_option linter.unusedVariables false
set_option linter.unusedSimpArgs false
open Go.ChangeShapes Go.WideShapes Go.ChangeAt Go.RowKit

/-! Which values may be. -/
def MayP (k n b t : Int) : Prop := (k = 1 ∧ b = 0 ∧ t = 0) ∨ (k = 2 ∧ n = 0 ∧ 0 ≤ b ∧ 0 ≤ t ∧ (0 < b ∨ t = 0)) ∨ (k = 3 ∧ 0 ≤ n ∧ n ≤ 8 ∧ b = 0 ∧ t = 0)
instance (k n b t : Int) : Decidable (MayP k n b t) := by unfold MayP; infer_instance
def mayB (k n b t : Int) : Bool := decide (MayP k n b t)
def chkV (k n b t : Int) : Int := if MayP k n b t then 0 else 8
theorem chk_t {k n b t : Int} (h : MayP k n b t) : 0 = chkV k n b t := by unfold chkV; rw [if_pos h]
theorem chk_f {k n b t : Int} (h : ¬ MayP k n b t) : 8 = chkV k n b t := by unfold chkV; rw [if_neg h]
theorem may_t {k n b t : Int} (h : MayP k n b t) : true = mayB k n b t := by unfold mayB; simp [h]
theorem may_f {k n b t : Int} (h : ¬ MayP k n b t) : false = mayB k n b t := by unfold mayB; simp [h]
theorem may_eq {k n b t : Int} {p : Bool} (h : p = true ↔ MayP k n b t) : p = mayB k n b t := by unfold mayB; rw [Bool.eq_iff_iff, decide_eq_true_eq]; exact h
def firstK (k : Int) : Int := if 1 ≤ k ∧ k ≤ 3 then k else 0
def firstE (k : Int) : Int := if 1 ≤ k ∧ k ≤ 3 then 0 else 2
theorem first_yes {k : Int} (h : 1 ≤ k ∧ k ≤ 3) : firstK k = k ∧ firstE k = 0 := by unfold firstK firstE; simp [h]
theorem first_no {k : Int} (h : ¬ (1 ≤ k ∧ k ≤ 3)) : firstK k = 0 ∧ firstE k = 2 := by unfold firstK firstE; simp [h]
theorem ret_i64 {a b : Int} (h : a = b) : Ending.returned (.int .i64 a) = .returned (.int .i64 b) := by rw [h]
abbrev valV (k n b t : Int) : Value := .agg #[.int .u8 k, .int .i64 n, .int .i64 b, .int .i64 t]
theorem may_of_chk {k n b t : Int} (h : chkV k n b t = 0) : MayP k n b t := by
  by_cases hm : MayP k n b t
  · exact hm
  · rw [← chk_f hm] at h; omega
theorem not_may_of_chk {k n b t : Int} (h : ¬ chkV k n b t = 0) : ¬ MayP k n b t := fun hm => h (chk_t hm).symm
set_option maxHeartbeats 4000000 in
theorem check_any (k n b t : Int) (w : World) : Calls Try.prog 61 #[valV k n b t] w fun e w' => e = .returned (.int .i64 (chkV k n b t)) ∧ Below w.heap.size w w' := by
  have hk : k = 1 ∨ k = 2 ∨ k = 3 ∨ (¬ k = 1 ∧ ¬ k = 2 ∧ ¬ k = 3) := by omega
  by_cases hb : 0 < b
  all_goals rcases hk with rfl | rfl | rfl | ⟨h1, h2, h3⟩
  all_goals
    go_enter Try.func61, Try.ntmps61
    go_wp2
    all_goals
      go_ret
      refine ⟨ret_i64 ?_, (Below.refl _ _).alloc (Nat.le_refl _) _⟩
      go_light
      first
        | (refine chk_t ?_; unfold MayP; omega)
        | (refine chk_f ?_; unfold MayP; omega)
        | (simp only [beq_eq_false_iff_ne, Bool.not_eq_true'] at *; refine chk_f ?_; unfold MayP; omega)
        | (simp only [beq_iff_eq, Bool.not_eq_false'] at *; refine chk_t ?_; unfold MayP; omega)
theorem first_any (k : Int) (w : World) : Calls Try.prog 37 #[.int .u8 k] w fun e w' => e = .returned (.tuple #[valV (firstK k) 0 0 0, .int .i64 (firstE k)]) ∧ Below w.heap.size w w' := by
  by_cases h : 1 ≤ k ∧ k ≤ 3
  · have hk : k = 1 ∨ k = 2 ∨ k = 3 := by omega
    rw [(first_yes h).1, (first_yes h).2]
    clear h
    rcases hk with rfl | rfl | rfl
    all_goals
      go_enter Try.func37, Try.ntmps37
      go_wp2
      refine bodyPost_ret (v := .tuple #[valV _ 0 0 0, .int .i64 0]) (by simp [results, Try.results37, go_sem]) rfl ⟨rfl, ?_⟩
      exact ((Below.refl _ _).alloc (Nat.le_refl _) _)
  · rw [(first_no h).1, (first_no h).2]
    have h1 : (k == 1) = false := by simp; omega
    have h2 : (k == 2) = false := by simp; omega
    have h3 : (k == 3) = false := by simp; omega
    clear h
    go_enter Try.func37, Try.ntmps37
    go_wp2
    refine bodyPost_ret (v := .tuple #[valV 0 0 0 0, .int .i64 2]) (by simp [results, Try.results37, go_sem]) rfl ⟨rfl, ?_⟩
    exact ((Below.refl _ _).alloc (Nat.le_refl _) _)
set_option maxHeartbeats 4000000 in
theorem rmay_any (k n b t : Int) (w : World) : Calls Try.prog 62 #[valV k n b t] w fun e w' => e = .returned (.bool (mayB k n b t)) ∧ Below w.heap.size w w' := by
  have hk : k = 1 ∨ k = 2 ∨ k = 3 ∨ (¬ k = 1 ∧ ¬ k = 2 ∧ ¬ k = 3) := by omega
  rcases hk with rfl | rfl | rfl | ⟨h1, h2, h3⟩
  all_goals
    go_enter Try.func62, Try.ntmps62
    go_wp2
    all_goals
      go_ret
      refine ⟨ret_bool ?_, (Below.refl _ _).alloc (Nat.le_refl _) _⟩
      go_light
      first
        | (refine may_t ?_; unfold MayP; omega)
        | (refine may_f ?_; unfold MayP; omega)
        | (refine may_eq ?_; rw [beq_iff_eq]; unfold MayP; omega)
        | (refine may_eq ?_; rw [decide_eq_true_eq]; unfold MayP; omega)
theorem rfirst_any (k : Int) (w : World) : Calls Try.prog 60 #[.int .u8 k] w fun e w' => e = .returned (.tuple #[valV (firstK k) 0 0 0, .int .i64 (firstE k)]) ∧ Below w.heap.size w w' := by
  by_cases h : 1 ≤ k ∧ k ≤ 3
  · rw [(first_yes h).1, (first_yes h).2]
    obtain ⟨h1, h2⟩ := h
    go_enter Try.func60, Try.ntmps60
    go_wp2
    refine bodyPost_ret (v := .tuple #[valV _ 0 0 0, .int .i64 0]) (by simp [results, Try.results60, go_sem]) rfl ⟨rfl, ?_⟩
    exact ((Below.refl _ _).alloc (Nat.le_refl _) _)
  · rw [(first_no h).1, (first_no h).2]
    by_cases h1 : k < 1
    all_goals
      go_enter Try.func60, Try.ntmps60
      go_wp2
      refine bodyPost_ret (v := .tuple #[valV 0 0 0 0, .int .i64 2]) (by simp [results, Try.results60, go_sem]) rfl ⟨rfl, ?_⟩
      exact ((Below.refl _ _).alloc (Nat.le_refl _) _)
end Go.Proofs.Ythddacnnhmcoaaa
