/-
  The walk of the reference of calc (fescueref13): contracts of its functions.
-/
import Derived.Test.YtliihlidobajdaaRows
import Derived.Test.YtliihlidobajdaaCalcPure
import Derived.WalkKit
import Derived.ProofKit
import Derived.OpenShut
import Derived.Test.YtliihlidobajdaaMem
import Derived.Lib.Hide
import Derived.Outline
import Derived.Deep.Light
namespace Go.Proofs.Ytliihlidobajdaa
set_option linter.unusedVariables false
open Go.ChangeShapes Go.WideShapes Go.ChangeAt Go.RowKit

theorem rtruth_any (p : Bool) (w : World) : Calls Try.prog 24 #[.bool p] w fun e w' => e = .returned (.int .i64 (bit p)) ∧ w = w' := by
  cases p
  all_goals
    go_enter Try.func24, Try.ntmps24
    go_wp2
    go_ret
    exact ⟨rfl, rfl⟩

theorem quotient_any (a b : Int) (wa : In64 a) (wb : In64 b) (h : ¬ b = 0) (w : World) : Calls Try.prog 23 #[.int .i64 a, .int .i64 b] w fun e w' => e = .returned (.int .i64 (wrap64 (a.tdiv b))) ∧ w = w' := by
  by_cases ha : a < 0
  · by_cases hb : b < 0
    · have h2 : ¬ IntKind.u64.wrap (-IntKind.u64.wrap b) = 0 := by simp only [u_eq]; rw [u_neg hb wb]; omega
      go_enter Try.func23, Try.ntmps23
      go_wp2
      go_ret
      exact ⟨ret_i64 (by simp only [u_eq]; exact quo_nn ha hb h wa wb), rfl⟩
    · have h2 : ¬ IntKind.u64.wrap b = 0 := by simp only [u_eq]; exact u_neg0 h wb
      go_enter Try.func23, Try.ntmps23
      go_wp2
      go_ret
      exact ⟨ret_i64 (by simp only [u_eq]; exact quo_np ha (by omega) h wa wb), rfl⟩
  · by_cases hb : b < 0
    · have h2 : ¬ IntKind.u64.wrap (-IntKind.u64.wrap b) = 0 := by simp only [u_eq]; rw [u_neg hb wb]; omega
      go_enter Try.func23, Try.ntmps23
      go_wp2
      go_ret
      exact ⟨ret_i64 (by simp only [u_eq]; exact quo_pn (by omega) hb h wa wb), rfl⟩
    · have h2 : ¬ IntKind.u64.wrap b = 0 := by simp only [u_eq]; exact u_neg0 h wb
      go_enter Try.func23, Try.ntmps23
      go_wp2
      go_ret
      exact ⟨ret_i64 (by simp only [u_eq]; exact quo_pp (by omega) (by omega) h wa wb), rfl⟩

theorem reckoned_any (op a b : Int) (wa : In64 a) (wb : In64 b) (hop : op = 4 ∨ op = 5 ∨ op = 6 ∨ op = 7 ∧ ¬ b = 0 ∨ op = 8 ∨ op = 9) (w : World) : Calls Try.prog 21 #[.int .u8 op, .int .i64 a, .int .i64 b] w fun e w' => e = .returned (.int .i64 (doneV op a b)) ∧ w = w' := by
  rcases hop with rfl | rfl | rfl | ⟨rfl, hb⟩ | rfl | rfl
  · go_enter Try.func21, Try.ntmps21
    go_wp2
    go_ret
    exact ⟨ret_i64 (by simp only [u_eq]; exact rec_add a b), rfl⟩
  · go_enter Try.func21, Try.ntmps21
    go_wp2
    go_ret
    exact ⟨ret_i64 (by simp only [u_eq]; exact rec_sub a b), rfl⟩
  · go_enter Try.func21, Try.ntmps21
    go_wp2
    go_ret
    exact ⟨ret_i64 (by simp only [u_eq]; exact rec_mul a b), rfl⟩
  · go_enter Try.func21, Try.ntmps21
    go_wp2_with (go_at_call 23; refine (quotient_any _ _ wa wb hb _).mono ?_; rintro e w' ⟨rfl, rfl⟩)
    go_ret
    exact ⟨rfl, rfl⟩
  all_goals
    go_enter Try.func21, Try.ntmps21
    go_wp2_with (go_at_call 24; refine (rtruth_any _ _).mono ?_; rintro e w' ⟨rfl, rfl⟩)
    go_ret
    exact ⟨rfl, rfl⟩

theorem rdo_any (op a b : Int) (wa : In64 a) (wb : In64 b) (w : World) : Calls Try.prog 16 #[.int .u8 op, .int .i64 a, .int .i64 b] w fun e w' => e = .returned (.tuple #[.int .i64 (doV op a b), .int .i64 (doE op b)]) ∧ w = w' := by
  by_cases h1 : op < 4
  · rw [doV_low h1, doE_low h1]
    go_enter Try.func16, Try.ntmps16
    go_wp2
    go_ret2
    exact ⟨rfl, rfl⟩
  by_cases h2 : 9 < op
  · rw [doV_high h2, doE_high h2]
    go_enter Try.func16, Try.ntmps16
    go_wp2
    go_ret2
    exact ⟨rfl, rfl⟩
  by_cases h7 : op = 7 ∧ b = 0
  · obtain ⟨rfl, rfl⟩ := h7
    go_enter Try.func16, Try.ntmps16
    go_wp2
    go_ret2
    exact ⟨rfl, rfl⟩
  have hop : op = 4 ∨ op = 5 ∨ op = 6 ∨ op = 7 ∧ ¬ b = 0 ∨ op = 8 ∨ op = 9 := by omega
  rw [doV_mid h1 h2 h7, doE_mid h1 h2 h7]
  rcases hop with rfl | rfl | rfl | ⟨rfl, hb⟩ | rfl | rfl
  all_goals
    clear h1 h2 h7
    go_enter Try.func16, Try.ntmps16
    go_wp2_with (go_at_call 21; refine (reckoned_any _ _ _ wa wb (by simp; try assumption) _).mono ?_; rintro e w' ⟨rfl, rfl⟩)
    go_ret2
    exact ⟨rfl, rfl⟩

set_option maxHeartbeats 4000000 in
theorem rmay_any (k n b t : Int) (w : World) : Calls Try.prog 19 #[valV k n b t] w fun e w' => e = .returned (.bool (mayB k n b t)) ∧ Below w.heap.size w w' := by
  have hk : k = 1 ∨ k = 2 ∨ k = 3 ∨ (¬ k = 1 ∧ ¬ k = 2 ∧ ¬ k = 3) := by omega
  rcases hk with rfl | rfl | rfl | ⟨h1, h2, h3⟩
  all_goals
    go_enter Try.func19, Try.ntmps19
    go_wp2
    all_goals
      go_ret
      refine ⟨ret_bool ?_, (Below.refl _ _).alloc (Nat.le_refl _) _⟩
      go_light
      first
        | (refine may_t ?_; unfold MayP; omega)
        | (refine may_f ?_; unfold MayP; omega)
        | (refine may_eq ?_; rw [beq_iff_eq]; unfold MayP; omega)
        | (refine may_eq ?_; rw [decide_eq_true_eq]; unfold MayP; omega)

theorem rcheck_any (k n b t : Int) (w : World) : Calls Try.prog 12 #[valV k n b t] w fun e w' => e = .returned (.int .i64 (chkV k n b t)) ∧ Below w.heap.size w w' := by
  by_cases hm : MayP k n b t
  · have hc := Lib.hid (chk_t hm)
    have hc2 := Lib.hid (may_t hm)
    go_enter Try.func12, Try.ntmps12
    go_wp2_with fail
    refine (rmay_any _ _ _ _ _).mono ?_
    rintro e w1 ⟨rfl, hb1⟩
    rw [← hc2.out]
    have H1 := Lib.hid (below_new hb1)
    clear hb1
    go_wp2_with fail
    go_ret
    exact ⟨ret_i64 hc.out, H1.out⟩
  · have hc := Lib.hid (chk_f hm)
    have hc2 := Lib.hid (may_f hm)
    go_enter Try.func12, Try.ntmps12
    go_wp2_with fail
    refine (rmay_any _ _ _ _ _).mono ?_
    rintro e w1 ⟨rfl, hb1⟩
    rw [← hc2.out]
    have H1 := Lib.hid (below_new hb1)
    clear hb1
    go_wp2_with fail
    go_ret
    exact ⟨ret_i64 hc.out, H1.out⟩

theorem rfits_any (k n b t q : Int) (w : World) : Calls Try.prog 14 #[valV k n b t, .int .u8 q] w fun e w' => e = .returned (.bool (fitsB k n b t q)) ∧ Below w.heap.size w w' := by
  by_cases hm : MayP k n b t
  · have hf : fitsB k n b t q = (k == q) := by unfold fitsB; rw [← may_t hm]; rfl
    have hc2 := Lib.hid (may_t hm)
    rw [hf]
    clear hf
    go_enter Try.func14, Try.ntmps14
    go_wp2_with fail
    refine (rmay_any _ _ _ _ _).mono ?_
    rintro e w1 ⟨rfl, hb1⟩
    rw [← hc2.out]
    have c1 := ((Blk.new w 23 #[.int .u8 k, .int .i64 n, .int .i64 b, .int .i64 t]).beneath hb1).cells
    have H1 := Lib.hid (below_new hb1)
    clear hb1
    go_wp2_with fail
    go_ret
    exact ⟨rfl, H1.out⟩
  · have hf : fitsB k n b t q = false := by unfold fitsB; rw [← may_f hm]; rfl
    have hc2 := Lib.hid (may_f hm)
    rw [hf]
    clear hf
    go_enter Try.func14, Try.ntmps14
    go_wp2_with fail
    refine (rmay_any _ _ _ _ _).mono ?_
    rintro e w1 ⟨rfl, hb1⟩
    rw [← hc2.out]
    have H1 := Lib.hid (below_new hb1)
    clear hb1
    go_wp2_with fail
    go_ret
    exact ⟨rfl, H1.out⟩

theorem rfirst_any (k : Int) (w : World) : Calls Try.prog 10 #[.int .u8 k] w fun e w' => e = .returned (.tuple #[valV (firstK k) 0 0 0, .int .i64 (firstE k)]) ∧ Below w.heap.size w w' := by
  by_cases h : 1 ≤ k ∧ k ≤ 3
  · rw [(first_yes h).1, (first_yes h).2]
    obtain ⟨h1, h2⟩ := h
    go_enter Try.func10, Try.ntmps10
    go_wp2
    refine bodyPost_ret (v := .tuple #[valV _ 0 0 0, .int .i64 0]) (by simp [results, Try.results10, go_sem]) rfl ⟨rfl, ?_⟩
    exact ((Below.refl _ _).alloc (Nat.le_refl _) _)
  · rw [(first_no h).1, (first_no h).2]
    by_cases h1 : k < 1
    all_goals
      go_enter Try.func10, Try.ntmps10
      go_wp2
      refine bodyPost_ret (v := .tuple #[valV 0 0 0 0, .int .i64 2]) (by simp [results, Try.results10, go_sem]) rfl ⟨rfl, ?_⟩
      exact ((Below.refl _ _).alloc (Nat.le_refl _) _)

end Go.Proofs.Ytliihlidobajdaa
