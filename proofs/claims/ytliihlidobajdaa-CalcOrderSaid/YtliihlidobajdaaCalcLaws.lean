/-
  The plain laws of layer 13: sums, products, quotients, order. No program in sight.
-/
import Derived.Test.YtliihlidobajdaaCalcPure
namespace Go.Proofs.Ytliihlidobajdaa
set_option linter.unusedVariables false
open Go.RowKit

/-! The plain laws of layer 13: what is asked of an answer. -/
def isB (op a b want : Int) : Bool := (doE op b == 0) && (doV op a b == want)
theorem is_add {a b c : Int} : isB 4 a b c = (wrap64 (a + b) == c) := rfl
theorem is_sub {a b c : Int} : isB 5 a b c = (wrap64 (a - b) == c) := rfl
theorem is_mul {a b c : Int} : isB 6 a b c = (wrap64 (a * b) == c) := rfl
theorem doV_add {a b : Int} : doV 4 a b = wrap64 (a + b) := rfl
theorem doV_sub {a b : Int} : doV 5 a b = wrap64 (a - b) := rfl
theorem doV_mul {a b : Int} : doV 6 a b = wrap64 (a * b) := rfl
theorem doV_less {a b : Int} : doV 8 a b = bit (decide (a < b)) := rfl
theorem doV_eq {a b : Int} : doV 9 a b = bit (a == b) := rfl
theorem wrap64_mod (x : Int) : wrap64 x % 18446744073709551616 = x % 18446744073709551616 := by unfold wrap64; omega
theorem wrap64_id {a : Int} (h : In64 a) : wrap64 a = a := by unfold In64 at h; unfold wrap64; omega
theorem wrap64_in64 (a : Int) : In64 (wrap64 a) := by unfold In64 wrap64; omega
theorem mul_wrap_r (a b : Int) : wrap64 (a * wrap64 b) = wrap64 (a * b) := by
  apply wrap64_congr; rw [Int.mul_emod, wrap64_mod, ← Int.mul_emod]
theorem mul_wrap_l (a b : Int) : wrap64 (wrap64 a * b) = wrap64 (a * b) := by
  apply wrap64_congr; rw [Int.mul_emod, wrap64_mod, ← Int.mul_emod]
theorem add_wrap_r (a b : Int) : wrap64 (a + wrap64 b) = wrap64 (a + b) := by
  apply wrap64_congr; rw [Int.add_emod, wrap64_mod, ← Int.add_emod]
theorem add_wrap_l (a b : Int) : wrap64 (wrap64 a + b) = wrap64 (a + b) := by
  apply wrap64_congr; rw [Int.add_emod, wrap64_mod, ← Int.add_emod]
theorem sub_wrap_r (a b : Int) : wrap64 (a - wrap64 b) = wrap64 (a - b) := by
  apply wrap64_congr; rw [Int.sub_emod, wrap64_mod, ← Int.sub_emod]
theorem sub_wrap_l (a b : Int) : wrap64 (wrap64 a - b) = wrap64 (a - b) := by
  apply wrap64_congr; rw [Int.sub_emod, wrap64_mod, ← Int.sub_emod]

theorem ring1 (a b c : Int) : isB 4 a (doV 4 b c) (doV 4 (doV 4 a b) c) = true := by rw [is_add]; simp only [doV_add, add_wrap_r, add_wrap_l, Int.add_assoc, beq_self_eq_true]
theorem ring2 (a b : Int) : isB 4 b a (doV 4 a b) = true := by rw [is_add, doV_add, Int.add_comm b a]; exact beq_self_eq_true _
theorem ring3 (a b : Int) : isB 6 b a (doV 6 a b) = true := by rw [is_mul, doV_mul, Int.mul_comm b a]; exact beq_self_eq_true _
theorem ring4 (a b c : Int) : isB 6 a (doV 6 b c) (doV 6 (doV 6 a b) c) = true := by rw [is_mul]; simp only [doV_mul, mul_wrap_r, mul_wrap_l, Int.mul_assoc, beq_self_eq_true]
theorem ring5 (a b c : Int) : isB 4 (doV 6 a b) (doV 6 a c) (doV 6 a (doV 4 b c)) = true := by rw [is_add]; simp only [doV_mul, doV_add, mul_wrap_r, add_wrap_r, add_wrap_l, Int.mul_add, beq_self_eq_true]
theorem ring6 {a b : Int} (h : In64 a) : isB 5 (doV 4 a b) b a = true := by rw [is_sub, doV_add, sub_wrap_l, Int.add_sub_cancel, wrap64_id h]; exact beq_self_eq_true _
theorem ring7 {a : Int} (h : In64 a) : isB 4 a 0 a = true := by rw [is_add, Int.add_zero, wrap64_id h]; exact beq_self_eq_true _
theorem ring8 {a : Int} (h : In64 a) : isB 6 a 1 a = true := by rw [is_mul, Int.mul_one, wrap64_id h]; exact beq_self_eq_true _
theorem ring9 (a : Int) : isB 6 a 0 0 = true := by rw [is_mul, Int.mul_zero, wrap64_id ⟨by omega, by omega⟩]; exact beq_self_eq_true _

/-! Quotients. -/
theorem doV_div {a b : Int} (h : ¬ b = 0) : doV 7 a b = wrap64 (a.tdiv b) := by rw [doV_mid (by omega) (by omega) (by omega)]; rfl
theorem doE_div {b : Int} (h : ¬ b = 0) : doE 7 b = 0 := by exact doE_mid (by omega) (by omega) (by omega)
theorem doV_div0 {a : Int} : doV 7 a 0 = 0 := rfl
theorem doE_div0 : doE 7 0 = 130 := rfl
/-- What is left: its size, its sign. -/
structure LeftOf (a b m r : Int) : Prop where
  hm : doV 6 (doV 7 a b) b = m
  hr : doV 5 a m = r
  back : isB 4 m r a = true
  lo : -9223372036854775807 ≤ r
  hi : r ≤ 9223372036854775807
  pos : 0 < b → -b < r ∧ r < b
  neg : b < 0 → b < r ∧ r < -b
  up : 0 ≤ a → 0 ≤ r
  down : a ≤ 0 → r ≤ 0
theorem left_of {a b : Int} (wa : In64 a) (wb : In64 b) (hb : ¬ b = 0) (ha' : ¬ a = -9223372036854775808) (hb' : ¬ b = -9223372036854775808) : LeftOf a b (b * a.tdiv b) (a.tmod b) := by
  unfold In64 at wa wb
  have e := Int.mul_tdiv_add_tmod a b
  have hlt : (a.tmod b).natAbs < b.natAbs := by
    rw [Int.natAbs_tmod]
    exact Nat.mod_lt _ (by omega)
  have hs : 0 ≤ a → 0 ≤ a.tmod b := fun h => Int.tmod_nonneg _ h
  have hs' : a ≤ 0 → a.tmod b ≤ 0 := fun h => by
    have := Int.tmod_nonneg b (a := -a) (by omega)
    rw [Int.neg_tmod] at this
    omega
  have hq : (a.tdiv b).natAbs ≤ a.natAbs := by rw [Int.natAbs_tdiv]; exact Nat.div_le_self _ _
  have hqi : In64 (a.tdiv b) := by unfold In64; omega
  have hmi : In64 (b * a.tdiv b) := by unfold In64; omega
  generalize hR : a.tmod b = r at *
  refine ⟨?_, ?_, ?_, by omega, by omega, fun h => by omega, fun h => by omega, hs, hs'⟩
  · rw [doV_mul, doV_div hb, wrap64_id hqi, Int.mul_comm, wrap64_id hmi]
  · rw [doV_sub]
    generalize b * a.tdiv b = m at *
    rw [wrap64_id (by unfold In64; omega)]; omega
  · rw [is_add, e, wrap64_id (by unfold In64; omega)]; exact beq_self_eq_true _

/-! Order. -/
theorem less_t {a b : Int} (h : a < b) : doV 8 a b = 1 := by rw [doV_less, decide_eq_true h]; rfl
theorem less_f {a b : Int} (h : ¬ a < b) : doV 8 a b = 0 := by rw [doV_less, decide_eq_false h]; rfl
theorem eq_t {a b : Int} (h : a = b) : doV 9 a b = 1 := by rw [doV_eq, h, beq_self_eq_true]; rfl
theorem eq_f {a b : Int} (h : ¬ a = b) : doV 9 a b = 0 := by rw [doV_eq, beq_eq_false_iff_ne.2 h]; rfl
theorem is_less {a b : Int} (h : a < b) : isB 8 a b 1 = true := by unfold isB; rw [less_t h]; rfl

end Go.Proofs.Ytliihlidobajdaa
