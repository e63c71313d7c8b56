/-
  Plain law: what calc and its reference answer, as functions of whole numbers; and that the two agree. No program in sight.
-/
import Derived.WalkKit
namespace Go.Proofs.Ytliihlidobajdaa
set_option linter.unusedVariables false
open Go.RowKit

def bit (p : Bool) : Int := if p then 1 else 0

/-- What calc.done answers. -/
def doneV (op a b : Int) : Int :=
  if op = 4 then wrap64 (a + b) else if op = 5 then wrap64 (a - b) else if op = 6 then wrap64 (a * b)
  else if op = 7 then wrap64 (a.tdiv b) else if op = 8 then bit (decide (a < b)) else bit (a == b)

def doV (op a b : Int) : Int := if op < 4 ∨ 9 < op then 0 else if op = 7 ∧ b = 0 then 0 else doneV op a b
def doE (op b : Int) : Int := if op < 4 ∨ 9 < op then 2 else if op = 7 ∧ b = 0 then 130 else 0

theorem doV_low {op a b : Int} (h : op < 4) : doV op a b = 0 := by unfold doV; rw [if_pos (by omega)]
theorem doE_low {op b : Int} (h : op < 4) : doE op b = 2 := by unfold doE; rw [if_pos (by omega)]
theorem doV_high {op a b : Int} (h : 9 < op) : doV op a b = 0 := by unfold doV; rw [if_pos (by omega)]
theorem doE_high {op b : Int} (h : 9 < op) : doE op b = 2 := by unfold doE; rw [if_pos (by omega)]
theorem doV_mid {op a b : Int} (h : ¬ op < 4) (h' : ¬ 9 < op) (h7 : ¬ (op = 7 ∧ b = 0)) : doV op a b = doneV op a b := by unfold doV; rw [if_neg (by omega), if_neg h7]
theorem doE_mid {op b : Int} (h : ¬ op < 4) (h' : ¬ 9 < op) (h7 : ¬ (op = 7 ∧ b = 0)) : doE op b = 0 := by unfold doE; rw [if_neg (by omega), if_neg h7]

/-! The reference's quotient, by sizes. -/
def In64 (a : Int) : Prop := -9223372036854775808 ≤ a ∧ a ≤ 9223372036854775807
def U (a : Int) : Int := a % 18446744073709551616
theorem u_eq (a : Int) : IntKind.u64.wrap a = U a := by rw [IntKind.wrap_u64]; rfl
theorem u_pos {a : Int} (h : 0 ≤ a) (h' : In64 a) : U a = a := by unfold U; unfold In64 at h'; omega
theorem u_in {a : Int} (h : 0 ≤ a) (h' : a ≤ 9223372036854775808) : U a = a := by unfold U; omega
theorem u_neg {a : Int} (h : a < 0) (h' : In64 a) : U (-U a) = -a := by unfold U; unfold In64 at h'; omega
theorem u_neg0 {a : Int} (h : ¬ a = 0) (h' : In64 a) : ¬ U a = 0 := by unfold U; unfold In64 at h'; omega
theorem wrap_u (a : Int) : wrap64 (U a) = wrap64 a := by unfold wrap64 U; omega
theorem wrap_u_neg (a : Int) : wrap64 (U (-U a)) = wrap64 (-a) := by unfold wrap64 U; omega
theorem quo_bd {m n : Int} (h : 0 ≤ m) (h' : m ≤ 9223372036854775808) (hn : 1 ≤ n) : 0 ≤ m.tdiv n ∧ m.tdiv n ≤ 9223372036854775808 := by
  have := IntWalk.tdiv_le m n h hn
  rw [Int.tdiv_eq_ediv_of_nonneg h]; omega
theorem quo_pp {a b : Int} (ha : 0 ≤ a) (hb : 0 ≤ b) (h : ¬ b = 0) (wa : In64 a) (wb : In64 b) : wrap64 (U ((U a).tdiv (U b))) = wrap64 (a.tdiv b) := by
  rw [u_pos ha wa, u_pos hb wb, wrap_u]
theorem quo_np {a b : Int} (ha : a < 0) (hb : 0 ≤ b) (h : ¬ b = 0) (wa : In64 a) (wb : In64 b) : wrap64 (U (-U ((U (-U a)).tdiv (U b)))) = wrap64 (a.tdiv b) := by
  rw [u_neg ha wa, u_pos hb wb, wrap_u_neg, Int.neg_tdiv, Int.neg_neg]
theorem quo_pn {a b : Int} (ha : 0 ≤ a) (hb : b < 0) (h : ¬ b = 0) (wa : In64 a) (wb : In64 b) : wrap64 (U (-U ((U a).tdiv (U (-U b))))) = wrap64 (a.tdiv b) := by
  rw [u_neg hb wb, u_pos ha wa, wrap_u_neg, Int.tdiv_neg, Int.neg_neg]
theorem quo_nn {a b : Int} (ha : a < 0) (hb : b < 0) (h : ¬ b = 0) (wa : In64 a) (wb : In64 b) : wrap64 (U ((U (-U a)).tdiv (U (-U b)))) = wrap64 (a.tdiv b) := by
  rw [u_neg hb wb, u_neg ha wa, wrap_u, Int.neg_tdiv, Int.tdiv_neg, Int.neg_neg]

/-! Which values may be. -/
def MayP (k n b t : Int) : Prop := (k = 1 ∧ b = 0 ∧ t = 0) ∨ (k = 2 ∧ n = 0 ∧ 0 ≤ b ∧ 0 ≤ t ∧ (0 < b ∨ t = 0)) ∨ (k = 3 ∧ 0 ≤ n ∧ n ≤ 8 ∧ b = 0 ∧ t = 0)
instance (k n b t : Int) : Decidable (MayP k n b t) := by unfold MayP; infer_instance
def mayB (k n b t : Int) : Bool := decide (MayP k n b t)
def chkV (k n b t : Int) : Int := if MayP k n b t then 0 else 8
theorem chk_t {k n b t : Int} (h : MayP k n b t) : 0 = chkV k n b t := by unfold chkV; rw [if_pos h]
theorem chk_f {k n b t : Int} (h : ¬ MayP k n b t) : 8 = chkV k n b t := by unfold chkV; rw [if_neg h]
theorem may_t {k n b t : Int} (h : MayP k n b t) : true = mayB k n b t := by unfold mayB; simp [h]
theorem may_f {k n b t : Int} (h : ¬ MayP k n b t) : false = mayB k n b t := by unfold mayB; simp [h]
theorem may_eq {k n b t : Int} {p : Bool} (h : p = true ↔ MayP k n b t) : p = mayB k n b t := by unfold mayB; rw [Bool.eq_iff_iff, decide_eq_true_eq]; exact h
def firstK (k : Int) : Int := if 1 ≤ k ∧ k ≤ 3 then k else 0
def firstE (k : Int) : Int := if 1 ≤ k ∧ k ≤ 3 then 0 else 2
theorem first_yes {k : Int} (h : 1 ≤ k ∧ k ≤ 3) : firstK k = k ∧ firstE k = 0 := by unfold firstK firstE; simp [h]
theorem first_no {k : Int} (h : ¬ (1 ≤ k ∧ k ≤ 3)) : firstK k = 0 ∧ firstE k = 2 := by unfold firstK firstE; simp [h]
theorem ret_i64 {a b : Int} (h : a = b) : Ending.returned (.int .i64 a) = .returned (.int .i64 b) := by rw [h]
theorem ret_bool {a b : Bool} (h : a = b) : Ending.returned (.bool a) = .returned (.bool b) := by rw [h]
abbrev valV (k n b t : Int) : Value := .agg #[.int .u8 k, .int .i64 n, .int .i64 b, .int .i64 t]

/-- Fits: is a value of a scalar's kind? -/
def fitsB (k n b t q : Int) : Bool := mayB k n b t && (k == q)
theorem may_of_chk {k n b t : Int} (h : chkV k n b t = 0) : MayP k n b t := by
  by_cases hm : MayP k n b t
  · exact hm
  · rw [← chk_f hm] at h; omega
theorem not_may_of_chk {k n b t : Int} (h : ¬ chkV k n b t = 0) : ¬ MayP k n b t := fun hm => h (chk_t hm).symm
theorem fits_no {k n b t q : Int} (h : ¬ (1 ≤ q ∧ q ≤ 3)) : fitsB k n b t q = false := by
  unfold fitsB
  by_cases hm : MayP k n b t
  · have : ¬ k = q := by unfold MayP at hm; omega
    simp [this]
  · rw [← may_f hm]; rfl

/-! What the reference reckons in unsigned numbers. -/
theorem wrap64_congr {x y : Int} (h : x % 18446744073709551616 = y % 18446744073709551616) : wrap64 x = wrap64 y := by unfold wrap64; omega
theorem rec_add (a b : Int) : wrap64 (U (U a + U b)) = wrap64 (a + b) := by rw [wrap_u]; apply wrap64_congr; unfold U; omega
theorem rec_sub (a b : Int) : wrap64 (U (U a - U b)) = wrap64 (a - b) := by rw [wrap_u]; apply wrap64_congr; unfold U; omega
theorem rec_mul (a b : Int) : wrap64 (U (U a * U b)) = wrap64 (a * b) := by rw [wrap_u]; apply wrap64_congr; unfold U; rw [← Int.mul_emod]

end Go.Proofs.Ytliihlidobajdaa
