/-
  Whether two arrows are the same.
-/
import Derived.Test.YtohoihicmmidmaaKnAlive
import Derived.Laws.StructEq
import Derived.ChangeKeysEq
namespace Go.Proofs.Ytohoihicmmidmaa
set_option linter.unusedVariables false
set_option linter.unusedSimpArgs false
open Go.ChangeShapes Go.WideShapes Go.ChangeAt Go.RowKit Kn

theorem part0 (w : World) (x y : Int) : (part 3 #[.int .i64 x, .int .i64 y] 0).run Try.prog w = .ok (.int .i64 x) w := by
  first | rfl | kernel_rfl
theorem part1 (w : World) (x y : Int) : (part 3 #[.int .i64 x, .int .i64 y] 1).run Try.prog w = .ok (.int .i64 y) w := by
  first | rfl | kernel_rfl
theorem eqArr (x y x' y' : Int) (w : World) : (Op.equalIn 10000 32 (.agg #[.int .i64 x, .int .i64 y]) (.agg #[.int .i64 x', .int .i64 y'])).run Try.prog w = .ok (x == x' && y == y') w := by
  obtain ⟨i0, hi, hz0, hz1, hz2⟩ := info_parts intInfo
  rw [show (10000 : Nat) = 9998 + 1 + 1 from rfl, run_equalIn_array w (9998 + 1) _ _ Try.underlying32 hi]
  rw [show List.range 2 = [0, 1] from rfl, cellsInt']
  unfold Op.eqItems
  simp only [Sem.run_bind, Nat.zero_mul, part0, Result.andThen_ok]
  rw [run_equalIn_int w 9998 3 .i64 .i64 x x' Try.underlying3]
  simp only [Result.andThen_ok]
  by_cases h : x = x'
  · subst h
    simp only [beq_self_eq_true, Bool.not_true, Bool.false_eq_true, if_false, Bool.true_and]
    unfold Op.eqItems
    simp only [Sem.run_bind, Nat.mul_one, part1, Result.andThen_ok]
    rw [run_equalIn_int w 9998 3 .i64 .i64 y y' Try.underlying3]
    simp only [Result.andThen_ok]
    by_cases h2 : y = y'
    · subst h2
      simp [Op.eqItems]
    · have : (y == y') = false := by simpa using h2
      rw [this]
      simp
  · have : (x == x') = false := by simpa using h
    rw [this]
    simp
end Go.Proofs.Ytohoihicmmidmaa
