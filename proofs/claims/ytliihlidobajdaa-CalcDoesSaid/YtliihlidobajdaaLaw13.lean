/-
  The walks of the statements of layer 13.
-/
import Derived.Test.YtliihlidobajdaaCalc2
import Derived.Test.YtliihlidobajdaaCalcRef
import Derived.Test.YtliihlidobajdaaOff
namespace Go.Proofs.Ytliihlidobajdaa
set_option linter.unusedVariables false
open Go.ChangeShapes Go.WideShapes Go.ChangeAt Go.RowKit

theorem in64_of {a : Int} (h : (Lit.int .i64 a).wf = true) : In64 a := by
  have := bounds_i64 h
  unfold In64; omega

theorem walk_CalcDoes (op a b : Int) (w : World) (w0 : (Lit.int .u8 op).wf = true) (w1 : (Lit.int .i64 a).wf = true) (w2 : (Lit.int .i64 b).wf = true) :
    Calls Try.prog 4 #[.int .u8 op, .int .i64 a, .int .i64 b] w fun e w' => e = .returned (.bool true) ∧ Below w.heap.size w w' := by
  have wa := in64_of w1
  have wb := in64_of w2
  go_enter Try.func4, Try.ntmps4
  go_wp2_with fail
  refine (do_any _ _ _ _).mono ?_
  rintro e w1 ⟨rfl, hb1⟩
  go_wp2_with fail
  refine (rdo_any _ _ _ wa wb _).mono ?_
  rintro e w2 ⟨rfl, rfl⟩
  go_wp2_with fail
  go_ret
  exact ⟨rfl, hb1⟩
end Go.Proofs.Ytliihlidobajdaa
