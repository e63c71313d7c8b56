/-
  An argument of the type api.Val, opened: four whole numbers that fit their kinds.
-/
import Derived.Test.YtliihlidobajdaaLift
import Derived.Test.YtliihlidobajdaaCalcPure
import Derived.Lib.SmallJoins
namespace Go.Proofs.Ytliihlidobajdaa
set_option linter.unusedVariables false
open Go.ChangeShapes Go.WideShapes Go.ChangeAt Go.RowKit Go.Joins

theorem cells_Val : Try.prog.cellsOf 23 = 4 := by kernel_rfl
theorem open_val {H : Type} {enc : TypeId × Value → H} {w : World} {base b0 : Nat} {spare : Nat → Bool} {held : Bool} {r : Reach} {v : Value} {d : DataW H} {p : List MemPlace}
    (hv : Value.okWide Try.prog w r b0 23 v) (h : DataW.Trod enc Try.prog w base spare held 23 v d p) :
    ∃ k n b t : Int, v = valV k n b t ∧ (Lit.int .u8 k).wf = true ∧ (Lit.int .i64 n).wf = true ∧ (Lit.int .i64 b).wf = true ∧ (Lit.int .i64 t).wf = true := by
  obtain ⟨c0, c1, c2, c3, y0, y1, y2, y3, m, rfl, rfl, rfl, h0, h1, h2, h3⟩ := open_agg4 Try.underlying23 (by kernel_rfl) cells_Val hv h
  obtain ⟨k, e0, _, w0⟩ := DataW.trod_int Try.underlying5 h0
  obtain ⟨n, e1, _, w1⟩ := DataW.trod_int Try.underlying2 h1
  obtain ⟨b, e2, _, w2⟩ := DataW.trod_int Try.underlying3 h2
  obtain ⟨t, e3, _, w3⟩ := DataW.trod_int Try.underlying3 h3
  simp at e0 e1 e2 e3
  subst e0 e1 e2 e3
  exact ⟨k, n, b, t, rfl, w0, w1, w2, w3⟩
end Go.Proofs.Ytliihlidobajdaa
