/-
  An argument of the type api.Val, opened.
-/
import Derived.Test.YthddacnnhmcoaaaLift
import Derived.Test.YthddacnnhmcoaaaMmData
import Derived.Lib.SmallJoins
namespace Go.Proofs.Ythddacnnhmcoaaa
set_option linter.unusedVariables false
set_option linter.unusedSimpArgs false
open Go.ChangeShapes Go.WideShapes Go.ChangeAt Go.RowKit Go.Joins
theorem open_vl_arg {H : Type} {enc : TypeId × Value → H} {w : World} {base b0 : Nat} {spare : Nat → Bool} {held : Bool} {r : Reach} {v : Value} {d : DataW H} {p : List MemPlace}
    (hv : Value.okWide Try.prog w r b0 29 v) (h : DataW.Trod enc Try.prog w base spare held 29 v d p) : ∃ x : Vl, v = valV x.k x.n x.b x.t := by
  obtain ⟨c0, c1, c2, c3, y0, y1, y2, y3, m, rfl, rfl, rfl, h0, h1, h2, h3⟩ := open_agg4 Try.underlying29 (by kernel_rfl) cellsVal hv h
  obtain ⟨k, e0, _, _⟩ := DataW.trod_int Try.underlying5 h0
  obtain ⟨n, e1, _, _⟩ := DataW.trod_int Try.underlying2 h1
  obtain ⟨b, e2, _, _⟩ := DataW.trod_int Try.underlying3 h2
  obtain ⟨t, e3, _, _⟩ := DataW.trod_int Try.underlying3 h3
  simp at e0 e1 e2 e3
  subst e0 e1 e2 e3
  exact ⟨⟨k, n, b, t⟩, rfl⟩
end Go.Proofs.Ythddacnnhmcoaaa
