/-
  An argument of the type []api.Type, opened.
-/
import Derived.Test.YtphoomlamdelkaaLift
import Derived.Test.YtphoomlamdelkaaTypRef3
namespace Go.Proofs.Ytphoomlamdelkaa
set_option linter.unusedVariables false
set_option linter.unusedSimpArgs false
open Go.ChangeShapes Go.WideShapes Go.ChangeAt Go.RowKit
theorem open_types_arg {H : Type} {enc : TypeId × Value → H} {w : World} {base b0 : Nat} {spare : Nat → Bool} {held : Bool} {r : Reach} {v : Value} {d : DataW H} {p : List MemPlace}
    (hv : Value.okWide Try.prog w r b0 22 v) (h : DataW.Trod enc Try.prog w base spare held 22 v d p) : ∃ A c rows, v = .slice A rows.length c ∧ TabIn w A c rows := by
  obtain ⟨a, len, cap, rfl⟩ := okWide_slice Try.underlying22 hv
  obtain ⟨fuel, hf⟩ := h
  obtain ⟨A, c, rows, e, hh, ht⟩ := open_types hf
  have e1 : ([Value.slice a len cap] : List Value) = [.slice A rows.length c] := e
  injection e1 with e1 _
  exact ⟨A, c, rows, e1, hh, ht⟩
end Go.Proofs.Ytphoomlamdelkaa
