/-
  Slices of structs as they come in: every element's cells, each field's own reading.
-/
import Derived.Test.YtbffebcjimhapaaGreatDoorMg1
import Derived.Deep.Slices
import Derived.Deep.Fields
namespace Go.Proofs.YtbffebcjimhapaaGreatDoor
set_option linter.unusedVariables false
set_option linter.unusedSimpArgs false
open Go.ChangeShapes Go.WideShapes Go.Deep Go.RowKit
section
variable {H : Type} {enc : TypeId × Value → H} {P : Program} {w : World} {base : Nat} {spare : Nat → Bool} {held : Bool}
end
end Go.Proofs.YtbffebcjimhapaaGreatDoor
