/-
  NARROWER THAN 'FOR EVERY INPUT', by the rows' own cells (each row's printed sentence says how): ShapeUses: laid · ShapeAsks: laid · ShapeNames: laid · ShapeBack: laid · ShapeTells: laid.
  DERIVED. THE GIVEN ROWS OF THIS SEAT. 5 by the template 'for every input the law returns true; each argument reads behind the call as it read before'; 0 by the template 'total and deterministic' (their statements: YtcbhmpkginebaaaDoorTotals.lean).
  GIVEN WITH THE SEED: the statements are not yours to turn. If you find one false, say at which input.
  Laid BY PROGRAM, IN A SANDBOX (cutbox-rows.mjs): the forced cells as the released guide's own fill.sh prints them over the translation 11909b75af371eda… (all of the seat's roots in one cut). By AI agents, Wed Nov 11 2026. No macro, syntax, notation, axiom, sorry.
-/
import Derived.Test.YtcbhmpkginebaaaDoorChecked
import GoSem.Claim
import GoSem.ClaimJoined
import GoSem.ClaimMapViews
import Derived.JoinedTies
import Derived.KernelRfl
namespace Go.Proofs.YtcbhmpkginebaaaDoor
/- THE CELL 'sum', in the pinned program and in every row, IS THE sha256 OF THE DUMP (.gsa) THAT YtcbhmpkginebaaaDoorProg.lean LOADS. Nothing in Lean hashes anything: it is a label: what it is worth is what the hold of that sum in a sandbox is worth. -/
noncomputable def Tryd.pinned : Pinned := { name := "ytcbhmpkginebaaadoor", sum := "11909b75af371eda6e083107fd935abb755f5e7c69476a73abc38dd8b8101ed4", checked := Tryd.checked }
namespace Rows
def none {H : Type} : Left H := { results := [], args := [] }

/- WHAT THE LISTED PACKAGE-LEVEL VARIABLES READ AS WHEN THE CALL BEGINS. Each datum BY PROGRAM (the guide's laid-datum.mjs) off the statement by which the dump's own 'gosem.cut.vars' lays the variable. In a bare row this is a premise. The card (YtcbhmpkginebaaaDoorCards.lean) ties it to the program's text. -/
def laid_fescue_shape_table {H : Type} : DataW H := .agg [.agg [.lit (.bool false), .lit (.bool false), .lit (.bool false), .lit (.bool false), .lit (.bool false), .lit (.bool false)], .agg [.lit (.bool false), .lit (.bool false), .lit (.bool true), .lit (.bool false), .lit (.bool false), .lit (.bool true)], .agg [.lit (.bool false), .lit (.bool false), .lit (.bool false), .lit (.bool false), .lit (.bool false), .lit (.bool true)], .agg [.lit (.bool false), .lit (.bool false), .lit (.bool true), .lit (.bool false), .lit (.bool false), .lit (.bool true)], .agg [.lit (.bool true), .lit (.bool true), .lit (.bool false), .lit (.bool false), .lit (.bool false), .lit (.bool true)], .agg [.lit (.bool true), .lit (.bool true), .lit (.bool false), .lit (.bool false), .lit (.bool false), .lit (.bool true)], .agg [.lit (.bool true), .lit (.bool true), .lit (.bool false), .lit (.bool false), .lit (.bool false), .lit (.bool true)], .agg [.lit (.bool true), .lit (.bool true), .lit (.bool false), .lit (.bool false), .lit (.bool false), .lit (.bool true)], .agg [.lit (.bool true), .lit (.bool true), .lit (.bool false), .lit (.bool false), .lit (.bool false), .lit (.bool true)], .agg [.lit (.bool true), .lit (.bool true), .lit (.bool false), .lit (.bool false), .lit (.bool false), .lit (.bool true)], .agg [.lit (.bool true), .lit (.bool true), .lit (.bool false), .lit (.bool false), .lit (.bool false), .lit (.bool true)], .agg [.lit (.bool false), .lit (.bool false), .lit (.bool false), .lit (.bool false), .lit (.bool false), .lit (.bool true)], .agg [.lit (.bool false), .lit (.bool false), .lit (.bool false), .lit (.bool false), .lit (.bool false), .lit (.bool true)], .agg [.lit (.bool true), .lit (.bool false), .lit (.bool false), .lit (.bool false), .lit (.bool false), .lit (.bool false)], .agg [.lit (.bool true), .lit (.bool false), .lit (.bool true), .lit (.bool false), .lit (.bool false), .lit (.bool true)], .agg [.lit (.bool true), .lit (.bool true), .lit (.bool false), .lit (.bool false), .lit (.bool false), .lit (.bool true)], .agg [.lit (.bool true), .lit (.bool false), .lit (.bool false), .lit (.bool false), .lit (.bool false), .lit (.bool true)], .agg [.lit (.bool true), .lit (.bool true), .lit (.bool false), .lit (.bool false), .lit (.bool false), .lit (.bool false)], .agg [.lit (.bool false), .lit (.bool false), .lit (.bool true), .lit (.bool true), .lit (.bool false), .lit (.bool true)], .agg [.lit (.bool true), .lit (.bool false), .lit (.bool false), .lit (.bool true), .lit (.bool false), .lit (.bool true)], .agg [.lit (.bool false), .lit (.bool false), .lit (.bool false), .lit (.bool false), .lit (.bool false), .lit (.bool true)], .agg [.lit (.bool true), .lit (.bool false), .lit (.bool false), .lit (.bool false), .lit (.bool false), .lit (.bool false)], .agg [.lit (.bool false), .lit (.bool false), .lit (.bool false), .lit (.bool true), .lit (.bool true), .lit (.bool true)]]

/-- 'fescuelaw06.ShapeUses': WHATEVER THE INPUT: true; the input reads as it did. -/
def shapeUsesSpec : ChangeSpec := { name := "shapeUses", fn := fun _ => fun
  | [d1, d2] => { results := [.lit (.bool true)], args := [d1, d2] }
  | _ => none }
def shapeUsesRow : OpenClaim := { program := "ytcbhmpkginebaaadoor", sum := "11909b75af371eda6e083107fd935abb755f5e7c69476a73abc38dd8b8101ed4", func := "fescue/fescuelaw06.ShapeUses", spec := "shapeUses", named := ["fescue/shape.table"], apart := false, laid := [("fescue/shape.table", laid_fescue_shape_table)] }
def ShapeUsesSaid : Prop := shapeUsesRow.holds Tryd.pinned (OpenSpec.ofChange shapeUsesSpec)

/-- ITS FALSE NEIGHBOUR: 'it returns false'. Refute it at one input. -/
def shapeUsesWrong : ChangeSpec := { name := "shapeUses", fn := fun _ => fun
  | [d1, d2] => { results := [.lit (.bool false)], args := [d1, d2] }
  | _ => none }
def ShapeUsesWrongFalsely : Prop := shapeUsesRow.holds Tryd.pinned (OpenSpec.ofChange shapeUsesWrong)

/-- 'fescuelaw06.ShapeAsks': WHATEVER THE INPUT: true; the input reads as it did. -/
def shapeAsksSpec : ChangeSpec := { name := "shapeAsks", fn := fun _ => fun
  | [d1, d2, d3, d4] => { results := [.lit (.bool true)], args := [d1, d2, d3, d4] }
  | _ => none }
def shapeAsksRow : OpenClaim := { program := "ytcbhmpkginebaaadoor", sum := "11909b75af371eda6e083107fd935abb755f5e7c69476a73abc38dd8b8101ed4", func := "fescue/fescuelaw06.ShapeAsks", spec := "shapeAsks", unfollowed := true, recurses := true, named := ["fescue/shape.table"], apart := false, laid := [("fescue/shape.table", laid_fescue_shape_table)] }
def ShapeAsksSaid : Prop := shapeAsksRow.holds Tryd.pinned (OpenSpec.ofChange shapeAsksSpec)

/-- ITS FALSE NEIGHBOUR: 'it returns false'. Refute it at one input. -/
def shapeAsksWrong : ChangeSpec := { name := "shapeAsks", fn := fun _ => fun
  | [d1, d2, d3, d4] => { results := [.lit (.bool false)], args := [d1, d2, d3, d4] }
  | _ => none }
def ShapeAsksWrongFalsely : Prop := shapeAsksRow.holds Tryd.pinned (OpenSpec.ofChange shapeAsksWrong)

/-- 'fescuelaw06.ShapeNames': WHATEVER THE INPUT: true; the input reads as it did. -/
def shapeNamesSpec : ChangeSpec := { name := "shapeNames", fn := fun _ => fun
  | [] => { results := [.lit (.bool true)], args := [] }
  | _ => none }
def shapeNamesRow : OpenClaim := { program := "ytcbhmpkginebaaadoor", sum := "11909b75af371eda6e083107fd935abb755f5e7c69476a73abc38dd8b8101ed4", func := "fescue/fescuelaw06.ShapeNames", spec := "shapeNames", unfollowed := true, recurses := true, named := ["fescue/shape.table"], apart := false, laid := [("fescue/shape.table", laid_fescue_shape_table)] }
def ShapeNamesSaid : Prop := shapeNamesRow.holds Tryd.pinned (OpenSpec.ofChange shapeNamesSpec)

/-- ITS FALSE NEIGHBOUR: 'it returns false'. Refute it at one input. -/
def shapeNamesWrong : ChangeSpec := { name := "shapeNames", fn := fun _ => fun
  | [] => { results := [.lit (.bool false)], args := [] }
  | _ => none }
def ShapeNamesWrongFalsely : Prop := shapeNamesRow.holds Tryd.pinned (OpenSpec.ofChange shapeNamesWrong)

/-- 'fescuelaw06.ShapeBack': WHATEVER THE INPUT: true; the input reads as it did. -/
def shapeBackSpec : ChangeSpec := { name := "shapeBack", fn := fun _ => fun
  | [d1, d2, d3] => { results := [.lit (.bool true)], args := [d1, d2, d3] }
  | _ => none }
def shapeBackRow : OpenClaim := { program := "ytcbhmpkginebaaadoor", sum := "11909b75af371eda6e083107fd935abb755f5e7c69476a73abc38dd8b8101ed4", func := "fescue/fescuelaw06.ShapeBack", spec := "shapeBack", unfollowed := true, recurses := true, named := ["fescue/shape.table"], apart := false, laid := [("fescue/shape.table", laid_fescue_shape_table)] }
def ShapeBackSaid : Prop := shapeBackRow.holds Tryd.pinned (OpenSpec.ofChange shapeBackSpec)

/-- ITS FALSE NEIGHBOUR: 'it returns false'. Refute it at one input. -/
def shapeBackWrong : ChangeSpec := { name := "shapeBack", fn := fun _ => fun
  | [d1, d2, d3] => { results := [.lit (.bool false)], args := [d1, d2, d3] }
  | _ => none }
def ShapeBackWrongFalsely : Prop := shapeBackRow.holds Tryd.pinned (OpenSpec.ofChange shapeBackWrong)

/-- 'fescuelaw06.ShapeTells': WHATEVER THE INPUT: true; the input reads as it did. -/
def shapeTellsSpec : ChangeSpec := { name := "shapeTells", fn := fun _ => fun
  | [d1, d2] => { results := [.lit (.bool true)], args := [d1, d2] }
  | _ => none }
def shapeTellsRow : OpenClaim := { program := "ytcbhmpkginebaaadoor", sum := "11909b75af371eda6e083107fd935abb755f5e7c69476a73abc38dd8b8101ed4", func := "fescue/fescuelaw06.ShapeTells", spec := "shapeTells", unfollowed := true, recurses := true, named := ["fescue/shape.table"], apart := false, laid := [("fescue/shape.table", laid_fescue_shape_table)] }
def ShapeTellsSaid : Prop := shapeTellsRow.holds Tryd.pinned (OpenSpec.ofChange shapeTellsSpec)

/-- ITS FALSE NEIGHBOUR: 'it returns false'. Refute it at one input. -/
def shapeTellsWrong : ChangeSpec := { name := "shapeTells", fn := fun _ => fun
  | [d1, d2] => { results := [.lit (.bool false)], args := [d1, d2] }
  | _ => none }
def ShapeTellsWrongFalsely : Prop := shapeTellsRow.holds Tryd.pinned (OpenSpec.ofChange shapeTellsWrong)

/- THE SECOND FORM. 'bulk': how many values and letters a reading holds, each counted each time it is reached (what is shared counts as often as it is met; a slice's spare places count too). A statement '..UptoSaid' is the law's where the arguments, and the package variables that the reading takes, are together of bulk at most 1048576: NARROWER than '..Said'. Prove '..Said' where nothing that the law and all that it calls make is longer than what came in: it says more and counts as full. Else prove '..UptoSaid'. A law counts once. -/
mutual
def uptoBulk {H : Type} : DataW H → Nat
  | .lit (.string bytes) => bytes.length + 1
  | .lit _ => 1
  | .nil => 1
  | .ptr d => uptoBulk d + 1
  | .slice elems spare => uptoBulkAll elems + uptoBulkAll spare + 1
  | .agg parts => uptoBulkAll parts + 1
  | .iface _ d => uptoBulk d + 1
  | .map entries => uptoBulkEntries entries + 1
  | .held _ => 1
def uptoBulkAll {H : Type} : List (DataW H) → Nat
  | [] => 0
  | d :: r => uptoBulk d + uptoBulkAll r
def uptoBulkEntries {H : Type} : List (Lit × DataW H) → Nat
  | [] => 0
  | x :: r => uptoBulkEntry x + uptoBulkEntries r
def uptoBulkEntry {H : Type} : Lit × DataW H → Nat
  | (.string bytes, d) => bytes.length + uptoBulk d + 1
  | (_, d) => uptoBulk d + 1
 end
def uptoSmall : (H : Type) → List (DataW H) → Bool := fun _ ds => decide (uptoBulkAll ds ≤ 1048576)
def OpenSpec.upto (s : _root_.Go.ChangeSpec) : _root_.Go.OpenSpec := { _root_.Go.OpenSpec.ofChange s with cond := some uptoSmall }

/-- 'fescuelaw06.ShapeUses', WHERE WHAT IT READS IS OF BULK AT MOST 1048576: true; the input reads as it did. -/
def shapeUsesUptoRow : OpenClaim := { program := "ytcbhmpkginebaaadoor", sum := "11909b75af371eda6e083107fd935abb755f5e7c69476a73abc38dd8b8101ed4", func := "fescue/fescuelaw06.ShapeUses", spec := "shapeUses", named := ["fescue/shape.table"], apart := false, laid := [("fescue/shape.table", laid_fescue_shape_table)], narrowed := true }
def ShapeUsesUptoSaid : Prop := shapeUsesUptoRow.holds Tryd.pinned (OpenSpec.upto shapeUsesSpec)

/-- 'fescuelaw06.ShapeAsks', WHERE WHAT IT READS IS OF BULK AT MOST 1048576: true; the input reads as it did. -/
def shapeAsksUptoRow : OpenClaim := { program := "ytcbhmpkginebaaadoor", sum := "11909b75af371eda6e083107fd935abb755f5e7c69476a73abc38dd8b8101ed4", func := "fescue/fescuelaw06.ShapeAsks", spec := "shapeAsks", unfollowed := true, recurses := true, named := ["fescue/shape.table"], apart := false, laid := [("fescue/shape.table", laid_fescue_shape_table)], narrowed := true }
def ShapeAsksUptoSaid : Prop := shapeAsksUptoRow.holds Tryd.pinned (OpenSpec.upto shapeAsksSpec)

/-- 'fescuelaw06.ShapeNames', WHERE WHAT IT READS IS OF BULK AT MOST 1048576: true; the input reads as it did. -/
def shapeNamesUptoRow : OpenClaim := { program := "ytcbhmpkginebaaadoor", sum := "11909b75af371eda6e083107fd935abb755f5e7c69476a73abc38dd8b8101ed4", func := "fescue/fescuelaw06.ShapeNames", spec := "shapeNames", unfollowed := true, recurses := true, named := ["fescue/shape.table"], apart := false, laid := [("fescue/shape.table", laid_fescue_shape_table)], narrowed := true }
def ShapeNamesUptoSaid : Prop := shapeNamesUptoRow.holds Tryd.pinned (OpenSpec.upto shapeNamesSpec)

/-- 'fescuelaw06.ShapeBack', WHERE WHAT IT READS IS OF BULK AT MOST 1048576: true; the input reads as it did. -/
def shapeBackUptoRow : OpenClaim := { program := "ytcbhmpkginebaaadoor", sum := "11909b75af371eda6e083107fd935abb755f5e7c69476a73abc38dd8b8101ed4", func := "fescue/fescuelaw06.ShapeBack", spec := "shapeBack", unfollowed := true, recurses := true, named := ["fescue/shape.table"], apart := false, laid := [("fescue/shape.table", laid_fescue_shape_table)], narrowed := true }
def ShapeBackUptoSaid : Prop := shapeBackUptoRow.holds Tryd.pinned (OpenSpec.upto shapeBackSpec)

/-- 'fescuelaw06.ShapeTells', WHERE WHAT IT READS IS OF BULK AT MOST 1048576: true; the input reads as it did. -/
def shapeTellsUptoRow : OpenClaim := { program := "ytcbhmpkginebaaadoor", sum := "11909b75af371eda6e083107fd935abb755f5e7c69476a73abc38dd8b8101ed4", func := "fescue/fescuelaw06.ShapeTells", spec := "shapeTells", unfollowed := true, recurses := true, named := ["fescue/shape.table"], apart := false, laid := [("fescue/shape.table", laid_fescue_shape_table)], narrowed := true }
def ShapeTellsUptoSaid : Prop := shapeTellsUptoRow.holds Tryd.pinned (OpenSpec.upto shapeTellsSpec)

end Rows
end Go.Proofs.YtcbhmpkginebaaaDoor
