/-
  NARROWER THAN 'FOR EVERY INPUT', by the rows' own cells (each row's printed sentence says how): ReadTells: laid · WriteTells: laid · WriteNames: laid · WriteCanons: laid · WriteBack: laid · WriteCanon: laid · WriteApart: laid.
  DERIVED. THE GIVEN ROWS OF THIS SEAT. 7 by the template 'for every input the law returns true; each argument reads behind the call as it read before'; 0 by the template 'total and deterministic' (their statements: YtbffebcjimhapaaGreatDoorTotals.lean).
  GIVEN WITH THE SEED: the statements are not yours to turn. If you find one false, say at which input.
  Laid BY PROGRAM, IN A SANDBOX (cutbox-rows.mjs): the forced cells as the released guide's own fill.sh prints them over the translation 2494186b2b9ec7e0… (all of the seat's roots in one cut). By AI agents, Wed Nov 11 2026. No macro, syntax, notation, axiom, sorry.
-/
import Derived.Test.YtbffebcjimhapaaGreatDoorChecked
import GoSem.Claim
import GoSem.ClaimJoined
import GoSem.ClaimMapViews
import Derived.JoinedTies
import Derived.KernelRfl
namespace Go.Proofs.YtbffebcjimhapaaGreatDoor
/- THE CELL 'sum', in the pinned program and in every row, IS THE sha256 OF THE DUMP (.gsa) THAT YtbffebcjimhapaaGreatDoorProg.lean LOADS. Nothing in Lean hashes anything: it is a label: what it is worth is what the hold of that sum in a sandbox is worth. -/
noncomputable def Tryz.pinned : Pinned := { name := "ytbffebcjimhapaagreatdoor", sum := "2494186b2b9ec7e0b71c1c853b23bc10aedf3465f235a37e3e9aa268063ea341", checked := Tryz.checked }
namespace Rows
def none {H : Type} : Left H := { results := [], args := [] }

/- WHAT THE LISTED PACKAGE-LEVEL VARIABLES READ AS WHEN THE CALL BEGINS. Each datum BY PROGRAM (the guide's laid-datum.mjs) off the statement by which the dump's own 'gosem.cut.vars' lays the variable. In a bare row this is a premise. The card (YtbffebcjimhapaaGreatDoorCards.lean) ties it to the program's text. -/
def laid_fescue_shape_table {H : Type} : DataW H := .agg [.agg [.lit (.bool false), .lit (.bool false), .lit (.bool false), .lit (.bool false), .lit (.bool false), .lit (.bool false)], .agg [.lit (.bool false), .lit (.bool false), .lit (.bool true), .lit (.bool false), .lit (.bool false), .lit (.bool true)], .agg [.lit (.bool false), .lit (.bool false), .lit (.bool false), .lit (.bool false), .lit (.bool false), .lit (.bool true)], .agg [.lit (.bool false), .lit (.bool false), .lit (.bool true), .lit (.bool false), .lit (.bool false), .lit (.bool true)], .agg [.lit (.bool true), .lit (.bool true), .lit (.bool false), .lit (.bool false), .lit (.bool false), .lit (.bool true)], .agg [.lit (.bool true), .lit (.bool true), .lit (.bool false), .lit (.bool false), .lit (.bool false), .lit (.bool true)], .agg [.lit (.bool true), .lit (.bool true), .lit (.bool false), .lit (.bool false), .lit (.bool false), .lit (.bool true)], .agg [.lit (.bool true), .lit (.bool true), .lit (.bool false), .lit (.bool false), .lit (.bool false), .lit (.bool true)], .agg [.lit (.bool true), .lit (.bool true), .lit (.bool false), .lit (.bool false), .lit (.bool false), .lit (.bool true)], .agg [.lit (.bool true), .lit (.bool true), .lit (.bool false), .lit (.bool false), .lit (.bool false), .lit (.bool true)], .agg [.lit (.bool true), .lit (.bool true), .lit (.bool false), .lit (.bool false), .lit (.bool false), .lit (.bool true)], .agg [.lit (.bool false), .lit (.bool false), .lit (.bool false), .lit (.bool false), .lit (.bool false), .lit (.bool true)], .agg [.lit (.bool false), .lit (.bool false), .lit (.bool false), .lit (.bool false), .lit (.bool false), .lit (.bool true)], .agg [.lit (.bool true), .lit (.bool false), .lit (.bool false), .lit (.bool false), .lit (.bool false), .lit (.bool false)], .agg [.lit (.bool true), .lit (.bool false), .lit (.bool true), .lit (.bool false), .lit (.bool false), .lit (.bool true)], .agg [.lit (.bool true), .lit (.bool true), .lit (.bool false), .lit (.bool false), .lit (.bool false), .lit (.bool true)], .agg [.lit (.bool true), .lit (.bool false), .lit (.bool false), .lit (.bool false), .lit (.bool false), .lit (.bool true)], .agg [.lit (.bool true), .lit (.bool true), .lit (.bool false), .lit (.bool false), .lit (.bool false), .lit (.bool false)], .agg [.lit (.bool false), .lit (.bool false), .lit (.bool true), .lit (.bool true), .lit (.bool false), .lit (.bool true)], .agg [.lit (.bool true), .lit (.bool false), .lit (.bool false), .lit (.bool true), .lit (.bool false), .lit (.bool true)], .agg [.lit (.bool false), .lit (.bool false), .lit (.bool false), .lit (.bool false), .lit (.bool false), .lit (.bool true)], .agg [.lit (.bool true), .lit (.bool false), .lit (.bool false), .lit (.bool false), .lit (.bool false), .lit (.bool false)], .agg [.lit (.bool false), .lit (.bool false), .lit (.bool false), .lit (.bool true), .lit (.bool true), .lit (.bool true)]]

/-- 'fescuelaw07.ReadTells': WHATEVER THE INPUT: true; the input reads as it did. -/
def readTellsSpec : ChangeSpec := { name := "readTells", fn := fun _ => fun
  | [d] => { results := [.lit (.bool true)], args := [d] }
  | _ => none }
def readTellsRow : OpenClaim := { program := "ytbffebcjimhapaagreatdoor", sum := "2494186b2b9ec7e0b71c1c853b23bc10aedf3465f235a37e3e9aa268063ea341", func := "fescue/fescuelaw07.ReadTells", spec := "readTells", unfollowed := true, recurses := true, named := ["fescue/shape.table"], apart := false, laid := [("fescue/shape.table", laid_fescue_shape_table)] }
def ReadTellsSaid : Prop := readTellsRow.holds Tryz.pinned (OpenSpec.ofChange readTellsSpec)

/-- ITS FALSE NEIGHBOUR: 'it returns false'. Refute it at one input. -/
def readTellsWrong : ChangeSpec := { name := "readTells", fn := fun _ => fun
  | [d] => { results := [.lit (.bool false)], args := [d] }
  | _ => none }
def ReadTellsWrongFalsely : Prop := readTellsRow.holds Tryz.pinned (OpenSpec.ofChange readTellsWrong)

/-- 'fescuelaw08.WriteTells': WHATEVER THE INPUT: true; the input reads as it did. -/
def writeTellsSpec : ChangeSpec := { name := "writeTells", fn := fun _ => fun
  | [d] => { results := [.lit (.bool true)], args := [d] }
  | _ => none }
def writeTellsRow : OpenClaim := { program := "ytbffebcjimhapaagreatdoor", sum := "2494186b2b9ec7e0b71c1c853b23bc10aedf3465f235a37e3e9aa268063ea341", func := "fescue/fescuelaw08.WriteTells", spec := "writeTells", inPlace := ["internal/bytealg.IndexByteString", "internal/bytealg.IndexString", "internal/abi.NoEscape"], unfollowed := true, recurses := true, named := ["fescue/shape.table", "internal/bytealg.MaxLen"], apart := false, laid := [("fescue/shape.table", laid_fescue_shape_table)] }
def WriteTellsSaid : Prop := writeTellsRow.holds Tryz.pinned (OpenSpec.ofChange writeTellsSpec)

/-- ITS FALSE NEIGHBOUR: 'it returns false'. Refute it at one input. -/
def writeTellsWrong : ChangeSpec := { name := "writeTells", fn := fun _ => fun
  | [d] => { results := [.lit (.bool false)], args := [d] }
  | _ => none }
def WriteTellsWrongFalsely : Prop := writeTellsRow.holds Tryz.pinned (OpenSpec.ofChange writeTellsWrong)

/-- 'fescuelaw08.WriteNames': WHATEVER THE INPUT: true; the input reads as it did. -/
def writeNamesSpec : ChangeSpec := { name := "writeNames", fn := fun _ => fun
  | [] => { results := [.lit (.bool true)], args := [] }
  | _ => none }
def writeNamesRow : OpenClaim := { program := "ytbffebcjimhapaagreatdoor", sum := "2494186b2b9ec7e0b71c1c853b23bc10aedf3465f235a37e3e9aa268063ea341", func := "fescue/fescuelaw08.WriteNames", spec := "writeNames", inPlace := ["internal/bytealg.IndexByteString", "internal/bytealg.IndexString", "internal/abi.NoEscape"], unfollowed := true, recurses := true, named := ["fescue/shape.table", "internal/bytealg.MaxLen"], apart := false, laid := [("fescue/shape.table", laid_fescue_shape_table)] }
def WriteNamesSaid : Prop := writeNamesRow.holds Tryz.pinned (OpenSpec.ofChange writeNamesSpec)

/-- ITS FALSE NEIGHBOUR: 'it returns false'. Refute it at one input. -/
def writeNamesWrong : ChangeSpec := { name := "writeNames", fn := fun _ => fun
  | [] => { results := [.lit (.bool false)], args := [] }
  | _ => none }
def WriteNamesWrongFalsely : Prop := writeNamesRow.holds Tryz.pinned (OpenSpec.ofChange writeNamesWrong)

/-- 'fescuelaw08.WriteCanons': WHATEVER THE INPUT: true; the input reads as it did. -/
def writeCanonsSpec : ChangeSpec := { name := "writeCanons", fn := fun _ => fun
  | [d] => { results := [.lit (.bool true)], args := [d] }
  | _ => none }
def writeCanonsRow : OpenClaim := { program := "ytbffebcjimhapaagreatdoor", sum := "2494186b2b9ec7e0b71c1c853b23bc10aedf3465f235a37e3e9aa268063ea341", func := "fescue/fescuelaw08.WriteCanons", spec := "writeCanons", inPlace := ["internal/bytealg.IndexByteString", "internal/bytealg.IndexString", "internal/abi.NoEscape"], unfollowed := true, recurses := true, named := ["fescue/shape.table", "internal/bytealg.MaxLen"], apart := false, laid := [("fescue/shape.table", laid_fescue_shape_table)] }
def WriteCanonsSaid : Prop := writeCanonsRow.holds Tryz.pinned (OpenSpec.ofChange writeCanonsSpec)

/-- ITS FALSE NEIGHBOUR: 'it returns false'. Refute it at one input. -/
def writeCanonsWrong : ChangeSpec := { name := "writeCanons", fn := fun _ => fun
  | [d] => { results := [.lit (.bool false)], args := [d] }
  | _ => none }
def WriteCanonsWrongFalsely : Prop := writeCanonsRow.holds Tryz.pinned (OpenSpec.ofChange writeCanonsWrong)

/-- 'fescuelaw08.WriteBack': WHATEVER THE INPUT: true; the input reads as it did. -/
def writeBackSpec : ChangeSpec := { name := "writeBack", fn := fun _ => fun
  | [d] => { results := [.lit (.bool true)], args := [d] }
  | _ => none }
def writeBackRow : OpenClaim := { program := "ytbffebcjimhapaagreatdoor", sum := "2494186b2b9ec7e0b71c1c853b23bc10aedf3465f235a37e3e9aa268063ea341", func := "fescue/fescuelaw08.WriteBack", spec := "writeBack", inPlace := ["internal/bytealg.IndexByteString", "internal/bytealg.IndexString", "internal/abi.NoEscape"], unfollowed := true, recurses := true, named := ["fescue/shape.table", "internal/bytealg.MaxLen"], apart := false, laid := [("fescue/shape.table", laid_fescue_shape_table)] }
def WriteBackSaid : Prop := writeBackRow.holds Tryz.pinned (OpenSpec.ofChange writeBackSpec)

/-- ITS FALSE NEIGHBOUR: 'it returns false'. Refute it at one input. -/
def writeBackWrong : ChangeSpec := { name := "writeBack", fn := fun _ => fun
  | [d] => { results := [.lit (.bool false)], args := [d] }
  | _ => none }
def WriteBackWrongFalsely : Prop := writeBackRow.holds Tryz.pinned (OpenSpec.ofChange writeBackWrong)

/-- 'fescuelaw08.WriteCanon': WHATEVER THE INPUT: true; the input reads as it did. -/
def writeCanonSpec : ChangeSpec := { name := "writeCanon", fn := fun _ => fun
  | [d] => { results := [.lit (.bool true)], args := [d] }
  | _ => none }
def writeCanonRow : OpenClaim := { program := "ytbffebcjimhapaagreatdoor", sum := "2494186b2b9ec7e0b71c1c853b23bc10aedf3465f235a37e3e9aa268063ea341", func := "fescue/fescuelaw08.WriteCanon", spec := "writeCanon", inPlace := ["internal/bytealg.IndexByteString", "internal/bytealg.IndexString", "internal/abi.NoEscape"], unfollowed := true, recurses := true, named := ["fescue/shape.table", "internal/bytealg.MaxLen"], apart := false, laid := [("fescue/shape.table", laid_fescue_shape_table)] }
def WriteCanonSaid : Prop := writeCanonRow.holds Tryz.pinned (OpenSpec.ofChange writeCanonSpec)

/-- ITS FALSE NEIGHBOUR: 'it returns false'. Refute it at one input. -/
def writeCanonWrong : ChangeSpec := { name := "writeCanon", fn := fun _ => fun
  | [d] => { results := [.lit (.bool false)], args := [d] }
  | _ => none }
def WriteCanonWrongFalsely : Prop := writeCanonRow.holds Tryz.pinned (OpenSpec.ofChange writeCanonWrong)

/-- 'fescuelaw08.WriteApart': WHATEVER THE INPUT: true; the input reads as it did. -/
def writeApartSpec : ChangeSpec := { name := "writeApart", fn := fun _ => fun
  | [d1, d2] => { results := [.lit (.bool true)], args := [d1, d2] }
  | _ => none }
def writeApartRow : OpenClaim := { program := "ytbffebcjimhapaagreatdoor", sum := "2494186b2b9ec7e0b71c1c853b23bc10aedf3465f235a37e3e9aa268063ea341", func := "fescue/fescuelaw08.WriteApart", spec := "writeApart", inPlace := ["internal/bytealg.IndexByteString", "internal/bytealg.IndexString", "internal/abi.NoEscape"], unfollowed := true, recurses := true, named := ["fescue/shape.table", "internal/bytealg.MaxLen"], apart := false, laid := [("fescue/shape.table", laid_fescue_shape_table)] }
def WriteApartSaid : Prop := writeApartRow.holds Tryz.pinned (OpenSpec.ofChange writeApartSpec)

/-- ITS FALSE NEIGHBOUR: 'it returns false'. Refute it at one input. -/
def writeApartWrong : ChangeSpec := { name := "writeApart", fn := fun _ => fun
  | [d1, d2] => { results := [.lit (.bool false)], args := [d1, d2] }
  | _ => none }
def WriteApartWrongFalsely : Prop := writeApartRow.holds Tryz.pinned (OpenSpec.ofChange writeApartWrong)

/- THE SECOND FORM. 'bulk': how many values and letters a reading holds, each counted each time it is reached (what is shared counts as often as it is met; a slice's spare places count too). A statement '..UptoSaid' is the law's where the arguments, and the package variables that the reading takes, are together of bulk at most 1048576: NARROWER than '..Said'. Prove '..Said' where nothing that the law and all that it calls make is longer than what came in: it says more and counts as full. Else prove '..UptoSaid'. A law counts once. -/
mutual
def uptoBulk {H : Type} : DataW H → Nat
  | .lit (.string bytes) => bytes.length + 1
  | .lit _ => 1
  | .nil => 1
  | .ptr d => uptoBulk d + 1
  | .slice elems spare => uptoBulkAll elems + uptoBulkAll spare + 1
  | .agg parts => uptoBulkAll parts + 1
  | .iface _ d => uptoBulk d + 1
  | .map entries => uptoBulkEntries entries + 1
  | .held _ => 1
def uptoBulkAll {H : Type} : List (DataW H) → Nat
  | [] => 0
  | d :: r => uptoBulk d + uptoBulkAll r
def uptoBulkEntries {H : Type} : List (Lit × DataW H) → Nat
  | [] => 0
  | x :: r => uptoBulkEntry x + uptoBulkEntries r
def uptoBulkEntry {H : Type} : Lit × DataW H → Nat
  | (.string bytes, d) => bytes.length + uptoBulk d + 1
  | (_, d) => uptoBulk d + 1
 end
def uptoSmall : (H : Type) → List (DataW H) → Bool := fun _ ds => decide (uptoBulkAll ds ≤ 1048576)
def OpenSpec.upto (s : _root_.Go.ChangeSpec) : _root_.Go.OpenSpec := { _root_.Go.OpenSpec.ofChange s with cond := some uptoSmall }

/-- 'fescuelaw07.ReadTells', WHERE WHAT IT READS IS OF BULK AT MOST 1048576: true; the input reads as it did. -/
def readTellsUptoRow : OpenClaim := { program := "ytbffebcjimhapaagreatdoor", sum := "2494186b2b9ec7e0b71c1c853b23bc10aedf3465f235a37e3e9aa268063ea341", func := "fescue/fescuelaw07.ReadTells", spec := "readTells", unfollowed := true, recurses := true, named := ["fescue/shape.table"], apart := false, laid := [("fescue/shape.table", laid_fescue_shape_table)], narrowed := true }
def ReadTellsUptoSaid : Prop := readTellsUptoRow.holds Tryz.pinned (OpenSpec.upto readTellsSpec)

/-- 'fescuelaw08.WriteTells', WHERE WHAT IT READS IS OF BULK AT MOST 1048576: true; the input reads as it did. -/
def writeTellsUptoRow : OpenClaim := { program := "ytbffebcjimhapaagreatdoor", sum := "2494186b2b9ec7e0b71c1c853b23bc10aedf3465f235a37e3e9aa268063ea341", func := "fescue/fescuelaw08.WriteTells", spec := "writeTells", inPlace := ["internal/bytealg.IndexByteString", "internal/bytealg.IndexString", "internal/abi.NoEscape"], unfollowed := true, recurses := true, named := ["fescue/shape.table", "internal/bytealg.MaxLen"], apart := false, laid := [("fescue/shape.table", laid_fescue_shape_table)], narrowed := true }
def WriteTellsUptoSaid : Prop := writeTellsUptoRow.holds Tryz.pinned (OpenSpec.upto writeTellsSpec)

/-- 'fescuelaw08.WriteNames', WHERE WHAT IT READS IS OF BULK AT MOST 1048576: true; the input reads as it did. -/
def writeNamesUptoRow : OpenClaim := { program := "ytbffebcjimhapaagreatdoor", sum := "2494186b2b9ec7e0b71c1c853b23bc10aedf3465f235a37e3e9aa268063ea341", func := "fescue/fescuelaw08.WriteNames", spec := "writeNames", inPlace := ["internal/bytealg.IndexByteString", "internal/bytealg.IndexString", "internal/abi.NoEscape"], unfollowed := true, recurses := true, named := ["fescue/shape.table", "internal/bytealg.MaxLen"], apart := false, laid := [("fescue/shape.table", laid_fescue_shape_table)], narrowed := true }
def WriteNamesUptoSaid : Prop := writeNamesUptoRow.holds Tryz.pinned (OpenSpec.upto writeNamesSpec)

/-- 'fescuelaw08.WriteCanons', WHERE WHAT IT READS IS OF BULK AT MOST 1048576: true; the input reads as it did. -/
def writeCanonsUptoRow : OpenClaim := { program := "ytbffebcjimhapaagreatdoor", sum := "2494186b2b9ec7e0b71c1c853b23bc10aedf3465f235a37e3e9aa268063ea341", func := "fescue/fescuelaw08.WriteCanons", spec := "writeCanons", inPlace := ["internal/bytealg.IndexByteString", "internal/bytealg.IndexString", "internal/abi.NoEscape"], unfollowed := true, recurses := true, named := ["fescue/shape.table", "internal/bytealg.MaxLen"], apart := false, laid := [("fescue/shape.table", laid_fescue_shape_table)], narrowed := true }
def WriteCanonsUptoSaid : Prop := writeCanonsUptoRow.holds Tryz.pinned (OpenSpec.upto writeCanonsSpec)

/-- 'fescuelaw08.WriteBack', WHERE WHAT IT READS IS OF BULK AT MOST 1048576: true; the input reads as it did. -/
def writeBackUptoRow : OpenClaim := { program := "ytbffebcjimhapaagreatdoor", sum := "2494186b2b9ec7e0b71c1c853b23bc10aedf3465f235a37e3e9aa268063ea341", func := "fescue/fescuelaw08.WriteBack", spec := "writeBack", inPlace := ["internal/bytealg.IndexByteString", "internal/bytealg.IndexString", "internal/abi.NoEscape"], unfollowed := true, recurses := true, named := ["fescue/shape.table", "internal/bytealg.MaxLen"], apart := false, laid := [("fescue/shape.table", laid_fescue_shape_table)], narrowed := true }
def WriteBackUptoSaid : Prop := writeBackUptoRow.holds Tryz.pinned (OpenSpec.upto writeBackSpec)

/-- 'fescuelaw08.WriteCanon', WHERE WHAT IT READS IS OF BULK AT MOST 1048576: true; the input reads as it did. -/
def writeCanonUptoRow : OpenClaim := { program := "ytbffebcjimhapaagreatdoor", sum := "2494186b2b9ec7e0b71c1c853b23bc10aedf3465f235a37e3e9aa268063ea341", func := "fescue/fescuelaw08.WriteCanon", spec := "writeCanon", inPlace := ["internal/bytealg.IndexByteString", "internal/bytealg.IndexString", "internal/abi.NoEscape"], unfollowed := true, recurses := true, named := ["fescue/shape.table", "internal/bytealg.MaxLen"], apart := false, laid := [("fescue/shape.table", laid_fescue_shape_table)], narrowed := true }
def WriteCanonUptoSaid : Prop := writeCanonUptoRow.holds Tryz.pinned (OpenSpec.upto writeCanonSpec)

/-- 'fescuelaw08.WriteApart', WHERE WHAT IT READS IS OF BULK AT MOST 1048576: true; the input reads as it did. -/
def writeApartUptoRow : OpenClaim := { program := "ytbffebcjimhapaagreatdoor", sum := "2494186b2b9ec7e0b71c1c853b23bc10aedf3465f235a37e3e9aa268063ea341", func := "fescue/fescuelaw08.WriteApart", spec := "writeApart", inPlace := ["internal/bytealg.IndexByteString", "internal/bytealg.IndexString", "internal/abi.NoEscape"], unfollowed := true, recurses := true, named := ["fescue/shape.table", "internal/bytealg.MaxLen"], apart := false, laid := [("fescue/shape.table", laid_fescue_shape_table)], narrowed := true }
def WriteApartUptoSaid : Prop := writeApartUptoRow.holds Tryz.pinned (OpenSpec.upto writeApartSpec)

end Rows
end Go.Proofs.YtbffebcjimhapaaGreatDoor
