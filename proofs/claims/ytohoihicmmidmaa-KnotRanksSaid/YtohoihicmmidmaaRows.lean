/-
  No cell of these rows narrows 'for every input' (looked for: loops, veiled, ifaces, maps, wideKeys, modest, calm, conditions, laid).
  DERIVED. THE GIVEN ROWS OF THIS SEAT. 5 by the template 'for every input the law returns true; each argument reads behind the call as it read before'; 0 by the template 'total and deterministic' (their statements: YtohoihicmmidmaaTotals.lean).
  GIVEN WITH THE SEED: the statements are not yours to turn. If you find one false, say at which input.
  Laid BY PROGRAM, IN A SANDBOX (cutbox-rows.mjs): the forced cells as the released guide's own fill.sh prints them over the translation c031ec12f7afd74b… (all of the seat's roots in one cut). By AI agents, Wed Nov 11 2026. No macro, syntax, notation, axiom, sorry.
-/
import Derived.Test.YtohoihicmmidmaaChecked
import GoSem.Claim
import GoSem.ClaimJoined
import GoSem.ClaimMapViews
import Derived.JoinedTies
import Derived.KernelRfl
namespace Go.Proofs.Ytohoihicmmidmaa
/- THE CELL 'sum', in the pinned program and in every row, IS THE sha256 OF THE DUMP (.gsa) THAT YtohoihicmmidmaaProg.lean LOADS. Nothing in Lean hashes anything: it is a label: what it is worth is what the hold of that sum in a sandbox is worth. -/
noncomputable def Try.pinned : Pinned := { name := "ytohoihicmmidmaa", sum := "c031ec12f7afd74b9f8a6c876b82b1f2cb3651e40273d84751d2b8913b6a351c", checked := Try.checked }
namespace Rows
def none {H : Type} : Left H := { results := [], args := [] }

/-- 'fescuelaw22.KnotBoth': WHATEVER THE INPUT: true; the input reads as it did. -/
def knotBothSpec : ChangeSpec := { name := "knotBoth", fn := fun _ => fun
  | [d1, d2, d3, d4] => { results := [.lit (.bool true)], args := [d1, d2, d3, d4] }
  | _ => none }
def knotBothRow : OpenClaim := { program := "ytohoihicmmidmaa", sum := "c031ec12f7afd74b9f8a6c876b82b1f2cb3651e40273d84751d2b8913b6a351c", func := "fescue/fescuelaw22.KnotBoth", spec := "knotBoth", unfollowed := true, recurses := true, apart := false }
def KnotBothSaid : Prop := knotBothRow.holds Try.pinned (OpenSpec.ofChange knotBothSpec)

/-- ITS FALSE NEIGHBOUR: 'it returns false'. Refute it at one input. -/
def knotBothWrong : ChangeSpec := { name := "knotBoth", fn := fun _ => fun
  | [d1, d2, d3, d4] => { results := [.lit (.bool false)], args := [d1, d2, d3, d4] }
  | _ => none }
def KnotBothWrongFalsely : Prop := knotBothRow.holds Try.pinned (OpenSpec.ofChange knotBothWrong)

/-- 'fescuelaw22.KnotRanks': WHATEVER THE INPUT: true; the input reads as it did. -/
def knotRanksSpec : ChangeSpec := { name := "knotRanks", fn := fun _ => fun
  | [d1, d2, d3, d4] => { results := [.lit (.bool true)], args := [d1, d2, d3, d4] }
  | _ => none }
def knotRanksRow : OpenClaim := { program := "ytohoihicmmidmaa", sum := "c031ec12f7afd74b9f8a6c876b82b1f2cb3651e40273d84751d2b8913b6a351c", func := "fescue/fescuelaw22.KnotRanks", spec := "knotRanks", unfollowed := true, recurses := true, apart := false }
def KnotRanksSaid : Prop := knotRanksRow.holds Try.pinned (OpenSpec.ofChange knotRanksSpec)

/-- ITS FALSE NEIGHBOUR: 'it returns false'. Refute it at one input. -/
def knotRanksWrong : ChangeSpec := { name := "knotRanks", fn := fun _ => fun
  | [d1, d2, d3, d4] => { results := [.lit (.bool false)], args := [d1, d2, d3, d4] }
  | _ => none }
def KnotRanksWrongFalsely : Prop := knotRanksRow.holds Try.pinned (OpenSpec.ofChange knotRanksWrong)

/-- 'fescuelaw22.KnotNames': WHATEVER THE INPUT: true; the input reads as it did. -/
def knotNamesSpec : ChangeSpec := { name := "knotNames", fn := fun _ => fun
  | [] => { results := [.lit (.bool true)], args := [] }
  | _ => none }
def knotNamesRow : OpenClaim := { program := "ytohoihicmmidmaa", sum := "c031ec12f7afd74b9f8a6c876b82b1f2cb3651e40273d84751d2b8913b6a351c", func := "fescue/fescuelaw22.KnotNames", spec := "knotNames", unfollowed := true, recurses := true, apart := false }
def KnotNamesSaid : Prop := knotNamesRow.holds Try.pinned (OpenSpec.ofChange knotNamesSpec)

/-- ITS FALSE NEIGHBOUR: 'it returns false'. Refute it at one input. -/
def knotNamesWrong : ChangeSpec := { name := "knotNames", fn := fun _ => fun
  | [] => { results := [.lit (.bool false)], args := [] }
  | _ => none }
def KnotNamesWrongFalsely : Prop := knotNamesRow.holds Try.pinned (OpenSpec.ofChange knotNamesWrong)

/-- 'fescuelaw22.KnotTells': WHATEVER THE INPUT: true; the input reads as it did. -/
def knotTellsSpec : ChangeSpec := { name := "knotTells", fn := fun _ => fun
  | [d1, d2, d3] => { results := [.lit (.bool true)], args := [d1, d2, d3] }
  | _ => none }
def knotTellsRow : OpenClaim := { program := "ytohoihicmmidmaa", sum := "c031ec12f7afd74b9f8a6c876b82b1f2cb3651e40273d84751d2b8913b6a351c", func := "fescue/fescuelaw22.KnotTells", spec := "knotTells", unfollowed := true, recurses := true, apart := false }
def KnotTellsSaid : Prop := knotTellsRow.holds Try.pinned (OpenSpec.ofChange knotTellsSpec)

/-- ITS FALSE NEIGHBOUR: 'it returns false'. Refute it at one input. -/
def knotTellsWrong : ChangeSpec := { name := "knotTells", fn := fun _ => fun
  | [d1, d2, d3] => { results := [.lit (.bool false)], args := [d1, d2, d3] }
  | _ => none }
def KnotTellsWrongFalsely : Prop := knotTellsRow.holds Try.pinned (OpenSpec.ofChange knotTellsWrong)

/-- 'fescuelaw22.KnotTied': WHATEVER THE INPUT: true; the input reads as it did. -/
def knotTiedSpec : ChangeSpec := { name := "knotTied", fn := fun _ => fun
  | [d1, d2, d3] => { results := [.lit (.bool true)], args := [d1, d2, d3] }
  | _ => none }
def knotTiedRow : OpenClaim := { program := "ytohoihicmmidmaa", sum := "c031ec12f7afd74b9f8a6c876b82b1f2cb3651e40273d84751d2b8913b6a351c", func := "fescue/fescuelaw22.KnotTied", spec := "knotTied", unfollowed := true, recurses := true, apart := false }
def KnotTiedSaid : Prop := knotTiedRow.holds Try.pinned (OpenSpec.ofChange knotTiedSpec)

/-- ITS FALSE NEIGHBOUR: 'it returns false'. Refute it at one input. -/
def knotTiedWrong : ChangeSpec := { name := "knotTied", fn := fun _ => fun
  | [d1, d2, d3] => { results := [.lit (.bool false)], args := [d1, d2, d3] }
  | _ => none }
def KnotTiedWrongFalsely : Prop := knotTiedRow.holds Try.pinned (OpenSpec.ofChange knotTiedWrong)

/- THE SECOND FORM. 'bulk': how many values and letters a reading holds, each counted each time it is reached (what is shared counts as often as it is met; a slice's spare places count too). A statement '..UptoSaid' is the law's where the arguments, and the package variables that the reading takes, are together of bulk at most 1048576: NARROWER than '..Said'. Prove '..Said' where nothing that the law and all that it calls make is longer than what came in: it says more and counts as full. Else prove '..UptoSaid'. A law counts once. -/
mutual
def uptoBulk {H : Type} : DataW H → Nat
  | .lit (.string bytes) => bytes.length + 1
  | .lit _ => 1
  | .nil => 1
  | .ptr d => uptoBulk d + 1
  | .slice elems spare => uptoBulkAll elems + uptoBulkAll spare + 1
  | .agg parts => uptoBulkAll parts + 1
  | .iface _ d => uptoBulk d + 1
  | .map entries => uptoBulkEntries entries + 1
  | .held _ => 1
def uptoBulkAll {H : Type} : List (DataW H) → Nat
  | [] => 0
  | d :: r => uptoBulk d + uptoBulkAll r
def uptoBulkEntries {H : Type} : List (Lit × DataW H) → Nat
  | [] => 0
  | x :: r => uptoBulkEntry x + uptoBulkEntries r
def uptoBulkEntry {H : Type} : Lit × DataW H → Nat
  | (.string bytes, d) => bytes.length + uptoBulk d + 1
  | (_, d) => uptoBulk d + 1
 end
def uptoSmall : (H : Type) → List (DataW H) → Bool := fun _ ds => decide (uptoBulkAll ds ≤ 1048576)
def OpenSpec.upto (s : _root_.Go.ChangeSpec) : _root_.Go.OpenSpec := { _root_.Go.OpenSpec.ofChange s with cond := some uptoSmall }

/-- 'fescuelaw22.KnotBoth', WHERE WHAT IT READS IS OF BULK AT MOST 1048576: true; the input reads as it did. -/
def knotBothUptoRow : OpenClaim := { program := "ytohoihicmmidmaa", sum := "c031ec12f7afd74b9f8a6c876b82b1f2cb3651e40273d84751d2b8913b6a351c", func := "fescue/fescuelaw22.KnotBoth", spec := "knotBoth", unfollowed := true, recurses := true, apart := false, narrowed := true }
def KnotBothUptoSaid : Prop := knotBothUptoRow.holds Try.pinned (OpenSpec.upto knotBothSpec)

/-- 'fescuelaw22.KnotRanks', WHERE WHAT IT READS IS OF BULK AT MOST 1048576: true; the input reads as it did. -/
def knotRanksUptoRow : OpenClaim := { program := "ytohoihicmmidmaa", sum := "c031ec12f7afd74b9f8a6c876b82b1f2cb3651e40273d84751d2b8913b6a351c", func := "fescue/fescuelaw22.KnotRanks", spec := "knotRanks", unfollowed := true, recurses := true, apart := false, narrowed := true }
def KnotRanksUptoSaid : Prop := knotRanksUptoRow.holds Try.pinned (OpenSpec.upto knotRanksSpec)

/-- 'fescuelaw22.KnotNames', WHERE WHAT IT READS IS OF BULK AT MOST 1048576: true; the input reads as it did. -/
def knotNamesUptoRow : OpenClaim := { program := "ytohoihicmmidmaa", sum := "c031ec12f7afd74b9f8a6c876b82b1f2cb3651e40273d84751d2b8913b6a351c", func := "fescue/fescuelaw22.KnotNames", spec := "knotNames", unfollowed := true, recurses := true, apart := false, narrowed := true }
def KnotNamesUptoSaid : Prop := knotNamesUptoRow.holds Try.pinned (OpenSpec.upto knotNamesSpec)

/-- 'fescuelaw22.KnotTells', WHERE WHAT IT READS IS OF BULK AT MOST 1048576: true; the input reads as it did. -/
def knotTellsUptoRow : OpenClaim := { program := "ytohoihicmmidmaa", sum := "c031ec12f7afd74b9f8a6c876b82b1f2cb3651e40273d84751d2b8913b6a351c", func := "fescue/fescuelaw22.KnotTells", spec := "knotTells", unfollowed := true, recurses := true, apart := false, narrowed := true }
def KnotTellsUptoSaid : Prop := knotTellsUptoRow.holds Try.pinned (OpenSpec.upto knotTellsSpec)

/-- 'fescuelaw22.KnotTied', WHERE WHAT IT READS IS OF BULK AT MOST 1048576: true; the input reads as it did. -/
def knotTiedUptoRow : OpenClaim := { program := "ytohoihicmmidmaa", sum := "c031ec12f7afd74b9f8a6c876b82b1f2cb3651e40273d84751d2b8913b6a351c", func := "fescue/fescuelaw22.KnotTied", spec := "knotTied", unfollowed := true, recurses := true, apart := false, narrowed := true }
def KnotTiedUptoSaid : Prop := knotTiedUptoRow.holds Try.pinned (OpenSpec.upto knotTiedSpec)

end Rows
end Go.Proofs.Ytohoihicmmidmaa
