/-
  DERIVED. GIVEN WITH THE SEED: THE CARDS: each row of YtcbhmpkginebaaaDoorRows.lean that lists a variable, with what it lists TIED to the program's text (the seventh form; the later family's looks); each row that meets fmt, with fmt's text TOLD by the authors' own Lean function (tested against real Go, not proved from fmt's source: count such statements apart). THE CARD IS WHAT COUNTS. Prove the row's statement (the work); the ties are given (YtcbhmpkginebaaaDoorTie.lean); close each card by the builder's one call (the guide's Derived/Test/ToyasCard.lean, 'card_holds'). Laid BY PROGRAM, IN A SANDBOX (cutbox-door.mjs). By AI agents, Wed Nov 11 2026. No macro, syntax, notation, axiom, sorry.
-/
import Derived.Test.YtcbhmpkginebaaaDoorRows
import GoSem.ClaimSeven
namespace Go.Proofs.YtcbhmpkginebaaaDoor
namespace Rows

/-- THE TIED CARD OF 'fescuelaw06.ShapeUses'. -/
def shapeUsesCard : Claim7 := { stood := { row := shapeUsesRow, standIns := [], harness := (true, "c494bfaf0723b87941d779cf87c5e5dae82c9263f83ae83d804587834c39e066"), looks := false }, kinds := [], alts := [], laidByText := true, laidKinds := [.data], laidTests := true, laidLooks := .later }
def ShapeUsesCardSaid : Prop := Claim7.holds Tryd.pinned (.plain (OpenSpec.ofChange shapeUsesSpec)) shapeUsesCard

/-- THE TIED CARD OF 'fescuelaw06.ShapeAsks'. -/
def shapeAsksCard : Claim7 := { stood := { row := shapeAsksRow, standIns := [], harness := (true, "c494bfaf0723b87941d779cf87c5e5dae82c9263f83ae83d804587834c39e066"), looks := false }, kinds := [], alts := [], laidByText := true, laidKinds := [.data], laidTests := true, laidLooks := .later }
def ShapeAsksCardSaid : Prop := Claim7.holds Tryd.pinned (.plain (OpenSpec.ofChange shapeAsksSpec)) shapeAsksCard

/-- THE TIED CARD OF 'fescuelaw06.ShapeNames'. -/
def shapeNamesCard : Claim7 := { stood := { row := shapeNamesRow, standIns := [], harness := (true, "c494bfaf0723b87941d779cf87c5e5dae82c9263f83ae83d804587834c39e066"), looks := false }, kinds := [], alts := [], laidByText := true, laidKinds := [.data], laidTests := true, laidLooks := .later }
def ShapeNamesCardSaid : Prop := Claim7.holds Tryd.pinned (.plain (OpenSpec.ofChange shapeNamesSpec)) shapeNamesCard

/-- THE TIED CARD OF 'fescuelaw06.ShapeBack'. -/
def shapeBackCard : Claim7 := { stood := { row := shapeBackRow, standIns := [], harness := (true, "c494bfaf0723b87941d779cf87c5e5dae82c9263f83ae83d804587834c39e066"), looks := false }, kinds := [], alts := [], laidByText := true, laidKinds := [.data], laidTests := true, laidLooks := .later }
def ShapeBackCardSaid : Prop := Claim7.holds Tryd.pinned (.plain (OpenSpec.ofChange shapeBackSpec)) shapeBackCard

/-- THE TIED CARD OF 'fescuelaw06.ShapeTells'. -/
def shapeTellsCard : Claim7 := { stood := { row := shapeTellsRow, standIns := [], harness := (true, "c494bfaf0723b87941d779cf87c5e5dae82c9263f83ae83d804587834c39e066"), looks := false }, kinds := [], alts := [], laidByText := true, laidKinds := [.data], laidTests := true, laidLooks := .later }
def ShapeTellsCardSaid : Prop := Claim7.holds Tryd.pinned (.plain (OpenSpec.ofChange shapeTellsSpec)) shapeTellsCard

/-- THE SECOND FORM's CARD OF 'fescuelaw06.ShapeUses'. -/
def shapeUsesUptoCard : Claim7 := { stood := { row := shapeUsesUptoRow, standIns := [], harness := (true, "c494bfaf0723b87941d779cf87c5e5dae82c9263f83ae83d804587834c39e066"), looks := false }, kinds := [], alts := [], laidByText := true, laidKinds := [.data], laidTests := true, laidLooks := .later }
def ShapeUsesUptoCardSaid : Prop := Claim7.holds Tryd.pinned (.plain (OpenSpec.upto shapeUsesSpec)) shapeUsesUptoCard

/-- THE SECOND FORM's CARD OF 'fescuelaw06.ShapeAsks'. -/
def shapeAsksUptoCard : Claim7 := { stood := { row := shapeAsksUptoRow, standIns := [], harness := (true, "c494bfaf0723b87941d779cf87c5e5dae82c9263f83ae83d804587834c39e066"), looks := false }, kinds := [], alts := [], laidByText := true, laidKinds := [.data], laidTests := true, laidLooks := .later }
def ShapeAsksUptoCardSaid : Prop := Claim7.holds Tryd.pinned (.plain (OpenSpec.upto shapeAsksSpec)) shapeAsksUptoCard

/-- THE SECOND FORM's CARD OF 'fescuelaw06.ShapeNames'. -/
def shapeNamesUptoCard : Claim7 := { stood := { row := shapeNamesUptoRow, standIns := [], harness := (true, "c494bfaf0723b87941d779cf87c5e5dae82c9263f83ae83d804587834c39e066"), looks := false }, kinds := [], alts := [], laidByText := true, laidKinds := [.data], laidTests := true, laidLooks := .later }
def ShapeNamesUptoCardSaid : Prop := Claim7.holds Tryd.pinned (.plain (OpenSpec.upto shapeNamesSpec)) shapeNamesUptoCard

/-- THE SECOND FORM's CARD OF 'fescuelaw06.ShapeBack'. -/
def shapeBackUptoCard : Claim7 := { stood := { row := shapeBackUptoRow, standIns := [], harness := (true, "c494bfaf0723b87941d779cf87c5e5dae82c9263f83ae83d804587834c39e066"), looks := false }, kinds := [], alts := [], laidByText := true, laidKinds := [.data], laidTests := true, laidLooks := .later }
def ShapeBackUptoCardSaid : Prop := Claim7.holds Tryd.pinned (.plain (OpenSpec.upto shapeBackSpec)) shapeBackUptoCard

/-- THE SECOND FORM's CARD OF 'fescuelaw06.ShapeTells'. -/
def shapeTellsUptoCard : Claim7 := { stood := { row := shapeTellsUptoRow, standIns := [], harness := (true, "c494bfaf0723b87941d779cf87c5e5dae82c9263f83ae83d804587834c39e066"), looks := false }, kinds := [], alts := [], laidByText := true, laidKinds := [.data], laidTests := true, laidLooks := .later }
def ShapeTellsUptoCardSaid : Prop := Claim7.holds Tryd.pinned (.plain (OpenSpec.upto shapeTellsSpec)) shapeTellsUptoCard
end Rows
end Go.Proofs.YtcbhmpkginebaaaDoor
