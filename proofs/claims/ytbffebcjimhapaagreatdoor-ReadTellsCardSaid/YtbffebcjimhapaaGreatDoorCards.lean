/-
  DERIVED. GIVEN WITH THE SEED: THE CARDS: each row of YtbffebcjimhapaaGreatDoorRows.lean that lists a variable, with what it lists TIED to the program's text (the seventh form; the later family's looks); each row that meets fmt, with fmt's text TOLD by the authors' own Lean function (tested against real Go, not proved from fmt's source: count such statements apart). THE CARD IS WHAT COUNTS. Prove the row's statement (the work); the ties are given (YtbffebcjimhapaaGreatDoorTie.lean); close each card by the builder's one call (the guide's Derived/Test/ToyasCard.lean, 'card_holds'). Laid BY PROGRAM, IN A SANDBOX (cutbox-door.mjs). By AI agents, Wed Nov 11 2026. No macro, syntax, notation, axiom, sorry.
-/
import Derived.Test.YtbffebcjimhapaaGreatDoorRows
import GoSem.ClaimSeven
namespace Go.Proofs.YtbffebcjimhapaaGreatDoor
namespace Rows

/-- THE TIED CARD OF 'fescuelaw07.ReadTells'. -/
def readTellsCard : Claim7 := { stood := { row := readTellsRow, standIns := [], harness := (true, "91621dee1e0feccbed430886639164d26674e2a988049c994726602725d5c178"), looks := true }, kinds := [], alts := [], laidByText := true, laidKinds := [.data], laidTests := true, laidLooks := .later }
def ReadTellsCardSaid : Prop := Claim7.holds Tryz.pinned (.plain (OpenSpec.ofChange readTellsSpec)) readTellsCard

/-- THE TIED CARD OF 'fescuelaw08.WriteTells'. -/
def writeTellsCard : Claim7 := { stood := { row := writeTellsRow, standIns := [], harness := (true, "91621dee1e0feccbed430886639164d26674e2a988049c994726602725d5c178"), looks := true }, kinds := [], alts := [], laidByText := true, laidKinds := [.data], laidTests := true, laidLooks := .later }
def WriteTellsCardSaid : Prop := Claim7.holds Tryz.pinned (.plain (OpenSpec.ofChange writeTellsSpec)) writeTellsCard

/-- THE TIED CARD OF 'fescuelaw08.WriteNames'. -/
def writeNamesCard : Claim7 := { stood := { row := writeNamesRow, standIns := [], harness := (true, "91621dee1e0feccbed430886639164d26674e2a988049c994726602725d5c178"), looks := true }, kinds := [], alts := [], laidByText := true, laidKinds := [.data], laidTests := true, laidLooks := .later }
def WriteNamesCardSaid : Prop := Claim7.holds Tryz.pinned (.plain (OpenSpec.ofChange writeNamesSpec)) writeNamesCard

/-- THE TIED CARD OF 'fescuelaw08.WriteCanons'. -/
def writeCanonsCard : Claim7 := { stood := { row := writeCanonsRow, standIns := [], harness := (true, "91621dee1e0feccbed430886639164d26674e2a988049c994726602725d5c178"), looks := true }, kinds := [], alts := [], laidByText := true, laidKinds := [.data], laidTests := true, laidLooks := .later }
def WriteCanonsCardSaid : Prop := Claim7.holds Tryz.pinned (.plain (OpenSpec.ofChange writeCanonsSpec)) writeCanonsCard

/-- THE TIED CARD OF 'fescuelaw08.WriteBack'. -/
def writeBackCard : Claim7 := { stood := { row := writeBackRow, standIns := [], harness := (true, "91621dee1e0feccbed430886639164d26674e2a988049c994726602725d5c178"), looks := true }, kinds := [], alts := [], laidByText := true, laidKinds := [.data], laidTests := true, laidLooks := .later }
def WriteBackCardSaid : Prop := Claim7.holds Tryz.pinned (.plain (OpenSpec.ofChange writeBackSpec)) writeBackCard

/-- THE TIED CARD OF 'fescuelaw08.WriteCanon'. -/
def writeCanonCard : Claim7 := { stood := { row := writeCanonRow, standIns := [], harness := (true, "91621dee1e0feccbed430886639164d26674e2a988049c994726602725d5c178"), looks := true }, kinds := [], alts := [], laidByText := true, laidKinds := [.data], laidTests := true, laidLooks := .later }
def WriteCanonCardSaid : Prop := Claim7.holds Tryz.pinned (.plain (OpenSpec.ofChange writeCanonSpec)) writeCanonCard

/-- THE TIED CARD OF 'fescuelaw08.WriteApart'. -/
def writeApartCard : Claim7 := { stood := { row := writeApartRow, standIns := [], harness := (true, "91621dee1e0feccbed430886639164d26674e2a988049c994726602725d5c178"), looks := true }, kinds := [], alts := [], laidByText := true, laidKinds := [.data], laidTests := true, laidLooks := .later }
def WriteApartCardSaid : Prop := Claim7.holds Tryz.pinned (.plain (OpenSpec.ofChange writeApartSpec)) writeApartCard

/-- THE SECOND FORM's CARD OF 'fescuelaw07.ReadTells'. -/
def readTellsUptoCard : Claim7 := { stood := { row := readTellsUptoRow, standIns := [], harness := (true, "91621dee1e0feccbed430886639164d26674e2a988049c994726602725d5c178"), looks := true }, kinds := [], alts := [], laidByText := true, laidKinds := [.data], laidTests := true, laidLooks := .later }
def ReadTellsUptoCardSaid : Prop := Claim7.holds Tryz.pinned (.plain (OpenSpec.upto readTellsSpec)) readTellsUptoCard

/-- THE SECOND FORM's CARD OF 'fescuelaw08.WriteTells'. -/
def writeTellsUptoCard : Claim7 := { stood := { row := writeTellsUptoRow, standIns := [], harness := (true, "91621dee1e0feccbed430886639164d26674e2a988049c994726602725d5c178"), looks := true }, kinds := [], alts := [], laidByText := true, laidKinds := [.data], laidTests := true, laidLooks := .later }
def WriteTellsUptoCardSaid : Prop := Claim7.holds Tryz.pinned (.plain (OpenSpec.upto writeTellsSpec)) writeTellsUptoCard

/-- THE SECOND FORM's CARD OF 'fescuelaw08.WriteNames'. -/
def writeNamesUptoCard : Claim7 := { stood := { row := writeNamesUptoRow, standIns := [], harness := (true, "91621dee1e0feccbed430886639164d26674e2a988049c994726602725d5c178"), looks := true }, kinds := [], alts := [], laidByText := true, laidKinds := [.data], laidTests := true, laidLooks := .later }
def WriteNamesUptoCardSaid : Prop := Claim7.holds Tryz.pinned (.plain (OpenSpec.upto writeNamesSpec)) writeNamesUptoCard

/-- THE SECOND FORM's CARD OF 'fescuelaw08.WriteCanons'. -/
def writeCanonsUptoCard : Claim7 := { stood := { row := writeCanonsUptoRow, standIns := [], harness := (true, "91621dee1e0feccbed430886639164d26674e2a988049c994726602725d5c178"), looks := true }, kinds := [], alts := [], laidByText := true, laidKinds := [.data], laidTests := true, laidLooks := .later }
def WriteCanonsUptoCardSaid : Prop := Claim7.holds Tryz.pinned (.plain (OpenSpec.upto writeCanonsSpec)) writeCanonsUptoCard

/-- THE SECOND FORM's CARD OF 'fescuelaw08.WriteBack'. -/
def writeBackUptoCard : Claim7 := { stood := { row := writeBackUptoRow, standIns := [], harness := (true, "91621dee1e0feccbed430886639164d26674e2a988049c994726602725d5c178"), looks := true }, kinds := [], alts := [], laidByText := true, laidKinds := [.data], laidTests := true, laidLooks := .later }
def WriteBackUptoCardSaid : Prop := Claim7.holds Tryz.pinned (.plain (OpenSpec.upto writeBackSpec)) writeBackUptoCard

/-- THE SECOND FORM's CARD OF 'fescuelaw08.WriteCanon'. -/
def writeCanonUptoCard : Claim7 := { stood := { row := writeCanonUptoRow, standIns := [], harness := (true, "91621dee1e0feccbed430886639164d26674e2a988049c994726602725d5c178"), looks := true }, kinds := [], alts := [], laidByText := true, laidKinds := [.data], laidTests := true, laidLooks := .later }
def WriteCanonUptoCardSaid : Prop := Claim7.holds Tryz.pinned (.plain (OpenSpec.upto writeCanonSpec)) writeCanonUptoCard

/-- THE SECOND FORM's CARD OF 'fescuelaw08.WriteApart'. -/
def writeApartUptoCard : Claim7 := { stood := { row := writeApartUptoRow, standIns := [], harness := (true, "91621dee1e0feccbed430886639164d26674e2a988049c994726602725d5c178"), looks := true }, kinds := [], alts := [], laidByText := true, laidKinds := [.data], laidTests := true, laidLooks := .later }
def WriteApartUptoCardSaid : Prop := Claim7.holds Tryz.pinned (.plain (OpenSpec.upto writeApartSpec)) writeApartUptoCard
end Rows
end Go.Proofs.YtbffebcjimhapaaGreatDoor
