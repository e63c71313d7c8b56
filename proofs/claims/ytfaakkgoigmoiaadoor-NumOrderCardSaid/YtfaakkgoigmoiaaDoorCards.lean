/-
  DERIVED. GIVEN WITH THE SEED: THE CARDS: each row of YtfaakkgoigmoiaaDoorRows.lean that lists a variable, with what it lists TIED to the program's text (the seventh form; the later family's looks); each row that meets fmt, with fmt's text TOLD by the authors' own Lean function (tested against real Go, not proved from fmt's source: count such statements apart). THE CARD IS WHAT COUNTS. Prove the row's statement (the work); the ties are given (YtfaakkgoigmoiaaDoorTie.lean); close each card by the builder's one call (the guide's Derived/Test/ToyasCard.lean, 'card_holds'). Laid BY PROGRAM, IN A SANDBOX (cutbox-door.mjs). By AI agents, Wed Nov 11 2026. No macro, syntax, notation, axiom, sorry.
-/
import Derived.Test.YtfaakkgoigmoiaaDoorRows
import GoSem.ClaimSeven
namespace Go.Proofs.YtfaakkgoigmoiaaDoor
namespace Rows

/-- THE TIED CARD OF 'fescuelaw01.NumTells'. -/
def numTellsCard : Claim7 := { stood := { row := numTellsRow, standIns := [], harness := (true, "951d834527c58e26ea58f6af1a342b5ec862ad136c7d88e7233e75c36744b03b"), looks := false }, kinds := [], alts := [], laidByText := true, laidKinds := [.data, .data, .data], laidTests := true, laidLooks := .later }
def NumTellsCardSaid : Prop := Claim7.holds Tryd.pinned (.plain (OpenSpec.ofChange numTellsSpec)) numTellsCard

/-- THE TIED CARD OF 'fescuelaw01.NumBack'. -/
def numBackCard : Claim7 := { stood := { row := numBackRow, standIns := [], harness := (true, "951d834527c58e26ea58f6af1a342b5ec862ad136c7d88e7233e75c36744b03b"), looks := false }, kinds := [], alts := [], laidByText := true, laidKinds := [.data, .data, .data], laidTests := true, laidLooks := .later }
def NumBackCardSaid : Prop := Claim7.holds Tryd.pinned (.plain (OpenSpec.ofChange numBackSpec)) numBackCard

/-- THE TIED CARD OF 'fescuelaw01.NumOrder'. -/
def numOrderCard : Claim7 := { stood := { row := numOrderRow, standIns := [], harness := (true, "951d834527c58e26ea58f6af1a342b5ec862ad136c7d88e7233e75c36744b03b"), looks := false }, kinds := [], alts := [], laidByText := true, laidKinds := [.data, .data, .data], laidTests := true, laidLooks := .later }
def NumOrderCardSaid : Prop := Claim7.holds Tryd.pinned (.plain (OpenSpec.ofChange numOrderSpec)) numOrderCard

/-- THE TIED CARD OF 'fescuelaw01.NumDigit'. -/
def numDigitCard : Claim7 := { stood := { row := numDigitRow, standIns := [], harness := (true, "951d834527c58e26ea58f6af1a342b5ec862ad136c7d88e7233e75c36744b03b"), looks := false }, kinds := [], alts := [], laidByText := true, laidKinds := [.data, .data, .data], laidTests := true, laidLooks := .later }
def NumDigitCardSaid : Prop := Claim7.holds Tryd.pinned (.plain (OpenSpec.ofChange numDigitSpec)) numDigitCard

/-- THE TIED CARD OF 'fescuelaw01.NumNames'. -/
def numNamesCard : Claim7 := { stood := { row := numNamesRow, standIns := [], harness := (true, "951d834527c58e26ea58f6af1a342b5ec862ad136c7d88e7233e75c36744b03b"), looks := false }, kinds := [], alts := [], laidByText := true, laidKinds := [.data, .data, .data], laidTests := true, laidLooks := .later }
def NumNamesCardSaid : Prop := Claim7.holds Tryd.pinned (.plain (OpenSpec.ofChange numNamesSpec)) numNamesCard

/-- THE SECOND FORM's CARD OF 'fescuelaw01.NumTells'. -/
def numTellsUptoCard : Claim7 := { stood := { row := numTellsUptoRow, standIns := [], harness := (true, "951d834527c58e26ea58f6af1a342b5ec862ad136c7d88e7233e75c36744b03b"), looks := false }, kinds := [], alts := [], laidByText := true, laidKinds := [.data, .data, .data], laidTests := true, laidLooks := .later }
def NumTellsUptoCardSaid : Prop := Claim7.holds Tryd.pinned (.plain (OpenSpec.upto numTellsSpec)) numTellsUptoCard

/-- THE SECOND FORM's CARD OF 'fescuelaw01.NumBack'. -/
def numBackUptoCard : Claim7 := { stood := { row := numBackUptoRow, standIns := [], harness := (true, "951d834527c58e26ea58f6af1a342b5ec862ad136c7d88e7233e75c36744b03b"), looks := false }, kinds := [], alts := [], laidByText := true, laidKinds := [.data, .data, .data], laidTests := true, laidLooks := .later }
def NumBackUptoCardSaid : Prop := Claim7.holds Tryd.pinned (.plain (OpenSpec.upto numBackSpec)) numBackUptoCard

/-- THE SECOND FORM's CARD OF 'fescuelaw01.NumOrder'. -/
def numOrderUptoCard : Claim7 := { stood := { row := numOrderUptoRow, standIns := [], harness := (true, "951d834527c58e26ea58f6af1a342b5ec862ad136c7d88e7233e75c36744b03b"), looks := false }, kinds := [], alts := [], laidByText := true, laidKinds := [.data, .data, .data], laidTests := true, laidLooks := .later }
def NumOrderUptoCardSaid : Prop := Claim7.holds Tryd.pinned (.plain (OpenSpec.upto numOrderSpec)) numOrderUptoCard

/-- THE SECOND FORM's CARD OF 'fescuelaw01.NumDigit'. -/
def numDigitUptoCard : Claim7 := { stood := { row := numDigitUptoRow, standIns := [], harness := (true, "951d834527c58e26ea58f6af1a342b5ec862ad136c7d88e7233e75c36744b03b"), looks := false }, kinds := [], alts := [], laidByText := true, laidKinds := [.data, .data, .data], laidTests := true, laidLooks := .later }
def NumDigitUptoCardSaid : Prop := Claim7.holds Tryd.pinned (.plain (OpenSpec.upto numDigitSpec)) numDigitUptoCard

/-- THE SECOND FORM's CARD OF 'fescuelaw01.NumNames'. -/
def numNamesUptoCard : Claim7 := { stood := { row := numNamesUptoRow, standIns := [], harness := (true, "951d834527c58e26ea58f6af1a342b5ec862ad136c7d88e7233e75c36744b03b"), looks := false }, kinds := [], alts := [], laidByText := true, laidKinds := [.data, .data, .data], laidTests := true, laidLooks := .later }
def NumNamesUptoCardSaid : Prop := Claim7.holds Tryd.pinned (.plain (OpenSpec.upto numNamesSpec)) numNamesUptoCard
end Rows
end Go.Proofs.YtfaakkgoigmoiaaDoor
