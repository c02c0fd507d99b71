/-
  DERIVED. GIVEN WITH THE SEED: THE CARDS: each row of YtneolmnpebiifaaGreatDoorRows.lean that lists a variable, with what it lists TIED to the program's text (the seventh form; the later family's looks); each row that meets fmt, with fmt's text TOLD by the authors' own Lean function (tested against real Go, not proved from fmt's source: count such statements apart). THE CARD IS WHAT COUNTS. Prove the row's statement (the work); the ties are given (YtneolmnpebiifaaGreatDoorTie.lean); close each card by the builder's one call (the guide's Derived/Test/ToyasCard.lean, 'card_holds'). Laid BY PROGRAM, IN A SANDBOX (cutbox-door.mjs). By AI agents, Wed Nov 11 2026. No macro, syntax, notation, axiom, sorry.
-/
import Derived.Test.YtneolmnpebiifaaGreatDoorRows
import GoSem.ClaimSeven
namespace Go.Proofs.YtneolmnpebiifaaGreatDoor
namespace Rows

/-- THE TIED CARD OF 'offprintlaw20.BookSteps'. -/
def bookStepsCard : Claim7 := { stood := { row := bookStepsRow, standIns := [], harness := (true, "40059957f76b1afc45b18f6f57ca2fb83a5686652e8cedaa6ae953e49bba72a9"), looks := false }, kinds := [], alts := [], laidByText := true, laidKinds := [.data], laidTests := true, laidLooks := .later }
def BookStepsCardSaid : Prop := Claim7.holds Tryz.pinned (.plain (OpenSpec.ofChange bookStepsSpec)) bookStepsCard

/-- THE TIED CARD OF 'offprintlaw20.BookPlays'. -/
def bookPlaysCard : Claim7 := { stood := { row := bookPlaysRow, standIns := [], harness := (true, "40059957f76b1afc45b18f6f57ca2fb83a5686652e8cedaa6ae953e49bba72a9"), looks := false }, kinds := [], alts := [], laidByText := true, laidKinds := [.data], laidTests := true, laidLooks := .later }
def BookPlaysCardSaid : Prop := Claim7.holds Tryz.pinned (.plain (OpenSpec.ofChange bookPlaysSpec)) bookPlaysCard

/-- THE TIED CARD OF 'offprintlaw20.BookAgain'. -/
def bookAgainCard : Claim7 := { stood := { row := bookAgainRow, standIns := [], harness := (true, "40059957f76b1afc45b18f6f57ca2fb83a5686652e8cedaa6ae953e49bba72a9"), looks := false }, kinds := [], alts := [], laidByText := true, laidKinds := [.data], laidTests := true, laidLooks := .later }
def BookAgainCardSaid : Prop := Claim7.holds Tryz.pinned (.plain (OpenSpec.ofChange bookAgainSpec)) bookAgainCard

/-- THE TIED CARD OF 'offprintlaw20.BookLoads'. -/
def bookLoadsCard : Claim7 := { stood := { row := bookLoadsRow, standIns := [], harness := (true, "40059957f76b1afc45b18f6f57ca2fb83a5686652e8cedaa6ae953e49bba72a9"), looks := false }, kinds := [], alts := [], laidByText := true, laidKinds := [.data], laidTests := true, laidLooks := .later }
def BookLoadsCardSaid : Prop := Claim7.holds Tryz.pinned (.plain (OpenSpec.ofChange bookLoadsSpec)) bookLoadsCard

/-- THE SECOND FORM's CARD OF 'offprintlaw20.BookSteps'. -/
def bookStepsUptoCard : Claim7 := { stood := { row := bookStepsUptoRow, standIns := [], harness := (true, "40059957f76b1afc45b18f6f57ca2fb83a5686652e8cedaa6ae953e49bba72a9"), looks := false }, kinds := [], alts := [], laidByText := true, laidKinds := [.data], laidTests := true, laidLooks := .later }
def BookStepsUptoCardSaid : Prop := Claim7.holds Tryz.pinned (.plain (OpenSpec.upto bookStepsSpec)) bookStepsUptoCard

/-- THE SECOND FORM's CARD OF 'offprintlaw20.BookPlays'. -/
def bookPlaysUptoCard : Claim7 := { stood := { row := bookPlaysUptoRow, standIns := [], harness := (true, "40059957f76b1afc45b18f6f57ca2fb83a5686652e8cedaa6ae953e49bba72a9"), looks := false }, kinds := [], alts := [], laidByText := true, laidKinds := [.data], laidTests := true, laidLooks := .later }
def BookPlaysUptoCardSaid : Prop := Claim7.holds Tryz.pinned (.plain (OpenSpec.upto bookPlaysSpec)) bookPlaysUptoCard

/-- THE SECOND FORM's CARD OF 'offprintlaw20.BookAgain'. -/
def bookAgainUptoCard : Claim7 := { stood := { row := bookAgainUptoRow, standIns := [], harness := (true, "40059957f76b1afc45b18f6f57ca2fb83a5686652e8cedaa6ae953e49bba72a9"), looks := false }, kinds := [], alts := [], laidByText := true, laidKinds := [.data], laidTests := true, laidLooks := .later }
def BookAgainUptoCardSaid : Prop := Claim7.holds Tryz.pinned (.plain (OpenSpec.upto bookAgainSpec)) bookAgainUptoCard

/-- THE SECOND FORM's CARD OF 'offprintlaw20.BookLoads'. -/
def bookLoadsUptoCard : Claim7 := { stood := { row := bookLoadsUptoRow, standIns := [], harness := (true, "40059957f76b1afc45b18f6f57ca2fb83a5686652e8cedaa6ae953e49bba72a9"), looks := false }, kinds := [], alts := [], laidByText := true, laidKinds := [.data], laidTests := true, laidLooks := .later }
def BookLoadsUptoCardSaid : Prop := Claim7.holds Tryz.pinned (.plain (OpenSpec.upto bookLoadsSpec)) bookLoadsUptoCard
end Rows
end Go.Proofs.YtneolmnpebiifaaGreatDoor
