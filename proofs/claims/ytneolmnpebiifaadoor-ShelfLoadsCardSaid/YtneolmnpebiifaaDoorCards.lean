/-
  DERIVED. GIVEN WITH THE SEED: THE CARDS: each row of YtneolmnpebiifaaDoorRows.lean that lists a variable, with what it lists TIED to the program's text (the seventh form; the later family's looks); each row that meets fmt, with fmt's text TOLD by the authors' own Lean function (tested against real Go, not proved from fmt's source: count such statements apart). THE CARD IS WHAT COUNTS. Prove the row's statement (the work); the ties are given (YtneolmnpebiifaaDoorTie.lean); close each card by the builder's one call (the guide's Derived/Test/ToyasCard.lean, 'card_holds'). Laid BY PROGRAM, IN A SANDBOX (cutbox-door.mjs). By AI agents, Wed Nov 11 2026. No macro, syntax, notation, axiom, sorry.
-/
import Derived.Test.YtneolmnpebiifaaDoorRows
import GoSem.ClaimSeven
namespace Go.Proofs.YtneolmnpebiifaaDoor
namespace Rows

/-- THE TIED CARD OF 'offprintlaw18.ShelfOnce'. -/
def shelfOnceCard : Claim7 := { stood := { row := shelfOnceRow, standIns := [], harness := (true, "08cbf0e2445e11d466f7bc3f3c603ff4dad8f65857f0d4d1346a093833b23754"), looks := false }, kinds := [], alts := [], laidByText := true, laidKinds := [.data], laidTests := true, laidLooks := .later }
def ShelfOnceCardSaid : Prop := Claim7.holds Tryd.pinned (.plain (OpenSpec.ofChange shelfOnceSpec)) shelfOnceCard

/-- THE TIED CARD OF 'offprintlaw18.ShelfPlays'. -/
def shelfPlaysCard : Claim7 := { stood := { row := shelfPlaysRow, standIns := [], harness := (true, "08cbf0e2445e11d466f7bc3f3c603ff4dad8f65857f0d4d1346a093833b23754"), looks := false }, kinds := [], alts := [], laidByText := true, laidKinds := [.data], laidTests := true, laidLooks := .later }
def ShelfPlaysCardSaid : Prop := Claim7.holds Tryd.pinned (.plain (OpenSpec.ofChange shelfPlaysSpec)) shelfPlaysCard

/-- THE TIED CARD OF 'offprintlaw18.ShelfLoads'. -/
def shelfLoadsCard : Claim7 := { stood := { row := shelfLoadsRow, standIns := [], harness := (true, "08cbf0e2445e11d466f7bc3f3c603ff4dad8f65857f0d4d1346a093833b23754"), looks := false }, kinds := [], alts := [], laidByText := true, laidKinds := [.data], laidTests := true, laidLooks := .later }
def ShelfLoadsCardSaid : Prop := Claim7.holds Tryd.pinned (.plain (OpenSpec.ofChange shelfLoadsSpec)) shelfLoadsCard

/-- THE SECOND FORM's CARD OF 'offprintlaw18.ShelfOnce'. -/
def shelfOnceUptoCard : Claim7 := { stood := { row := shelfOnceUptoRow, standIns := [], harness := (true, "08cbf0e2445e11d466f7bc3f3c603ff4dad8f65857f0d4d1346a093833b23754"), looks := false }, kinds := [], alts := [], laidByText := true, laidKinds := [.data], laidTests := true, laidLooks := .later }
def ShelfOnceUptoCardSaid : Prop := Claim7.holds Tryd.pinned (.plain (OpenSpec.upto shelfOnceSpec)) shelfOnceUptoCard

/-- THE SECOND FORM's CARD OF 'offprintlaw18.ShelfPlays'. -/
def shelfPlaysUptoCard : Claim7 := { stood := { row := shelfPlaysUptoRow, standIns := [], harness := (true, "08cbf0e2445e11d466f7bc3f3c603ff4dad8f65857f0d4d1346a093833b23754"), looks := false }, kinds := [], alts := [], laidByText := true, laidKinds := [.data], laidTests := true, laidLooks := .later }
def ShelfPlaysUptoCardSaid : Prop := Claim7.holds Tryd.pinned (.plain (OpenSpec.upto shelfPlaysSpec)) shelfPlaysUptoCard

/-- THE SECOND FORM's CARD OF 'offprintlaw18.ShelfLoads'. -/
def shelfLoadsUptoCard : Claim7 := { stood := { row := shelfLoadsUptoRow, standIns := [], harness := (true, "08cbf0e2445e11d466f7bc3f3c603ff4dad8f65857f0d4d1346a093833b23754"), looks := false }, kinds := [], alts := [], laidByText := true, laidKinds := [.data], laidTests := true, laidLooks := .later }
def ShelfLoadsUptoCardSaid : Prop := Claim7.holds Tryd.pinned (.plain (OpenSpec.upto shelfLoadsSpec)) shelfLoadsUptoCard
end Rows
end Go.Proofs.YtneolmnpebiifaaDoor
