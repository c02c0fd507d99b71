/-
  DERIVED. GIVEN WITH THE SEED: THE CARDS: each row of YtplgpbbghhlbjaaDoorRows.lean that lists a variable, with what it lists TIED to the program's text (the seventh form; the later family's looks); each row that meets fmt, with fmt's text TOLD by the authors' own Lean function (tested against real Go, not proved from fmt's source: count such statements apart). THE CARD IS WHAT COUNTS. Prove the row's statement (the work); the ties are given (YtplgpbbghhlbjaaDoorTie.lean); close each card by the builder's one call (the guide's Derived/Test/ToyasCard.lean, 'card_holds'). Laid BY PROGRAM, IN A SANDBOX (cutbox-door.mjs). By AI agents, Wed Nov 11 2026. No macro, syntax, notation, axiom, sorry.
-/
import Derived.Test.YtplgpbbghhlbjaaDoorRows
import GoSem.ClaimSeven
namespace Go.Proofs.YtplgpbbghhlbjaaDoor
namespace Rows

/-- THE TIED CARD OF 'offprintlaw06.CardShows'. -/
def cardShowsCard : Claim7 := { stood := { row := cardShowsRow, standIns := [], harness := (true, "a4f7ecb1516915e99d4b7db31068a46f185457bc14564ac73df4587a1436b52a"), looks := false }, kinds := [], alts := [], laidByText := true, laidKinds := [.data], laidTests := true, laidLooks := .later }
def CardShowsCardSaid : Prop := Claim7.holds Tryd.pinned (.plain (OpenSpec.ofChange cardShowsSpec)) cardShowsCard

/-- THE TIED CARD OF 'offprintlaw06.CardMerges'. -/
def cardMergesCard : Claim7 := { stood := { row := cardMergesRow, standIns := [], harness := (true, "a4f7ecb1516915e99d4b7db31068a46f185457bc14564ac73df4587a1436b52a"), looks := false }, kinds := [], alts := [], laidByText := true, laidKinds := [.data], laidTests := true, laidLooks := .later }
def CardMergesCardSaid : Prop := Claim7.holds Tryd.pinned (.plain (OpenSpec.ofChange cardMergesSpec)) cardMergesCard

/-- THE TIED CARD OF 'offprintlaw06.CardTwice'. -/
def cardTwiceCard : Claim7 := { stood := { row := cardTwiceRow, standIns := [], harness := (true, "a4f7ecb1516915e99d4b7db31068a46f185457bc14564ac73df4587a1436b52a"), looks := false }, kinds := [], alts := [], laidByText := true, laidKinds := [.data], laidTests := true, laidLooks := .later }
def CardTwiceCardSaid : Prop := Claim7.holds Tryd.pinned (.plain (OpenSpec.ofChange cardTwiceSpec)) cardTwiceCard

/-- THE TIED CARD OF 'offprintlaw06.CardTells'. -/
def cardTellsCard : Claim7 := { stood := { row := cardTellsRow, standIns := [], harness := (true, "a4f7ecb1516915e99d4b7db31068a46f185457bc14564ac73df4587a1436b52a"), looks := false }, kinds := [], alts := [], laidByText := true, laidKinds := [.data], laidTests := true, laidLooks := .later }
def CardTellsCardSaid : Prop := Claim7.holds Tryd.pinned (.plain (OpenSpec.ofChange cardTellsSpec)) cardTellsCard

/-- THE TIED CARD OF 'offprintlaw44.QueuePlays'. -/
def queuePlaysCard : Claim7 := { stood := { row := queuePlaysRow, standIns := [], harness := (true, "a4f7ecb1516915e99d4b7db31068a46f185457bc14564ac73df4587a1436b52a"), looks := false }, kinds := [], alts := [], laidByText := true, laidKinds := [.data], laidTests := true, laidLooks := .later }
def QueuePlaysCardSaid : Prop := Claim7.holds Tryd.pinned (.plain (OpenSpec.ofChange queuePlaysSpec)) queuePlaysCard

/-- THE SECOND FORM's CARD OF 'offprintlaw06.CardShows'. -/
def cardShowsUptoCard : Claim7 := { stood := { row := cardShowsUptoRow, standIns := [], harness := (true, "a4f7ecb1516915e99d4b7db31068a46f185457bc14564ac73df4587a1436b52a"), looks := false }, kinds := [], alts := [], laidByText := true, laidKinds := [.data], laidTests := true, laidLooks := .later }
def CardShowsUptoCardSaid : Prop := Claim7.holds Tryd.pinned (.plain (OpenSpec.upto cardShowsSpec)) cardShowsUptoCard

/-- THE SECOND FORM's CARD OF 'offprintlaw06.CardMerges'. -/
def cardMergesUptoCard : Claim7 := { stood := { row := cardMergesUptoRow, standIns := [], harness := (true, "a4f7ecb1516915e99d4b7db31068a46f185457bc14564ac73df4587a1436b52a"), looks := false }, kinds := [], alts := [], laidByText := true, laidKinds := [.data], laidTests := true, laidLooks := .later }
def CardMergesUptoCardSaid : Prop := Claim7.holds Tryd.pinned (.plain (OpenSpec.upto cardMergesSpec)) cardMergesUptoCard

/-- THE SECOND FORM's CARD OF 'offprintlaw06.CardTwice'. -/
def cardTwiceUptoCard : Claim7 := { stood := { row := cardTwiceUptoRow, standIns := [], harness := (true, "a4f7ecb1516915e99d4b7db31068a46f185457bc14564ac73df4587a1436b52a"), looks := false }, kinds := [], alts := [], laidByText := true, laidKinds := [.data], laidTests := true, laidLooks := .later }
def CardTwiceUptoCardSaid : Prop := Claim7.holds Tryd.pinned (.plain (OpenSpec.upto cardTwiceSpec)) cardTwiceUptoCard

/-- THE SECOND FORM's CARD OF 'offprintlaw06.CardTells'. -/
def cardTellsUptoCard : Claim7 := { stood := { row := cardTellsUptoRow, standIns := [], harness := (true, "a4f7ecb1516915e99d4b7db31068a46f185457bc14564ac73df4587a1436b52a"), looks := false }, kinds := [], alts := [], laidByText := true, laidKinds := [.data], laidTests := true, laidLooks := .later }
def CardTellsUptoCardSaid : Prop := Claim7.holds Tryd.pinned (.plain (OpenSpec.upto cardTellsSpec)) cardTellsUptoCard

/-- THE SECOND FORM's CARD OF 'offprintlaw44.QueuePlays'. -/
def queuePlaysUptoCard : Claim7 := { stood := { row := queuePlaysUptoRow, standIns := [], harness := (true, "a4f7ecb1516915e99d4b7db31068a46f185457bc14564ac73df4587a1436b52a"), looks := false }, kinds := [], alts := [], laidByText := true, laidKinds := [.data], laidTests := true, laidLooks := .later }
def QueuePlaysUptoCardSaid : Prop := Claim7.holds Tryd.pinned (.plain (OpenSpec.upto queuePlaysSpec)) queuePlaysUptoCard
end Rows
end Go.Proofs.YtplgpbbghhlbjaaDoor
