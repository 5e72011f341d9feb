/-
  DERIVED. GIVEN WITH THE SEED: THE CARDS: each row of YtcgenmfnlocbbaaDoorRows.lean that lists a variable, with what it lists TIED to the program's text (the seventh form; the later family's looks); each row that meets fmt, with fmt's text TOLD by the authors' own Lean function (tested against real Go, not proved from fmt's source: count such statements apart). THE CARD IS WHAT COUNTS. Prove the row's statement (the work); the ties are given (YtcgenmfnlocbbaaDoorTie.lean); close each card by the builder's one call (the guide's Derived/Test/ToyasCard.lean, 'card_holds'). Laid BY PROGRAM, IN A SANDBOX (cutbox-door.mjs). By AI agents, Wed Nov 11 2026. No macro, syntax, notation, axiom, sorry.
-/
import Derived.Test.YtcgenmfnlocbbaaDoorRows
import GoSem.ClaimSeven
namespace Go.Proofs.YtcgenmfnlocbbaaDoor
namespace Rows

/-- THE TIED CARD OF 'witnesslaw19.ConsoleWords'. -/
def consoleWordsCard : Claim7 := { stood := { row := consoleWordsRow, standIns := [], harness := (true, "c640d4e5469aed268e59a33408237d605910f4bcc1a7ad82c38fa22bee8abbfe"), looks := false }, kinds := [], alts := [], laidByText := true, laidKinds := [.data], laidTests := true, laidLooks := .later }
def ConsoleWordsCardSaid : Prop := Claim7.holds Tryd.pinned (.plain (OpenSpec.ofChange consoleWordsSpec)) consoleWordsCard

/-- THE TIED CARD OF 'witnesslaw19.ConsoleQuotes'. -/
def consoleQuotesCard : Claim7 := { stood := { row := consoleQuotesRow, standIns := [], harness := (true, "c640d4e5469aed268e59a33408237d605910f4bcc1a7ad82c38fa22bee8abbfe"), looks := false }, kinds := [], alts := [], laidByText := true, laidKinds := [.data], laidTests := true, laidLooks := .later }
def ConsoleQuotesCardSaid : Prop := Claim7.holds Tryd.pinned (.plain (OpenSpec.ofChange consoleQuotesSpec)) consoleQuotesCard

/-- THE SECOND FORM's CARD OF 'witnesslaw19.ConsoleWords'. -/
def consoleWordsUptoCard : Claim7 := { stood := { row := consoleWordsUptoRow, standIns := [], harness := (true, "c640d4e5469aed268e59a33408237d605910f4bcc1a7ad82c38fa22bee8abbfe"), looks := false }, kinds := [], alts := [], laidByText := true, laidKinds := [.data], laidTests := true, laidLooks := .later }
def ConsoleWordsUptoCardSaid : Prop := Claim7.holds Tryd.pinned (.plain (OpenSpec.upto consoleWordsSpec)) consoleWordsUptoCard

/-- THE SECOND FORM's CARD OF 'witnesslaw19.ConsoleQuotes'. -/
def consoleQuotesUptoCard : Claim7 := { stood := { row := consoleQuotesUptoRow, standIns := [], harness := (true, "c640d4e5469aed268e59a33408237d605910f4bcc1a7ad82c38fa22bee8abbfe"), looks := false }, kinds := [], alts := [], laidByText := true, laidKinds := [.data], laidTests := true, laidLooks := .later }
def ConsoleQuotesUptoCardSaid : Prop := Claim7.holds Tryd.pinned (.plain (OpenSpec.upto consoleQuotesSpec)) consoleQuotesUptoCard
end Rows
end Go.Proofs.YtcgenmfnlocbbaaDoor
