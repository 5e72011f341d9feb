/-
  NARROWER THAN 'FOR EVERY INPUT', by the rows' own cells (each row's printed sentence says how): ConsoleWords: laid · ConsoleQuotes: laid.
  DERIVED. THE GIVEN ROWS OF THIS SEAT. 2 by the template 'for every input the law returns true; each argument reads behind the call as it read before'; 0 by the template 'total and deterministic' (their statements: YtcgenmfnlocbbaaDoorTotals.lean).
  GIVEN WITH THE SEED: the statements are not yours to turn. If you find one false, say at which input.
  Laid BY PROGRAM, IN A SANDBOX (cutbox-rows.mjs): the forced cells as the released guide's own fill.sh prints them over the translation daceb9e785636fa6… (all of the seat's roots in one cut). By AI agents, Wed Nov 11 2026. No macro, syntax, notation, axiom, sorry.
-/
import Derived.Test.YtcgenmfnlocbbaaDoorChecked
import GoSem.Claim
import GoSem.ClaimJoined
import GoSem.ClaimMapViews
import Derived.JoinedTies
import Derived.KernelRfl
namespace Go.Proofs.YtcgenmfnlocbbaaDoor
/- THE CELL 'sum', in the pinned program and in every row, IS THE sha256 OF THE DUMP (.gsa) THAT YtcgenmfnlocbbaaDoorProg.lean LOADS. Nothing in Lean hashes anything: it is a label: what it is worth is what the hold of that sum in a sandbox is worth. -/
noncomputable def Tryd.pinned : Pinned := { name := "ytcgenmfnlocbbaadoor", sum := "daceb9e785636fa6633d7ed27e90d3d3ac222014f39b6651f90f15d0b1eaf104", checked := Tryd.checked }
namespace Rows
def none {H : Type} : Left H := { results := [], args := [] }

/- WHAT THE LISTED PACKAGE-LEVEL VARIABLES READ AS WHEN THE CALL BEGINS. Each datum BY PROGRAM (the guide's laid-datum.mjs) off the statement by which the dump's own 'gosem.cut.vars' lays the variable. In a bare row this is a premise. The card (YtcgenmfnlocbbaaDoorCards.lean) ties it to the program's text. -/
def laid_witness_console_strokes {H : Type} : DataW H := .agg [.agg [.lit (.int .i32 92), .lit (.int .u8 92)], .agg [.lit (.int .i32 34), .lit (.int .u8 34)], .agg [.lit (.int .i32 110), .lit (.int .u8 10)], .agg [.lit (.int .i32 116), .lit (.int .u8 9)]]

/-- 'witnesslaw19.ConsoleWords': WHATEVER THE INPUT: true; the input reads as it did. -/
def consoleWordsSpec : ChangeSpec := { name := "consoleWords", fn := fun _ => fun
  | [d] => { results := [.lit (.bool true)], args := [d] }
  | _ => none }
def consoleWordsRow : OpenClaim := { program := "ytcgenmfnlocbbaadoor", sum := "daceb9e785636fa6633d7ed27e90d3d3ac222014f39b6651f90f15d0b1eaf104", func := "witness/witnesslaw19.ConsoleWords", spec := "consoleWords", named := ["witness/console.strokes"], apart := false, laid := [("witness/console.strokes", laid_witness_console_strokes)] }
def ConsoleWordsSaid : Prop := consoleWordsRow.holds Tryd.pinned (OpenSpec.ofChange consoleWordsSpec)

/-- ITS FALSE NEIGHBOUR: 'it returns false'. Refute it at one input. -/
def consoleWordsWrong : ChangeSpec := { name := "consoleWords", fn := fun _ => fun
  | [d] => { results := [.lit (.bool false)], args := [d] }
  | _ => none }
def ConsoleWordsWrongFalsely : Prop := consoleWordsRow.holds Tryd.pinned (OpenSpec.ofChange consoleWordsWrong)

/-- 'witnesslaw19.ConsoleQuotes': WHATEVER THE INPUT: true; the input reads as it did. -/
def consoleQuotesSpec : ChangeSpec := { name := "consoleQuotes", fn := fun _ => fun
  | [d1, d2] => { results := [.lit (.bool true)], args := [d1, d2] }
  | _ => none }
def consoleQuotesRow : OpenClaim := { program := "ytcgenmfnlocbbaadoor", sum := "daceb9e785636fa6633d7ed27e90d3d3ac222014f39b6651f90f15d0b1eaf104", func := "witness/witnesslaw19.ConsoleQuotes", spec := "consoleQuotes", named := ["witness/console.strokes"], apart := false, laid := [("witness/console.strokes", laid_witness_console_strokes)] }
def ConsoleQuotesSaid : Prop := consoleQuotesRow.holds Tryd.pinned (OpenSpec.ofChange consoleQuotesSpec)

/-- ITS FALSE NEIGHBOUR: 'it returns false'. Refute it at one input. -/
def consoleQuotesWrong : ChangeSpec := { name := "consoleQuotes", fn := fun _ => fun
  | [d1, d2] => { results := [.lit (.bool false)], args := [d1, d2] }
  | _ => none }
def ConsoleQuotesWrongFalsely : Prop := consoleQuotesRow.holds Tryd.pinned (OpenSpec.ofChange consoleQuotesWrong)

/- THE SECOND FORM. 'bulk': how many values and letters a reading holds, each counted each time it is reached (what is shared counts as often as it is met; a slice's spare places count too). A statement '..UptoSaid' is the law's where the arguments, and the package variables that the reading takes, are together of bulk at most 1048576: NARROWER than '..Said'. Prove '..Said' where nothing that the law and all that it calls make is longer than what came in: it says more and counts as full. Else prove '..UptoSaid'. A law counts once. -/
mutual
def uptoBulk {H : Type} : DataW H → Nat
  | .lit (.string bytes) => bytes.length + 1
  | .lit _ => 1
  | .nil => 1
  | .ptr d => uptoBulk d + 1
  | .slice elems spare => uptoBulkAll elems + uptoBulkAll spare + 1
  | .agg parts => uptoBulkAll parts + 1
  | .iface _ d => uptoBulk d + 1
  | .map entries => uptoBulkEntries entries + 1
  | .held _ => 1
def uptoBulkAll {H : Type} : List (DataW H) → Nat
  | [] => 0
  | d :: r => uptoBulk d + uptoBulkAll r
def uptoBulkEntries {H : Type} : List (Lit × DataW H) → Nat
  | [] => 0
  | x :: r => uptoBulkEntry x + uptoBulkEntries r
def uptoBulkEntry {H : Type} : Lit × DataW H → Nat
  | (.string bytes, d) => bytes.length + uptoBulk d + 1
  | (_, d) => uptoBulk d + 1
 end
def uptoSmall : (H : Type) → List (DataW H) → Bool := fun _ ds => decide (uptoBulkAll ds ≤ 1048576)
def OpenSpec.upto (s : _root_.Go.ChangeSpec) : _root_.Go.OpenSpec := { _root_.Go.OpenSpec.ofChange s with cond := some uptoSmall }

/-- 'witnesslaw19.ConsoleWords', WHERE WHAT IT READS IS OF BULK AT MOST 1048576: true; the input reads as it did. -/
def consoleWordsUptoRow : OpenClaim := { program := "ytcgenmfnlocbbaadoor", sum := "daceb9e785636fa6633d7ed27e90d3d3ac222014f39b6651f90f15d0b1eaf104", func := "witness/witnesslaw19.ConsoleWords", spec := "consoleWords", named := ["witness/console.strokes"], apart := false, laid := [("witness/console.strokes", laid_witness_console_strokes)], narrowed := true }
def ConsoleWordsUptoSaid : Prop := consoleWordsUptoRow.holds Tryd.pinned (OpenSpec.upto consoleWordsSpec)

/-- 'witnesslaw19.ConsoleQuotes', WHERE WHAT IT READS IS OF BULK AT MOST 1048576: true; the input reads as it did. -/
def consoleQuotesUptoRow : OpenClaim := { program := "ytcgenmfnlocbbaadoor", sum := "daceb9e785636fa6633d7ed27e90d3d3ac222014f39b6651f90f15d0b1eaf104", func := "witness/witnesslaw19.ConsoleQuotes", spec := "consoleQuotes", named := ["witness/console.strokes"], apart := false, laid := [("witness/console.strokes", laid_witness_console_strokes)], narrowed := true }
def ConsoleQuotesUptoSaid : Prop := consoleQuotesUptoRow.holds Tryd.pinned (OpenSpec.upto consoleQuotesSpec)

end Rows
end Go.Proofs.YtcgenmfnlocbbaaDoor
