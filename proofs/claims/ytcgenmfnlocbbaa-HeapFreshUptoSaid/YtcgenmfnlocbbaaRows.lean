/-
  No cell of these rows narrows 'for every input' (looked for: loops, veiled, ifaces, maps, wideKeys, modest, calm, conditions, laid).
  DERIVED. THE GIVEN ROWS OF THIS SEAT. 8 by the template 'for every input the law returns true; each argument reads behind the call as it read before'; 0 by the template 'total and deterministic' (their statements: YtcgenmfnlocbbaaTotals.lean).
  GIVEN WITH THE SEED: the statements are not yours to turn. If you find one false, say at which input.
  Laid BY PROGRAM, IN A SANDBOX (cutbox-rows.mjs): the forced cells as the released guide's own fill.sh prints them over the translation 57b854d17fd0367e… (all of the seat's roots in one cut). By AI agents, Wed Nov 11 2026. No macro, syntax, notation, axiom, sorry.
-/
import Derived.Test.YtcgenmfnlocbbaaChecked
import GoSem.Claim
import GoSem.ClaimJoined
import GoSem.ClaimMapViews
import Derived.JoinedTies
import Derived.KernelRfl
namespace Go.Proofs.Ytcgenmfnlocbbaa
/- THE CELL 'sum', in the pinned program and in every row, IS THE sha256 OF THE DUMP (.gsa) THAT YtcgenmfnlocbbaaProg.lean LOADS. Nothing in Lean hashes anything: it is a label: what it is worth is what the hold of that sum in a sandbox is worth. -/
noncomputable def Try.pinned : Pinned := { name := "ytcgenmfnlocbbaa", sum := "57b854d17fd0367eb5b3839509b16786579405eccabffd39c4dccbc0e8a5e457", checked := Try.checked }
namespace Rows
def none {H : Type} : Left H := { results := [], args := [] }

/-- 'witnesslaw17.AuditCleans': WHATEVER THE INPUT: true; the input reads as it did. -/
def auditCleansSpec : ChangeSpec := { name := "auditCleans", fn := fun _ => fun
  | [d] => { results := [.lit (.bool true)], args := [d] }
  | _ => none }
def auditCleansRow : OpenClaim := { program := "ytcgenmfnlocbbaa", sum := "57b854d17fd0367eb5b3839509b16786579405eccabffd39c4dccbc0e8a5e457", func := "witness/witnesslaw17.AuditCleans", spec := "auditCleans", apart := false }
def AuditCleansSaid : Prop := auditCleansRow.holds Try.pinned (OpenSpec.ofChange auditCleansSpec)

/-- ITS FALSE NEIGHBOUR: 'it returns false'. Refute it at one input. -/
def auditCleansWrong : ChangeSpec := { name := "auditCleans", fn := fun _ => fun
  | [d] => { results := [.lit (.bool false)], args := [d] }
  | _ => none }
def AuditCleansWrongFalsely : Prop := auditCleansRow.holds Try.pinned (OpenSpec.ofChange auditCleansWrong)

/-- 'witnesslaw4.HeapTurns': WHATEVER THE INPUT: true; the input reads as it did. -/
def heapTurnsSpec : ChangeSpec := { name := "heapTurns", fn := fun _ => fun
  | [d] => { results := [.lit (.bool true)], args := [d] }
  | _ => none }
def heapTurnsRow : OpenClaim := { program := "ytcgenmfnlocbbaa", sum := "57b854d17fd0367eb5b3839509b16786579405eccabffd39c4dccbc0e8a5e457", func := "witness/witnesslaw4.HeapTurns", spec := "heapTurns", unfollowed := true, recurses := true, apart := false }
def HeapTurnsSaid : Prop := heapTurnsRow.holds Try.pinned (OpenSpec.ofChange heapTurnsSpec)

/-- ITS FALSE NEIGHBOUR: 'it returns false'. Refute it at one input. -/
def heapTurnsWrong : ChangeSpec := { name := "heapTurns", fn := fun _ => fun
  | [d] => { results := [.lit (.bool false)], args := [d] }
  | _ => none }
def HeapTurnsWrongFalsely : Prop := heapTurnsRow.holds Try.pinned (OpenSpec.ofChange heapTurnsWrong)

/-- 'witnesslaw4.HeapCosts': WHATEVER THE INPUT: true; the input reads as it did. -/
def heapCostsSpec : ChangeSpec := { name := "heapCosts", fn := fun _ => fun
  | [d] => { results := [.lit (.bool true)], args := [d] }
  | _ => none }
def heapCostsRow : OpenClaim := { program := "ytcgenmfnlocbbaa", sum := "57b854d17fd0367eb5b3839509b16786579405eccabffd39c4dccbc0e8a5e457", func := "witness/witnesslaw4.HeapCosts", spec := "heapCosts", unfollowed := true, recurses := true, apart := false }
def HeapCostsSaid : Prop := heapCostsRow.holds Try.pinned (OpenSpec.ofChange heapCostsSpec)

/-- ITS FALSE NEIGHBOUR: 'it returns false'. Refute it at one input. -/
def heapCostsWrong : ChangeSpec := { name := "heapCosts", fn := fun _ => fun
  | [d] => { results := [.lit (.bool false)], args := [d] }
  | _ => none }
def HeapCostsWrongFalsely : Prop := heapCostsRow.holds Try.pinned (OpenSpec.ofChange heapCostsWrong)

/-- 'witnesslaw4.HeapDrains': WHATEVER THE INPUT: true; the input reads as it did. -/
def heapDrainsSpec : ChangeSpec := { name := "heapDrains", fn := fun _ => fun
  | [d1, d2, d3] => { results := [.lit (.bool true)], args := [d1, d2, d3] }
  | _ => none }
def heapDrainsRow : OpenClaim := { program := "ytcgenmfnlocbbaa", sum := "57b854d17fd0367eb5b3839509b16786579405eccabffd39c4dccbc0e8a5e457", func := "witness/witnesslaw4.HeapDrains", spec := "heapDrains", unfollowed := true, recurses := true, apart := false }
def HeapDrainsSaid : Prop := heapDrainsRow.holds Try.pinned (OpenSpec.ofChange heapDrainsSpec)

/-- ITS FALSE NEIGHBOUR: 'it returns false'. Refute it at one input. -/
def heapDrainsWrong : ChangeSpec := { name := "heapDrains", fn := fun _ => fun
  | [d1, d2, d3] => { results := [.lit (.bool false)], args := [d1, d2, d3] }
  | _ => none }
def HeapDrainsWrongFalsely : Prop := heapDrainsRow.holds Try.pinned (OpenSpec.ofChange heapDrainsWrong)

/-- 'witnesslaw4.HeapLists': WHATEVER THE INPUT: true; the input reads as it did. -/
def heapListsSpec : ChangeSpec := { name := "heapLists", fn := fun _ => fun
  | [d1, d2] => { results := [.lit (.bool true)], args := [d1, d2] }
  | _ => none }
def heapListsRow : OpenClaim := { program := "ytcgenmfnlocbbaa", sum := "57b854d17fd0367eb5b3839509b16786579405eccabffd39c4dccbc0e8a5e457", func := "witness/witnesslaw4.HeapLists", spec := "heapLists", unfollowed := true, recurses := true, apart := false }
def HeapListsSaid : Prop := heapListsRow.holds Try.pinned (OpenSpec.ofChange heapListsSpec)

/-- ITS FALSE NEIGHBOUR: 'it returns false'. Refute it at one input. -/
def heapListsWrong : ChangeSpec := { name := "heapLists", fn := fun _ => fun
  | [d1, d2] => { results := [.lit (.bool false)], args := [d1, d2] }
  | _ => none }
def HeapListsWrongFalsely : Prop := heapListsRow.holds Try.pinned (OpenSpec.ofChange heapListsWrong)

/-- 'witnesslaw4.HeapWild': WHATEVER THE INPUT: true; the input reads as it did. -/
def heapWildSpec : ChangeSpec := { name := "heapWild", fn := fun _ => fun
  | [d1, d2, d3] => { results := [.lit (.bool true)], args := [d1, d2, d3] }
  | _ => none }
def heapWildRow : OpenClaim := { program := "ytcgenmfnlocbbaa", sum := "57b854d17fd0367eb5b3839509b16786579405eccabffd39c4dccbc0e8a5e457", func := "witness/witnesslaw4.HeapWild", spec := "heapWild", unfollowed := true, recurses := true, apart := false }
def HeapWildSaid : Prop := heapWildRow.holds Try.pinned (OpenSpec.ofChange heapWildSpec)

/-- ITS FALSE NEIGHBOUR: 'it returns false'. Refute it at one input. -/
def heapWildWrong : ChangeSpec := { name := "heapWild", fn := fun _ => fun
  | [d1, d2, d3] => { results := [.lit (.bool false)], args := [d1, d2, d3] }
  | _ => none }
def HeapWildWrongFalsely : Prop := heapWildRow.holds Try.pinned (OpenSpec.ofChange heapWildWrong)

/-- 'witnesslaw4.HeapFresh': WHATEVER THE INPUT: true; the input reads as it did. -/
def heapFreshSpec : ChangeSpec := { name := "heapFresh", fn := fun _ => fun
  | [d1, d2] => { results := [.lit (.bool true)], args := [d1, d2] }
  | _ => none }
def heapFreshRow : OpenClaim := { program := "ytcgenmfnlocbbaa", sum := "57b854d17fd0367eb5b3839509b16786579405eccabffd39c4dccbc0e8a5e457", func := "witness/witnesslaw4.HeapFresh", spec := "heapFresh", unfollowed := true, recurses := true, apart := false }
def HeapFreshSaid : Prop := heapFreshRow.holds Try.pinned (OpenSpec.ofChange heapFreshSpec)

/-- ITS FALSE NEIGHBOUR: 'it returns false'. Refute it at one input. -/
def heapFreshWrong : ChangeSpec := { name := "heapFresh", fn := fun _ => fun
  | [d1, d2] => { results := [.lit (.bool false)], args := [d1, d2] }
  | _ => none }
def HeapFreshWrongFalsely : Prop := heapFreshRow.holds Try.pinned (OpenSpec.ofChange heapFreshWrong)

/-- 'witnesslaw4.HeapSorts': WHATEVER THE INPUT: true; the input reads as it did. -/
def heapSortsSpec : ChangeSpec := { name := "heapSorts", fn := fun _ => fun
  | [d1, d2] => { results := [.lit (.bool true)], args := [d1, d2] }
  | _ => none }
def heapSortsRow : OpenClaim := { program := "ytcgenmfnlocbbaa", sum := "57b854d17fd0367eb5b3839509b16786579405eccabffd39c4dccbc0e8a5e457", func := "witness/witnesslaw4.HeapSorts", spec := "heapSorts", unfollowed := true, recurses := true, apart := false }
def HeapSortsSaid : Prop := heapSortsRow.holds Try.pinned (OpenSpec.ofChange heapSortsSpec)

/-- ITS FALSE NEIGHBOUR: 'it returns false'. Refute it at one input. -/
def heapSortsWrong : ChangeSpec := { name := "heapSorts", fn := fun _ => fun
  | [d1, d2] => { results := [.lit (.bool false)], args := [d1, d2] }
  | _ => none }
def HeapSortsWrongFalsely : Prop := heapSortsRow.holds Try.pinned (OpenSpec.ofChange heapSortsWrong)

/- THE SECOND FORM. 'bulk': how many values and letters a reading holds, each counted each time it is reached (what is shared counts as often as it is met; a slice's spare places count too). A statement '..UptoSaid' is the law's where the arguments, and the package variables that the reading takes, are together of bulk at most 1048576: NARROWER than '..Said'. Prove '..Said' where nothing that the law and all that it calls make is longer than what came in: it says more and counts as full. Else prove '..UptoSaid'. A law counts once. -/
mutual
def uptoBulk {H : Type} : DataW H → Nat
  | .lit (.string bytes) => bytes.length + 1
  | .lit _ => 1
  | .nil => 1
  | .ptr d => uptoBulk d + 1
  | .slice elems spare => uptoBulkAll elems + uptoBulkAll spare + 1
  | .agg parts => uptoBulkAll parts + 1
  | .iface _ d => uptoBulk d + 1
  | .map entries => uptoBulkEntries entries + 1
  | .held _ => 1
def uptoBulkAll {H : Type} : List (DataW H) → Nat
  | [] => 0
  | d :: r => uptoBulk d + uptoBulkAll r
def uptoBulkEntries {H : Type} : List (Lit × DataW H) → Nat
  | [] => 0
  | x :: r => uptoBulkEntry x + uptoBulkEntries r
def uptoBulkEntry {H : Type} : Lit × DataW H → Nat
  | (.string bytes, d) => bytes.length + uptoBulk d + 1
  | (_, d) => uptoBulk d + 1
 end
def uptoSmall : (H : Type) → List (DataW H) → Bool := fun _ ds => decide (uptoBulkAll ds ≤ 1048576)
def OpenSpec.upto (s : _root_.Go.ChangeSpec) : _root_.Go.OpenSpec := { _root_.Go.OpenSpec.ofChange s with cond := some uptoSmall }

/-- 'witnesslaw17.AuditCleans', WHERE WHAT IT READS IS OF BULK AT MOST 1048576: true; the input reads as it did. -/
def auditCleansUptoRow : OpenClaim := { program := "ytcgenmfnlocbbaa", sum := "57b854d17fd0367eb5b3839509b16786579405eccabffd39c4dccbc0e8a5e457", func := "witness/witnesslaw17.AuditCleans", spec := "auditCleans", apart := false, narrowed := true }
def AuditCleansUptoSaid : Prop := auditCleansUptoRow.holds Try.pinned (OpenSpec.upto auditCleansSpec)

/-- 'witnesslaw4.HeapTurns', WHERE WHAT IT READS IS OF BULK AT MOST 1048576: true; the input reads as it did. -/
def heapTurnsUptoRow : OpenClaim := { program := "ytcgenmfnlocbbaa", sum := "57b854d17fd0367eb5b3839509b16786579405eccabffd39c4dccbc0e8a5e457", func := "witness/witnesslaw4.HeapTurns", spec := "heapTurns", unfollowed := true, recurses := true, apart := false, narrowed := true }
def HeapTurnsUptoSaid : Prop := heapTurnsUptoRow.holds Try.pinned (OpenSpec.upto heapTurnsSpec)

/-- 'witnesslaw4.HeapCosts', WHERE WHAT IT READS IS OF BULK AT MOST 1048576: true; the input reads as it did. -/
def heapCostsUptoRow : OpenClaim := { program := "ytcgenmfnlocbbaa", sum := "57b854d17fd0367eb5b3839509b16786579405eccabffd39c4dccbc0e8a5e457", func := "witness/witnesslaw4.HeapCosts", spec := "heapCosts", unfollowed := true, recurses := true, apart := false, narrowed := true }
def HeapCostsUptoSaid : Prop := heapCostsUptoRow.holds Try.pinned (OpenSpec.upto heapCostsSpec)

/-- 'witnesslaw4.HeapDrains', WHERE WHAT IT READS IS OF BULK AT MOST 1048576: true; the input reads as it did. -/
def heapDrainsUptoRow : OpenClaim := { program := "ytcgenmfnlocbbaa", sum := "57b854d17fd0367eb5b3839509b16786579405eccabffd39c4dccbc0e8a5e457", func := "witness/witnesslaw4.HeapDrains", spec := "heapDrains", unfollowed := true, recurses := true, apart := false, narrowed := true }
def HeapDrainsUptoSaid : Prop := heapDrainsUptoRow.holds Try.pinned (OpenSpec.upto heapDrainsSpec)

/-- 'witnesslaw4.HeapLists', WHERE WHAT IT READS IS OF BULK AT MOST 1048576: true; the input reads as it did. -/
def heapListsUptoRow : OpenClaim := { program := "ytcgenmfnlocbbaa", sum := "57b854d17fd0367eb5b3839509b16786579405eccabffd39c4dccbc0e8a5e457", func := "witness/witnesslaw4.HeapLists", spec := "heapLists", unfollowed := true, recurses := true, apart := false, narrowed := true }
def HeapListsUptoSaid : Prop := heapListsUptoRow.holds Try.pinned (OpenSpec.upto heapListsSpec)

/-- 'witnesslaw4.HeapWild', WHERE WHAT IT READS IS OF BULK AT MOST 1048576: true; the input reads as it did. -/
def heapWildUptoRow : OpenClaim := { program := "ytcgenmfnlocbbaa", sum := "57b854d17fd0367eb5b3839509b16786579405eccabffd39c4dccbc0e8a5e457", func := "witness/witnesslaw4.HeapWild", spec := "heapWild", unfollowed := true, recurses := true, apart := false, narrowed := true }
def HeapWildUptoSaid : Prop := heapWildUptoRow.holds Try.pinned (OpenSpec.upto heapWildSpec)

/-- 'witnesslaw4.HeapFresh', WHERE WHAT IT READS IS OF BULK AT MOST 1048576: true; the input reads as it did. -/
def heapFreshUptoRow : OpenClaim := { program := "ytcgenmfnlocbbaa", sum := "57b854d17fd0367eb5b3839509b16786579405eccabffd39c4dccbc0e8a5e457", func := "witness/witnesslaw4.HeapFresh", spec := "heapFresh", unfollowed := true, recurses := true, apart := false, narrowed := true }
def HeapFreshUptoSaid : Prop := heapFreshUptoRow.holds Try.pinned (OpenSpec.upto heapFreshSpec)

/-- 'witnesslaw4.HeapSorts', WHERE WHAT IT READS IS OF BULK AT MOST 1048576: true; the input reads as it did. -/
def heapSortsUptoRow : OpenClaim := { program := "ytcgenmfnlocbbaa", sum := "57b854d17fd0367eb5b3839509b16786579405eccabffd39c4dccbc0e8a5e457", func := "witness/witnesslaw4.HeapSorts", spec := "heapSorts", unfollowed := true, recurses := true, apart := false, narrowed := true }
def HeapSortsUptoSaid : Prop := heapSortsUptoRow.holds Try.pinned (OpenSpec.upto heapSortsSpec)

end Rows
end Go.Proofs.Ytcgenmfnlocbbaa
