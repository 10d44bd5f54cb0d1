/-
  NARROWER THAN 'FOR EVERY INPUT', by the rows' own cells (each row's printed sentence says how): ContextGets: loops · ContextChanges: loops · CellsRun: loops · CellsKeep: loops.
  DERIVED. THE GIVEN ROWS OF THIS SEAT. 4 by the template 'for every input the law returns true; each argument reads behind the call as it read before'; 0 by the template 'total and deterministic' (their statements: YtipkggkbldgmjaaTotals.lean).
  GIVEN WITH THE SEED: the statements are not yours to turn. If you find one false, say at which input.
  Laid BY PROGRAM, IN A SANDBOX (cutbox-rows.mjs): the forced cells as the released guide's own fill.sh prints them over the translation 297c0202a48c6775… (all of the seat's roots in one cut). By AI agents, Wed Nov 11 2026. No macro, syntax, notation, axiom, sorry.
-/
import Derived.Test.YtipkggkbldgmjaaChecked
import GoSem.Claim
import GoSem.ClaimJoined
import GoSem.ClaimMapViews
import Derived.JoinedTies
import Derived.KernelRfl
namespace Go.Proofs.Ytipkggkbldgmjaa
/- THE CELL 'sum', in the pinned program and in every row, IS THE sha256 OF THE DUMP (.gsa) THAT YtipkggkbldgmjaaProg.lean LOADS. Nothing in Lean hashes anything: it is a label: what it is worth is what the hold of that sum in a sandbox is worth. -/
noncomputable def Try.pinned : Pinned := { name := "ytipkggkbldgmjaa", sum := "297c0202a48c6775ddfbe37a41cf0b87b4063cb3122d29db307d5a631ba2ab15", checked := Try.checked }
namespace Rows
def none {H : Type} : Left H := { results := [], args := [] }

/-- 'tapestrylaw14.ContextGets': WHATEVER THE INPUT: true; the input reads as it did. -/
def contextGetsSpec : ChangeSpec := { name := "contextGets", fn := fun _ => fun
  | [d1, d2, d3] => { results := [.lit (.bool true)], args := [d1, d2, d3] }
  | _ => none }
def contextGetsRow : OpenClaim := { program := "ytipkggkbldgmjaa", sum := "297c0202a48c6775ddfbe37a41cf0b87b4063cb3122d29db307d5a631ba2ab15", func := "tapestry/tapestrylaw14.ContextGets", spec := "contextGets", unfollowed := true, recurses := true, loops := true, apart := false }
def ContextGetsSaid : Prop := contextGetsRow.holds Try.pinned (OpenSpec.ofChange contextGetsSpec)

/-- ITS FALSE NEIGHBOUR: 'it returns false'. Refute it at one input. -/
def contextGetsWrong : ChangeSpec := { name := "contextGets", fn := fun _ => fun
  | [d1, d2, d3] => { results := [.lit (.bool false)], args := [d1, d2, d3] }
  | _ => none }
def ContextGetsWrongFalsely : Prop := contextGetsRow.holds Try.pinned (OpenSpec.ofChange contextGetsWrong)

/-- 'tapestrylaw14.ContextChanges': WHATEVER THE INPUT: true; the input reads as it did. -/
def contextChangesSpec : ChangeSpec := { name := "contextChanges", fn := fun _ => fun
  | [d1, d2] => { results := [.lit (.bool true)], args := [d1, d2] }
  | _ => none }
def contextChangesRow : OpenClaim := { program := "ytipkggkbldgmjaa", sum := "297c0202a48c6775ddfbe37a41cf0b87b4063cb3122d29db307d5a631ba2ab15", func := "tapestry/tapestrylaw14.ContextChanges", spec := "contextChanges", unfollowed := true, recurses := true, loops := true, apart := false }
def ContextChangesSaid : Prop := contextChangesRow.holds Try.pinned (OpenSpec.ofChange contextChangesSpec)

/-- ITS FALSE NEIGHBOUR: 'it returns false'. Refute it at one input. -/
def contextChangesWrong : ChangeSpec := { name := "contextChanges", fn := fun _ => fun
  | [d1, d2] => { results := [.lit (.bool false)], args := [d1, d2] }
  | _ => none }
def ContextChangesWrongFalsely : Prop := contextChangesRow.holds Try.pinned (OpenSpec.ofChange contextChangesWrong)

/-- 'tapestrylaw13.CellsRun': WHATEVER THE INPUT: true; the input reads as it did. -/
def cellsRunSpec : ChangeSpec := { name := "cellsRun", fn := fun _ => fun
  | [d1, d2] => { results := [.lit (.bool true)], args := [d1, d2] }
  | _ => none }
def cellsRunRow : OpenClaim := { program := "ytipkggkbldgmjaa", sum := "297c0202a48c6775ddfbe37a41cf0b87b4063cb3122d29db307d5a631ba2ab15", func := "tapestry/tapestrylaw13.CellsRun", spec := "cellsRun", unfollowed := true, recurses := true, loops := true, apart := false }
def CellsRunSaid : Prop := cellsRunRow.holds Try.pinned (OpenSpec.ofChange cellsRunSpec)

/-- ITS FALSE NEIGHBOUR: 'it returns false'. Refute it at one input. -/
def cellsRunWrong : ChangeSpec := { name := "cellsRun", fn := fun _ => fun
  | [d1, d2] => { results := [.lit (.bool false)], args := [d1, d2] }
  | _ => none }
def CellsRunWrongFalsely : Prop := cellsRunRow.holds Try.pinned (OpenSpec.ofChange cellsRunWrong)

/-- 'tapestrylaw13.CellsKeep': WHATEVER THE INPUT: true; the input reads as it did. -/
def cellsKeepSpec : ChangeSpec := { name := "cellsKeep", fn := fun _ => fun
  | [d] => { results := [.lit (.bool true)], args := [d] }
  | _ => none }
def cellsKeepRow : OpenClaim := { program := "ytipkggkbldgmjaa", sum := "297c0202a48c6775ddfbe37a41cf0b87b4063cb3122d29db307d5a631ba2ab15", func := "tapestry/tapestrylaw13.CellsKeep", spec := "cellsKeep", unfollowed := true, recurses := true, loops := true, apart := false }
def CellsKeepSaid : Prop := cellsKeepRow.holds Try.pinned (OpenSpec.ofChange cellsKeepSpec)

/-- ITS FALSE NEIGHBOUR: 'it returns false'. Refute it at one input. -/
def cellsKeepWrong : ChangeSpec := { name := "cellsKeep", fn := fun _ => fun
  | [d] => { results := [.lit (.bool false)], args := [d] }
  | _ => none }
def CellsKeepWrongFalsely : Prop := cellsKeepRow.holds Try.pinned (OpenSpec.ofChange cellsKeepWrong)

/- THE SECOND FORM. 'bulk': how many values and letters a reading holds, each counted each time it is reached (what is shared counts as often as it is met; a slice's spare places count too). A statement '..UptoSaid' is the law's where the arguments, and the package variables that the reading takes, are together of bulk at most 1048576: NARROWER than '..Said'. Prove '..Said' where nothing that the law and all that it calls make is longer than what came in: it says more and counts as full. Else prove '..UptoSaid'. A law counts once. -/
mutual
def uptoBulk {H : Type} : DataW H → Nat
  | .lit (.string bytes) => bytes.length + 1
  | .lit _ => 1
  | .nil => 1
  | .ptr d => uptoBulk d + 1
  | .slice elems spare => uptoBulkAll elems + uptoBulkAll spare + 1
  | .agg parts => uptoBulkAll parts + 1
  | .iface _ d => uptoBulk d + 1
  | .map entries => uptoBulkEntries entries + 1
  | .held _ => 1
def uptoBulkAll {H : Type} : List (DataW H) → Nat
  | [] => 0
  | d :: r => uptoBulk d + uptoBulkAll r
def uptoBulkEntries {H : Type} : List (Lit × DataW H) → Nat
  | [] => 0
  | x :: r => uptoBulkEntry x + uptoBulkEntries r
def uptoBulkEntry {H : Type} : Lit × DataW H → Nat
  | (.string bytes, d) => bytes.length + uptoBulk d + 1
  | (_, d) => uptoBulk d + 1
 end
def uptoSmall : (H : Type) → List (DataW H) → Bool := fun _ ds => decide (uptoBulkAll ds ≤ 1048576)
def OpenSpec.upto (s : _root_.Go.ChangeSpec) : _root_.Go.OpenSpec := { _root_.Go.OpenSpec.ofChange s with cond := some uptoSmall }

/-- 'tapestrylaw14.ContextGets', WHERE WHAT IT READS IS OF BULK AT MOST 1048576: true; the input reads as it did. -/
def contextGetsUptoRow : OpenClaim := { program := "ytipkggkbldgmjaa", sum := "297c0202a48c6775ddfbe37a41cf0b87b4063cb3122d29db307d5a631ba2ab15", func := "tapestry/tapestrylaw14.ContextGets", spec := "contextGets", unfollowed := true, recurses := true, loops := true, apart := false, narrowed := true }
def ContextGetsUptoSaid : Prop := contextGetsUptoRow.holds Try.pinned (OpenSpec.upto contextGetsSpec)

/-- 'tapestrylaw14.ContextChanges', WHERE WHAT IT READS IS OF BULK AT MOST 1048576: true; the input reads as it did. -/
def contextChangesUptoRow : OpenClaim := { program := "ytipkggkbldgmjaa", sum := "297c0202a48c6775ddfbe37a41cf0b87b4063cb3122d29db307d5a631ba2ab15", func := "tapestry/tapestrylaw14.ContextChanges", spec := "contextChanges", unfollowed := true, recurses := true, loops := true, apart := false, narrowed := true }
def ContextChangesUptoSaid : Prop := contextChangesUptoRow.holds Try.pinned (OpenSpec.upto contextChangesSpec)

/-- 'tapestrylaw13.CellsRun', WHERE WHAT IT READS IS OF BULK AT MOST 1048576: true; the input reads as it did. -/
def cellsRunUptoRow : OpenClaim := { program := "ytipkggkbldgmjaa", sum := "297c0202a48c6775ddfbe37a41cf0b87b4063cb3122d29db307d5a631ba2ab15", func := "tapestry/tapestrylaw13.CellsRun", spec := "cellsRun", unfollowed := true, recurses := true, loops := true, apart := false, narrowed := true }
def CellsRunUptoSaid : Prop := cellsRunUptoRow.holds Try.pinned (OpenSpec.upto cellsRunSpec)

/-- 'tapestrylaw13.CellsKeep', WHERE WHAT IT READS IS OF BULK AT MOST 1048576: true; the input reads as it did. -/
def cellsKeepUptoRow : OpenClaim := { program := "ytipkggkbldgmjaa", sum := "297c0202a48c6775ddfbe37a41cf0b87b4063cb3122d29db307d5a631ba2ab15", func := "tapestry/tapestrylaw13.CellsKeep", spec := "cellsKeep", unfollowed := true, recurses := true, loops := true, apart := false, narrowed := true }
def CellsKeepUptoSaid : Prop := cellsKeepUptoRow.holds Try.pinned (OpenSpec.upto cellsKeepSpec)

end Rows
end Go.Proofs.Ytipkggkbldgmjaa
