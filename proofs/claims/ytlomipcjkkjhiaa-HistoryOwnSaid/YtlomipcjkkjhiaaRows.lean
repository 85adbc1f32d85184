/-
  No cell of these rows narrows 'for every input' (looked for: loops, veiled, ifaces, maps, wideKeys, modest, calm, conditions, laid).
  DERIVED. THE GIVEN ROWS OF THIS SEAT. 4 by the template 'for every input the law returns true; each argument reads behind the call as it read before'; 0 by the template 'total and deterministic' (their statements: YtlomipcjkkjhiaaTotals.lean).
  GIVEN WITH THE SEED: the statements are not yours to turn. If you find one false, say at which input.
  Laid BY PROGRAM, IN A SANDBOX (cutbox-rows.mjs): the forced cells as the released guide's own fill.sh prints them over the translation 1b22af4a85c5f203… (all of the seat's roots in one cut). By AI agents, Wed Nov 11 2026. No macro, syntax, notation, axiom, sorry.
-/
import Derived.Test.YtlomipcjkkjhiaaChecked
import GoSem.Claim
import GoSem.ClaimJoined
import GoSem.ClaimMapViews
import Derived.JoinedTies
import Derived.KernelRfl
namespace Go.Proofs.Ytlomipcjkkjhiaa
/- THE CELL 'sum', in the pinned program and in every row, IS THE sha256 OF THE DUMP (.gsa) THAT YtlomipcjkkjhiaaProg.lean LOADS. Nothing in Lean hashes anything: it is a label: what it is worth is what the hold of that sum in a sandbox is worth. -/
noncomputable def Try.pinned : Pinned := { name := "ytlomipcjkkjhiaa", sum := "1b22af4a85c5f203a93681c2f4ae3889ebfcb58ca1cc7e894b2b9e3b0517aff5", checked := Try.checked }
namespace Rows
def none {H : Type} : Left H := { results := [], args := [] }

/-- 'spoollaw44.HistoryPlays': WHATEVER THE INPUT: true; the input reads as it did. -/
def historyPlaysSpec : ChangeSpec := { name := "historyPlays", fn := fun _ => fun
  | [d] => { results := [.lit (.bool true)], args := [d] }
  | _ => none }
def historyPlaysRow : OpenClaim := { program := "ytlomipcjkkjhiaa", sum := "1b22af4a85c5f203a93681c2f4ae3889ebfcb58ca1cc7e894b2b9e3b0517aff5", func := "spool/spoollaw44.HistoryPlays", spec := "historyPlays", apart := false }
def HistoryPlaysSaid : Prop := historyPlaysRow.holds Try.pinned (OpenSpec.ofChange historyPlaysSpec)

/-- ITS FALSE NEIGHBOUR: 'it returns false'. Refute it at one input. -/
def historyPlaysWrong : ChangeSpec := { name := "historyPlays", fn := fun _ => fun
  | [d] => { results := [.lit (.bool false)], args := [d] }
  | _ => none }
def HistoryPlaysWrongFalsely : Prop := historyPlaysRow.holds Try.pinned (OpenSpec.ofChange historyPlaysWrong)

/-- 'spoollaw44.HistoryRight': WHATEVER THE INPUT: true; the input reads as it did. -/
def historyRightSpec : ChangeSpec := { name := "historyRight", fn := fun _ => fun
  | [d] => { results := [.lit (.bool true)], args := [d] }
  | _ => none }
def historyRightRow : OpenClaim := { program := "ytlomipcjkkjhiaa", sum := "1b22af4a85c5f203a93681c2f4ae3889ebfcb58ca1cc7e894b2b9e3b0517aff5", func := "spool/spoollaw44.HistoryRight", spec := "historyRight", unfollowed := true, recurses := true, apart := false }
def HistoryRightSaid : Prop := historyRightRow.holds Try.pinned (OpenSpec.ofChange historyRightSpec)

/-- ITS FALSE NEIGHBOUR: 'it returns false'. Refute it at one input. -/
def historyRightWrong : ChangeSpec := { name := "historyRight", fn := fun _ => fun
  | [d] => { results := [.lit (.bool false)], args := [d] }
  | _ => none }
def HistoryRightWrongFalsely : Prop := historyRightRow.holds Try.pinned (OpenSpec.ofChange historyRightWrong)

/-- 'spoollaw44.HistoryOwn': WHATEVER THE INPUT: true; the input reads as it did. -/
def historyOwnSpec : ChangeSpec := { name := "historyOwn", fn := fun _ => fun
  | [d] => { results := [.lit (.bool true)], args := [d] }
  | _ => none }
def historyOwnRow : OpenClaim := { program := "ytlomipcjkkjhiaa", sum := "1b22af4a85c5f203a93681c2f4ae3889ebfcb58ca1cc7e894b2b9e3b0517aff5", func := "spool/spoollaw44.HistoryOwn", spec := "historyOwn", unfollowed := true, recurses := true, apart := false }
def HistoryOwnSaid : Prop := historyOwnRow.holds Try.pinned (OpenSpec.ofChange historyOwnSpec)

/-- ITS FALSE NEIGHBOUR: 'it returns false'. Refute it at one input. -/
def historyOwnWrong : ChangeSpec := { name := "historyOwn", fn := fun _ => fun
  | [d] => { results := [.lit (.bool false)], args := [d] }
  | _ => none }
def HistoryOwnWrongFalsely : Prop := historyOwnRow.holds Try.pinned (OpenSpec.ofChange historyOwnWrong)

/-- 'spoollaw44.HistoryTime': WHATEVER THE INPUT: true; the input reads as it did. -/
def historyTimeSpec : ChangeSpec := { name := "historyTime", fn := fun _ => fun
  | [d1, d2, d3] => { results := [.lit (.bool true)], args := [d1, d2, d3] }
  | _ => none }
def historyTimeRow : OpenClaim := { program := "ytlomipcjkkjhiaa", sum := "1b22af4a85c5f203a93681c2f4ae3889ebfcb58ca1cc7e894b2b9e3b0517aff5", func := "spool/spoollaw44.HistoryTime", spec := "historyTime", unfollowed := true, recurses := true, apart := false }
def HistoryTimeSaid : Prop := historyTimeRow.holds Try.pinned (OpenSpec.ofChange historyTimeSpec)

/-- ITS FALSE NEIGHBOUR: 'it returns false'. Refute it at one input. -/
def historyTimeWrong : ChangeSpec := { name := "historyTime", fn := fun _ => fun
  | [d1, d2, d3] => { results := [.lit (.bool false)], args := [d1, d2, d3] }
  | _ => none }
def HistoryTimeWrongFalsely : Prop := historyTimeRow.holds Try.pinned (OpenSpec.ofChange historyTimeWrong)

/- THE SECOND FORM. 'bulk': how many values and letters a reading holds, each counted each time it is reached (what is shared counts as often as it is met; a slice's spare places count too). A statement '..UptoSaid' is the law's where the arguments, and the package variables that the reading takes, are together of bulk at most 1048576: NARROWER than '..Said'. Prove '..Said' where nothing that the law and all that it calls make is longer than what came in: it says more and counts as full. Else prove '..UptoSaid'. A law counts once. -/
mutual
def uptoBulk {H : Type} : DataW H → Nat
  | .lit (.string bytes) => bytes.length + 1
  | .lit _ => 1
  | .nil => 1
  | .ptr d => uptoBulk d + 1
  | .slice elems spare => uptoBulkAll elems + uptoBulkAll spare + 1
  | .agg parts => uptoBulkAll parts + 1
  | .iface _ d => uptoBulk d + 1
  | .map entries => uptoBulkEntries entries + 1
  | .held _ => 1
def uptoBulkAll {H : Type} : List (DataW H) → Nat
  | [] => 0
  | d :: r => uptoBulk d + uptoBulkAll r
def uptoBulkEntries {H : Type} : List (Lit × DataW H) → Nat
  | [] => 0
  | x :: r => uptoBulkEntry x + uptoBulkEntries r
def uptoBulkEntry {H : Type} : Lit × DataW H → Nat
  | (.string bytes, d) => bytes.length + uptoBulk d + 1
  | (_, d) => uptoBulk d + 1
 end
def uptoSmall : (H : Type) → List (DataW H) → Bool := fun _ ds => decide (uptoBulkAll ds ≤ 1048576)
def OpenSpec.upto (s : _root_.Go.ChangeSpec) : _root_.Go.OpenSpec := { _root_.Go.OpenSpec.ofChange s with cond := some uptoSmall }

/-- 'spoollaw44.HistoryPlays', WHERE WHAT IT READS IS OF BULK AT MOST 1048576: true; the input reads as it did. -/
def historyPlaysUptoRow : OpenClaim := { program := "ytlomipcjkkjhiaa", sum := "1b22af4a85c5f203a93681c2f4ae3889ebfcb58ca1cc7e894b2b9e3b0517aff5", func := "spool/spoollaw44.HistoryPlays", spec := "historyPlays", apart := false, narrowed := true }
def HistoryPlaysUptoSaid : Prop := historyPlaysUptoRow.holds Try.pinned (OpenSpec.upto historyPlaysSpec)

/-- 'spoollaw44.HistoryRight', WHERE WHAT IT READS IS OF BULK AT MOST 1048576: true; the input reads as it did. -/
def historyRightUptoRow : OpenClaim := { program := "ytlomipcjkkjhiaa", sum := "1b22af4a85c5f203a93681c2f4ae3889ebfcb58ca1cc7e894b2b9e3b0517aff5", func := "spool/spoollaw44.HistoryRight", spec := "historyRight", unfollowed := true, recurses := true, apart := false, narrowed := true }
def HistoryRightUptoSaid : Prop := historyRightUptoRow.holds Try.pinned (OpenSpec.upto historyRightSpec)

/-- 'spoollaw44.HistoryOwn', WHERE WHAT IT READS IS OF BULK AT MOST 1048576: true; the input reads as it did. -/
def historyOwnUptoRow : OpenClaim := { program := "ytlomipcjkkjhiaa", sum := "1b22af4a85c5f203a93681c2f4ae3889ebfcb58ca1cc7e894b2b9e3b0517aff5", func := "spool/spoollaw44.HistoryOwn", spec := "historyOwn", unfollowed := true, recurses := true, apart := false, narrowed := true }
def HistoryOwnUptoSaid : Prop := historyOwnUptoRow.holds Try.pinned (OpenSpec.upto historyOwnSpec)

/-- 'spoollaw44.HistoryTime', WHERE WHAT IT READS IS OF BULK AT MOST 1048576: true; the input reads as it did. -/
def historyTimeUptoRow : OpenClaim := { program := "ytlomipcjkkjhiaa", sum := "1b22af4a85c5f203a93681c2f4ae3889ebfcb58ca1cc7e894b2b9e3b0517aff5", func := "spool/spoollaw44.HistoryTime", spec := "historyTime", unfollowed := true, recurses := true, apart := false, narrowed := true }
def HistoryTimeUptoSaid : Prop := historyTimeUptoRow.holds Try.pinned (OpenSpec.upto historyTimeSpec)

end Rows
end Go.Proofs.Ytlomipcjkkjhiaa
