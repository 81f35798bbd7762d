/-
  No cell of these rows narrows 'for every input' (looked for: loops, veiled, ifaces, maps, wideKeys, modest, calm, conditions, laid).
  DERIVED. THE GIVEN ROWS OF THIS SEAT. 12 by the template 'for every input the law returns true; each argument reads behind the call as it read before'; 0 by the template 'total and deterministic' (their statements: YtpnophmanpfejaaTotals.lean).
  GIVEN WITH THE SEED: the statements are not yours to turn. If you find one false, say at which input.
  Laid BY PROGRAM, IN A SANDBOX (cutbox-rows.mjs): the forced cells as the released guide's own fill.sh prints them over the translation 6b3898e94437d441… (all of the seat's roots in one cut). By AI agents, Wed Nov 11 2026. No macro, syntax, notation, axiom, sorry.
-/
import Derived.Test.YtpnophmanpfejaaChecked
import GoSem.Claim
import GoSem.ClaimJoined
import GoSem.ClaimMapViews
import Derived.JoinedTies
import Derived.KernelRfl
namespace Go.Proofs.Ytpnophmanpfejaa
/- THE CELL 'sum', in the pinned program and in every row, IS THE sha256 OF THE DUMP (.gsa) THAT YtpnophmanpfejaaProg.lean LOADS. Nothing in Lean hashes anything: it is a label: what it is worth is what the hold of that sum in a sandbox is worth. -/
noncomputable def Try.pinned : Pinned := { name := "ytpnophmanpfejaa", sum := "6b3898e94437d4411dff52075c7240ba7020436e362c9d33073e5d4a438ce2f2", checked := Try.checked }
namespace Rows
def none {H : Type} : Left H := { results := [], args := [] }

/-- 'laws.FnExactPriosIn': WHATEVER THE INPUT: true; the input reads as it did. -/
def fnExactPriosInSpec : ChangeSpec := { name := "fnExactPriosIn", fn := fun _ => fun
  | [d1, d2] => { results := [.lit (.bool true)], args := [d1, d2] }
  | _ => none }
def fnExactPriosInRow : OpenClaim := { program := "ytpnophmanpfejaa", sum := "6b3898e94437d4411dff52075c7240ba7020436e362c9d33073e5d4a438ce2f2", func := "loop.example/g00869/laws.FnExactPriosIn", spec := "fnExactPriosIn", recurses := true, apart := false }
def FnExactPriosInSaid : Prop := fnExactPriosInRow.holds Try.pinned (OpenSpec.ofChange fnExactPriosInSpec)

/-- ITS FALSE NEIGHBOUR: 'it returns false'. Refute it at one input. -/
def fnExactPriosInWrong : ChangeSpec := { name := "fnExactPriosIn", fn := fun _ => fun
  | [d1, d2] => { results := [.lit (.bool false)], args := [d1, d2] }
  | _ => none }
def FnExactPriosInWrongFalsely : Prop := fnExactPriosInRow.holds Try.pinned (OpenSpec.ofChange fnExactPriosInWrong)

/-- 'laws.FnExactFlipped': WHATEVER THE INPUT: true; the input reads as it did. -/
def fnExactFlippedSpec : ChangeSpec := { name := "fnExactFlipped", fn := fun _ => fun
  | [d] => { results := [.lit (.bool true)], args := [d] }
  | _ => none }
def fnExactFlippedRow : OpenClaim := { program := "ytpnophmanpfejaa", sum := "6b3898e94437d4411dff52075c7240ba7020436e362c9d33073e5d4a438ce2f2", func := "loop.example/g00869/laws.FnExactFlipped", spec := "fnExactFlipped", apart := false }
def FnExactFlippedSaid : Prop := fnExactFlippedRow.holds Try.pinned (OpenSpec.ofChange fnExactFlippedSpec)

/-- ITS FALSE NEIGHBOUR: 'it returns false'. Refute it at one input. -/
def fnExactFlippedWrong : ChangeSpec := { name := "fnExactFlipped", fn := fun _ => fun
  | [d] => { results := [.lit (.bool false)], args := [d] }
  | _ => none }
def FnExactFlippedWrongFalsely : Prop := fnExactFlippedRow.holds Try.pinned (OpenSpec.ofChange fnExactFlippedWrong)

/-- 'laws.FnExactCleanIn': WHATEVER THE INPUT: true; the input reads as it did. -/
def fnExactCleanInSpec : ChangeSpec := { name := "fnExactCleanIn", fn := fun _ => fun
  | [d1, d2, d3, d4] => { results := [.lit (.bool true)], args := [d1, d2, d3, d4] }
  | _ => none }
def fnExactCleanInRow : OpenClaim := { program := "ytpnophmanpfejaa", sum := "6b3898e94437d4411dff52075c7240ba7020436e362c9d33073e5d4a438ce2f2", func := "loop.example/g00869/laws.FnExactCleanIn", spec := "fnExactCleanIn", apart := false }
def FnExactCleanInSaid : Prop := fnExactCleanInRow.holds Try.pinned (OpenSpec.ofChange fnExactCleanInSpec)

/-- ITS FALSE NEIGHBOUR: 'it returns false'. Refute it at one input. -/
def fnExactCleanInWrong : ChangeSpec := { name := "fnExactCleanIn", fn := fun _ => fun
  | [d1, d2, d3, d4] => { results := [.lit (.bool false)], args := [d1, d2, d3, d4] }
  | _ => none }
def FnExactCleanInWrongFalsely : Prop := fnExactCleanInRow.holds Try.pinned (OpenSpec.ofChange fnExactCleanInWrong)

/-- 'laws.FnExactBadLoops': WHATEVER THE INPUT: true; the input reads as it did. -/
def fnExactBadLoopsSpec : ChangeSpec := { name := "fnExactBadLoops", fn := fun _ => fun
  | [d1, d2, d3, d4] => { results := [.lit (.bool true)], args := [d1, d2, d3, d4] }
  | _ => none }
def fnExactBadLoopsRow : OpenClaim := { program := "ytpnophmanpfejaa", sum := "6b3898e94437d4411dff52075c7240ba7020436e362c9d33073e5d4a438ce2f2", func := "loop.example/g00869/laws.FnExactBadLoops", spec := "fnExactBadLoops", apart := false }
def FnExactBadLoopsSaid : Prop := fnExactBadLoopsRow.holds Try.pinned (OpenSpec.ofChange fnExactBadLoopsSpec)

/-- ITS FALSE NEIGHBOUR: 'it returns false'. Refute it at one input. -/
def fnExactBadLoopsWrong : ChangeSpec := { name := "fnExactBadLoops", fn := fun _ => fun
  | [d1, d2, d3, d4] => { results := [.lit (.bool false)], args := [d1, d2, d3, d4] }
  | _ => none }
def FnExactBadLoopsWrongFalsely : Prop := fnExactBadLoopsRow.holds Try.pinned (OpenSpec.ofChange fnExactBadLoopsWrong)

/-- 'laws.FnExactWinsBy': WHATEVER THE INPUT: true; the input reads as it did. -/
def fnExactWinsBySpec : ChangeSpec := { name := "fnExactWinsBy", fn := fun _ => fun
  | [d1, d2, d3, d4] => { results := [.lit (.bool true)], args := [d1, d2, d3, d4] }
  | _ => none }
def fnExactWinsByRow : OpenClaim := { program := "ytpnophmanpfejaa", sum := "6b3898e94437d4411dff52075c7240ba7020436e362c9d33073e5d4a438ce2f2", func := "loop.example/g00869/laws.FnExactWinsBy", spec := "fnExactWinsBy", apart := false }
def FnExactWinsBySaid : Prop := fnExactWinsByRow.holds Try.pinned (OpenSpec.ofChange fnExactWinsBySpec)

/-- ITS FALSE NEIGHBOUR: 'it returns false'. Refute it at one input. -/
def fnExactWinsByWrong : ChangeSpec := { name := "fnExactWinsBy", fn := fun _ => fun
  | [d1, d2, d3, d4] => { results := [.lit (.bool false)], args := [d1, d2, d3, d4] }
  | _ => none }
def FnExactWinsByWrongFalsely : Prop := fnExactWinsByRow.holds Try.pinned (OpenSpec.ofChange fnExactWinsByWrong)

/-- 'laws.FnExactAnswerOk': WHATEVER THE INPUT: true; the input reads as it did. -/
def fnExactAnswerOkSpec : ChangeSpec := { name := "fnExactAnswerOk", fn := fun _ => fun
  | [d1, d2] => { results := [.lit (.bool true)], args := [d1, d2] }
  | _ => none }
def fnExactAnswerOkRow : OpenClaim := { program := "ytpnophmanpfejaa", sum := "6b3898e94437d4411dff52075c7240ba7020436e362c9d33073e5d4a438ce2f2", func := "loop.example/g00869/laws.FnExactAnswerOk", spec := "fnExactAnswerOk", apart := false }
def FnExactAnswerOkSaid : Prop := fnExactAnswerOkRow.holds Try.pinned (OpenSpec.ofChange fnExactAnswerOkSpec)

/-- ITS FALSE NEIGHBOUR: 'it returns false'. Refute it at one input. -/
def fnExactAnswerOkWrong : ChangeSpec := { name := "fnExactAnswerOk", fn := fun _ => fun
  | [d1, d2] => { results := [.lit (.bool false)], args := [d1, d2] }
  | _ => none }
def FnExactAnswerOkWrongFalsely : Prop := fnExactAnswerOkRow.holds Try.pinned (OpenSpec.ofChange fnExactAnswerOkWrong)

/-- 'laws.FnExactPressed': WHATEVER THE INPUT: true; the input reads as it did. -/
def fnExactPressedSpec : ChangeSpec := { name := "fnExactPressed", fn := fun _ => fun
  | [d] => { results := [.lit (.bool true)], args := [d] }
  | _ => none }
def fnExactPressedRow : OpenClaim := { program := "ytpnophmanpfejaa", sum := "6b3898e94437d4411dff52075c7240ba7020436e362c9d33073e5d4a438ce2f2", func := "loop.example/g00869/laws.FnExactPressed", spec := "fnExactPressed", recurses := true, apart := false }
def FnExactPressedSaid : Prop := fnExactPressedRow.holds Try.pinned (OpenSpec.ofChange fnExactPressedSpec)

/-- ITS FALSE NEIGHBOUR: 'it returns false'. Refute it at one input. -/
def fnExactPressedWrong : ChangeSpec := { name := "fnExactPressed", fn := fun _ => fun
  | [d] => { results := [.lit (.bool false)], args := [d] }
  | _ => none }
def FnExactPressedWrongFalsely : Prop := fnExactPressedRow.holds Try.pinned (OpenSpec.ofChange fnExactPressedWrong)

/-- 'laws.FnExactLoopsOf': WHATEVER THE INPUT: true; the input reads as it did. -/
def fnExactLoopsOfSpec : ChangeSpec := { name := "fnExactLoopsOf", fn := fun _ => fun
  | [d1, d2] => { results := [.lit (.bool true)], args := [d1, d2] }
  | _ => none }
def fnExactLoopsOfRow : OpenClaim := { program := "ytpnophmanpfejaa", sum := "6b3898e94437d4411dff52075c7240ba7020436e362c9d33073e5d4a438ce2f2", func := "loop.example/g00869/laws.FnExactLoopsOf", spec := "fnExactLoopsOf", unfollowed := true, recurses := true, apart := false }
def FnExactLoopsOfSaid : Prop := fnExactLoopsOfRow.holds Try.pinned (OpenSpec.ofChange fnExactLoopsOfSpec)

/-- ITS FALSE NEIGHBOUR: 'it returns false'. Refute it at one input. -/
def fnExactLoopsOfWrong : ChangeSpec := { name := "fnExactLoopsOf", fn := fun _ => fun
  | [d1, d2] => { results := [.lit (.bool false)], args := [d1, d2] }
  | _ => none }
def FnExactLoopsOfWrongFalsely : Prop := fnExactLoopsOfRow.holds Try.pinned (OpenSpec.ofChange fnExactLoopsOfWrong)

/-- 'laws.FnSets': WHATEVER THE INPUT: true; the input reads as it did. -/
def fnSetsSpec : ChangeSpec := { name := "fnSets", fn := fun _ => fun
  | [d] => { results := [.lit (.bool true)], args := [d] }
  | _ => none }
def fnSetsRow : OpenClaim := { program := "ytpnophmanpfejaa", sum := "6b3898e94437d4411dff52075c7240ba7020436e362c9d33073e5d4a438ce2f2", func := "loop.example/g00869/laws.FnSets", spec := "fnSets", recurses := true, apart := false }
def FnSetsSaid : Prop := fnSetsRow.holds Try.pinned (OpenSpec.ofChange fnSetsSpec)

/-- ITS FALSE NEIGHBOUR: 'it returns false'. Refute it at one input. -/
def fnSetsWrong : ChangeSpec := { name := "fnSets", fn := fun _ => fun
  | [d] => { results := [.lit (.bool false)], args := [d] }
  | _ => none }
def FnSetsWrongFalsely : Prop := fnSetsRow.holds Try.pinned (OpenSpec.ofChange fnSetsWrong)

/-- 'laws.FnReachClosed': WHATEVER THE INPUT: true; the input reads as it did. -/
def fnReachClosedSpec : ChangeSpec := { name := "fnReachClosed", fn := fun _ => fun
  | [d] => { results := [.lit (.bool true)], args := [d] }
  | _ => none }
def fnReachClosedRow : OpenClaim := { program := "ytpnophmanpfejaa", sum := "6b3898e94437d4411dff52075c7240ba7020436e362c9d33073e5d4a438ce2f2", func := "loop.example/g00869/laws.FnReachClosed", spec := "fnReachClosed", apart := false }
def FnReachClosedSaid : Prop := fnReachClosedRow.holds Try.pinned (OpenSpec.ofChange fnReachClosedSpec)

/-- ITS FALSE NEIGHBOUR: 'it returns false'. Refute it at one input. -/
def fnReachClosedWrong : ChangeSpec := { name := "fnReachClosed", fn := fun _ => fun
  | [d] => { results := [.lit (.bool false)], args := [d] }
  | _ => none }
def FnReachClosedWrongFalsely : Prop := fnReachClosedRow.holds Try.pinned (OpenSpec.ofChange fnReachClosedWrong)

/-- 'laws.FnPressed': WHATEVER THE INPUT: true; the input reads as it did. -/
def fnPressedSpec : ChangeSpec := { name := "fnPressed", fn := fun _ => fun
  | [d] => { results := [.lit (.bool true)], args := [d] }
  | _ => none }
def fnPressedRow : OpenClaim := { program := "ytpnophmanpfejaa", sum := "6b3898e94437d4411dff52075c7240ba7020436e362c9d33073e5d4a438ce2f2", func := "loop.example/g00869/laws.FnPressed", spec := "fnPressed", unfollowed := true, recurses := true, apart := false }
def FnPressedSaid : Prop := fnPressedRow.holds Try.pinned (OpenSpec.ofChange fnPressedSpec)

/-- ITS FALSE NEIGHBOUR: 'it returns false'. Refute it at one input. -/
def fnPressedWrong : ChangeSpec := { name := "fnPressed", fn := fun _ => fun
  | [d] => { results := [.lit (.bool false)], args := [d] }
  | _ => none }
def FnPressedWrongFalsely : Prop := fnPressedRow.holds Try.pinned (OpenSpec.ofChange fnPressedWrong)

/-- 'laws.FnParts': WHATEVER THE INPUT: true; the input reads as it did. -/
def fnPartsSpec : ChangeSpec := { name := "fnParts", fn := fun _ => fun
  | [d] => { results := [.lit (.bool true)], args := [d] }
  | _ => none }
def fnPartsRow : OpenClaim := { program := "ytpnophmanpfejaa", sum := "6b3898e94437d4411dff52075c7240ba7020436e362c9d33073e5d4a438ce2f2", func := "loop.example/g00869/laws.FnParts", spec := "fnParts", unfollowed := true, recurses := true, apart := false }
def FnPartsSaid : Prop := fnPartsRow.holds Try.pinned (OpenSpec.ofChange fnPartsSpec)

/-- ITS FALSE NEIGHBOUR: 'it returns false'. Refute it at one input. -/
def fnPartsWrong : ChangeSpec := { name := "fnParts", fn := fun _ => fun
  | [d] => { results := [.lit (.bool false)], args := [d] }
  | _ => none }
def FnPartsWrongFalsely : Prop := fnPartsRow.holds Try.pinned (OpenSpec.ofChange fnPartsWrong)

/- THE SECOND FORM. 'bulk': how many values and letters a reading holds, each counted each time it is reached (what is shared counts as often as it is met; a slice's spare places count too). A statement '..UptoSaid' is the law's where the arguments, and the package variables that the reading takes, are together of bulk at most 1048576: NARROWER than '..Said'. Prove '..Said' where nothing that the law and all that it calls make is longer than what came in: it says more and counts as full. Else prove '..UptoSaid'. A law counts once. -/
mutual
def uptoBulk {H : Type} : DataW H → Nat
  | .lit (.string bytes) => bytes.length + 1
  | .lit _ => 1
  | .nil => 1
  | .ptr d => uptoBulk d + 1
  | .slice elems spare => uptoBulkAll elems + uptoBulkAll spare + 1
  | .agg parts => uptoBulkAll parts + 1
  | .iface _ d => uptoBulk d + 1
  | .map entries => uptoBulkEntries entries + 1
  | .held _ => 1
def uptoBulkAll {H : Type} : List (DataW H) → Nat
  | [] => 0
  | d :: r => uptoBulk d + uptoBulkAll r
def uptoBulkEntries {H : Type} : List (Lit × DataW H) → Nat
  | [] => 0
  | x :: r => uptoBulkEntry x + uptoBulkEntries r
def uptoBulkEntry {H : Type} : Lit × DataW H → Nat
  | (.string bytes, d) => bytes.length + uptoBulk d + 1
  | (_, d) => uptoBulk d + 1
 end
def uptoSmall : (H : Type) → List (DataW H) → Bool := fun _ ds => decide (uptoBulkAll ds ≤ 1048576)
def OpenSpec.upto (s : _root_.Go.ChangeSpec) : _root_.Go.OpenSpec := { _root_.Go.OpenSpec.ofChange s with cond := some uptoSmall }

/-- 'laws.FnExactPriosIn', WHERE WHAT IT READS IS OF BULK AT MOST 1048576: true; the input reads as it did. -/
def fnExactPriosInUptoRow : OpenClaim := { program := "ytpnophmanpfejaa", sum := "6b3898e94437d4411dff52075c7240ba7020436e362c9d33073e5d4a438ce2f2", func := "loop.example/g00869/laws.FnExactPriosIn", spec := "fnExactPriosIn", recurses := true, apart := false, narrowed := true }
def FnExactPriosInUptoSaid : Prop := fnExactPriosInUptoRow.holds Try.pinned (OpenSpec.upto fnExactPriosInSpec)

/-- 'laws.FnExactFlipped', WHERE WHAT IT READS IS OF BULK AT MOST 1048576: true; the input reads as it did. -/
def fnExactFlippedUptoRow : OpenClaim := { program := "ytpnophmanpfejaa", sum := "6b3898e94437d4411dff52075c7240ba7020436e362c9d33073e5d4a438ce2f2", func := "loop.example/g00869/laws.FnExactFlipped", spec := "fnExactFlipped", apart := false, narrowed := true }
def FnExactFlippedUptoSaid : Prop := fnExactFlippedUptoRow.holds Try.pinned (OpenSpec.upto fnExactFlippedSpec)

/-- 'laws.FnExactCleanIn', WHERE WHAT IT READS IS OF BULK AT MOST 1048576: true; the input reads as it did. -/
def fnExactCleanInUptoRow : OpenClaim := { program := "ytpnophmanpfejaa", sum := "6b3898e94437d4411dff52075c7240ba7020436e362c9d33073e5d4a438ce2f2", func := "loop.example/g00869/laws.FnExactCleanIn", spec := "fnExactCleanIn", apart := false, narrowed := true }
def FnExactCleanInUptoSaid : Prop := fnExactCleanInUptoRow.holds Try.pinned (OpenSpec.upto fnExactCleanInSpec)

/-- 'laws.FnExactBadLoops', WHERE WHAT IT READS IS OF BULK AT MOST 1048576: true; the input reads as it did. -/
def fnExactBadLoopsUptoRow : OpenClaim := { program := "ytpnophmanpfejaa", sum := "6b3898e94437d4411dff52075c7240ba7020436e362c9d33073e5d4a438ce2f2", func := "loop.example/g00869/laws.FnExactBadLoops", spec := "fnExactBadLoops", apart := false, narrowed := true }
def FnExactBadLoopsUptoSaid : Prop := fnExactBadLoopsUptoRow.holds Try.pinned (OpenSpec.upto fnExactBadLoopsSpec)

/-- 'laws.FnExactWinsBy', WHERE WHAT IT READS IS OF BULK AT MOST 1048576: true; the input reads as it did. -/
def fnExactWinsByUptoRow : OpenClaim := { program := "ytpnophmanpfejaa", sum := "6b3898e94437d4411dff52075c7240ba7020436e362c9d33073e5d4a438ce2f2", func := "loop.example/g00869/laws.FnExactWinsBy", spec := "fnExactWinsBy", apart := false, narrowed := true }
def FnExactWinsByUptoSaid : Prop := fnExactWinsByUptoRow.holds Try.pinned (OpenSpec.upto fnExactWinsBySpec)

/-- 'laws.FnExactAnswerOk', WHERE WHAT IT READS IS OF BULK AT MOST 1048576: true; the input reads as it did. -/
def fnExactAnswerOkUptoRow : OpenClaim := { program := "ytpnophmanpfejaa", sum := "6b3898e94437d4411dff52075c7240ba7020436e362c9d33073e5d4a438ce2f2", func := "loop.example/g00869/laws.FnExactAnswerOk", spec := "fnExactAnswerOk", apart := false, narrowed := true }
def FnExactAnswerOkUptoSaid : Prop := fnExactAnswerOkUptoRow.holds Try.pinned (OpenSpec.upto fnExactAnswerOkSpec)

/-- 'laws.FnExactPressed', WHERE WHAT IT READS IS OF BULK AT MOST 1048576: true; the input reads as it did. -/
def fnExactPressedUptoRow : OpenClaim := { program := "ytpnophmanpfejaa", sum := "6b3898e94437d4411dff52075c7240ba7020436e362c9d33073e5d4a438ce2f2", func := "loop.example/g00869/laws.FnExactPressed", spec := "fnExactPressed", recurses := true, apart := false, narrowed := true }
def FnExactPressedUptoSaid : Prop := fnExactPressedUptoRow.holds Try.pinned (OpenSpec.upto fnExactPressedSpec)

/-- 'laws.FnExactLoopsOf', WHERE WHAT IT READS IS OF BULK AT MOST 1048576: true; the input reads as it did. -/
def fnExactLoopsOfUptoRow : OpenClaim := { program := "ytpnophmanpfejaa", sum := "6b3898e94437d4411dff52075c7240ba7020436e362c9d33073e5d4a438ce2f2", func := "loop.example/g00869/laws.FnExactLoopsOf", spec := "fnExactLoopsOf", unfollowed := true, recurses := true, apart := false, narrowed := true }
def FnExactLoopsOfUptoSaid : Prop := fnExactLoopsOfUptoRow.holds Try.pinned (OpenSpec.upto fnExactLoopsOfSpec)

/-- 'laws.FnSets', WHERE WHAT IT READS IS OF BULK AT MOST 1048576: true; the input reads as it did. -/
def fnSetsUptoRow : OpenClaim := { program := "ytpnophmanpfejaa", sum := "6b3898e94437d4411dff52075c7240ba7020436e362c9d33073e5d4a438ce2f2", func := "loop.example/g00869/laws.FnSets", spec := "fnSets", recurses := true, apart := false, narrowed := true }
def FnSetsUptoSaid : Prop := fnSetsUptoRow.holds Try.pinned (OpenSpec.upto fnSetsSpec)

/-- 'laws.FnReachClosed', WHERE WHAT IT READS IS OF BULK AT MOST 1048576: true; the input reads as it did. -/
def fnReachClosedUptoRow : OpenClaim := { program := "ytpnophmanpfejaa", sum := "6b3898e94437d4411dff52075c7240ba7020436e362c9d33073e5d4a438ce2f2", func := "loop.example/g00869/laws.FnReachClosed", spec := "fnReachClosed", apart := false, narrowed := true }
def FnReachClosedUptoSaid : Prop := fnReachClosedUptoRow.holds Try.pinned (OpenSpec.upto fnReachClosedSpec)

/-- 'laws.FnPressed', WHERE WHAT IT READS IS OF BULK AT MOST 1048576: true; the input reads as it did. -/
def fnPressedUptoRow : OpenClaim := { program := "ytpnophmanpfejaa", sum := "6b3898e94437d4411dff52075c7240ba7020436e362c9d33073e5d4a438ce2f2", func := "loop.example/g00869/laws.FnPressed", spec := "fnPressed", unfollowed := true, recurses := true, apart := false, narrowed := true }
def FnPressedUptoSaid : Prop := fnPressedUptoRow.holds Try.pinned (OpenSpec.upto fnPressedSpec)

/-- 'laws.FnParts', WHERE WHAT IT READS IS OF BULK AT MOST 1048576: true; the input reads as it did. -/
def fnPartsUptoRow : OpenClaim := { program := "ytpnophmanpfejaa", sum := "6b3898e94437d4411dff52075c7240ba7020436e362c9d33073e5d4a438ce2f2", func := "loop.example/g00869/laws.FnParts", spec := "fnParts", unfollowed := true, recurses := true, apart := false, narrowed := true }
def FnPartsUptoSaid : Prop := fnPartsUptoRow.holds Try.pinned (OpenSpec.upto fnPartsSpec)

end Rows
end Go.Proofs.Ytpnophmanpfejaa
