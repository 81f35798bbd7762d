/-
  No cell of these rows narrows 'for every input' (looked for: loops, veiled, ifaces, maps, wideKeys, modest, calm, conditions, laid).
  DERIVED. THE GIVEN ROWS OF THIS SEAT. 12 by the template 'for every input the law returns true; each argument reads behind the call as it read before'; 0 by the template 'total and deterministic' (their statements: YtogapgdpcgfjhaaTotals.lean).
  GIVEN WITH THE SEED: the statements are not yours to turn. If you find one false, say at which input.
  Laid BY PROGRAM, IN A SANDBOX (cutbox-rows.mjs): the forced cells as the released guide's own fill.sh prints them over the translation 2fddbf7c5116617f… (all of the seat's roots in one cut). By AI agents, Wed Nov 11 2026. No macro, syntax, notation, axiom, sorry.
-/
import Derived.Test.YtogapgdpcgfjhaaChecked
import GoSem.Claim
import GoSem.ClaimJoined
import GoSem.ClaimMapViews
import Derived.JoinedTies
import Derived.KernelRfl
namespace Go.Proofs.Ytogapgdpcgfjhaa
/- THE CELL 'sum', in the pinned program and in every row, IS THE sha256 OF THE DUMP (.gsa) THAT YtogapgdpcgfjhaaProg.lean LOADS. Nothing in Lean hashes anything: it is a label: what it is worth is what the hold of that sum in a sandbox is worth. -/
noncomputable def Try.pinned : Pinned := { name := "ytogapgdpcgfjhaa", sum := "2fddbf7c5116617fae5b4851569c3746130995ad35d1a1d45aff1486a11d818d", checked := Try.checked }
namespace Rows
def none {H : Type} : Left H := { results := [], args := [] }

/-- 'laws.FnExactParityOk': WHATEVER THE INPUT: true; the input reads as it did. -/
def fnExactParityOkSpec : ChangeSpec := { name := "fnExactParityOk", fn := fun _ => fun
  | [d] => { results := [.lit (.bool true)], args := [d] }
  | _ => none }
def fnExactParityOkRow : OpenClaim := { program := "ytogapgdpcgfjhaa", sum := "2fddbf7c5116617fae5b4851569c3746130995ad35d1a1d45aff1486a11d818d", func := "loop.example/g00869/laws.FnExactParityOk", spec := "fnExactParityOk", apart := false }
def FnExactParityOkSaid : Prop := fnExactParityOkRow.holds Try.pinned (OpenSpec.ofChange fnExactParityOkSpec)

/-- ITS FALSE NEIGHBOUR: 'it returns false'. Refute it at one input. -/
def fnExactParityOkWrong : ChangeSpec := { name := "fnExactParityOk", fn := fun _ => fun
  | [d] => { results := [.lit (.bool false)], args := [d] }
  | _ => none }
def FnExactParityOkWrongFalsely : Prop := fnExactParityOkRow.holds Try.pinned (OpenSpec.ofChange fnExactParityOkWrong)

/-- 'laws.FnExactSameParity': WHATEVER THE INPUT: true; the input reads as it did. -/
def fnExactSameParitySpec : ChangeSpec := { name := "fnExactSameParity", fn := fun _ => fun
  | [d1, d2] => { results := [.lit (.bool true)], args := [d1, d2] }
  | _ => none }
def fnExactSameParityRow : OpenClaim := { program := "ytogapgdpcgfjhaa", sum := "2fddbf7c5116617fae5b4851569c3746130995ad35d1a1d45aff1486a11d818d", func := "loop.example/g00869/laws.FnExactSameParity", spec := "fnExactSameParity", unfollowed := true, recurses := true, apart := false }
def FnExactSameParitySaid : Prop := fnExactSameParityRow.holds Try.pinned (OpenSpec.ofChange fnExactSameParitySpec)

/-- ITS FALSE NEIGHBOUR: 'it returns false'. Refute it at one input. -/
def fnExactSameParityWrong : ChangeSpec := { name := "fnExactSameParity", fn := fun _ => fun
  | [d1, d2] => { results := [.lit (.bool false)], args := [d1, d2] }
  | _ => none }
def FnExactSameParityWrongFalsely : Prop := fnExactSameParityRow.holds Try.pinned (OpenSpec.ofChange fnExactSameParityWrong)

/-- 'laws.FnExactTopIn': WHATEVER THE INPUT: true; the input reads as it did. -/
def fnExactTopInSpec : ChangeSpec := { name := "fnExactTopIn", fn := fun _ => fun
  | [d1, d2] => { results := [.lit (.bool true)], args := [d1, d2] }
  | _ => none }
def fnExactTopInRow : OpenClaim := { program := "ytogapgdpcgfjhaa", sum := "2fddbf7c5116617fae5b4851569c3746130995ad35d1a1d45aff1486a11d818d", func := "loop.example/g00869/laws.FnExactTopIn", spec := "fnExactTopIn", apart := false }
def FnExactTopInSaid : Prop := fnExactTopInRow.holds Try.pinned (OpenSpec.ofChange fnExactTopInSpec)

/-- ITS FALSE NEIGHBOUR: 'it returns false'. Refute it at one input. -/
def fnExactTopInWrong : ChangeSpec := { name := "fnExactTopIn", fn := fun _ => fun
  | [d1, d2] => { results := [.lit (.bool false)], args := [d1, d2] }
  | _ => none }
def FnExactTopInWrongFalsely : Prop := fnExactTopInRow.holds Try.pinned (OpenSpec.ofChange fnExactTopInWrong)

/-- 'laws.FnExactWithPrio': WHATEVER THE INPUT: true; the input reads as it did. -/
def fnExactWithPrioSpec : ChangeSpec := { name := "fnExactWithPrio", fn := fun _ => fun
  | [d1, d2, d3] => { results := [.lit (.bool true)], args := [d1, d2, d3] }
  | _ => none }
def fnExactWithPrioRow : OpenClaim := { program := "ytogapgdpcgfjhaa", sum := "2fddbf7c5116617fae5b4851569c3746130995ad35d1a1d45aff1486a11d818d", func := "loop.example/g00869/laws.FnExactWithPrio", spec := "fnExactWithPrio", apart := false }
def FnExactWithPrioSaid : Prop := fnExactWithPrioRow.holds Try.pinned (OpenSpec.ofChange fnExactWithPrioSpec)

/-- ITS FALSE NEIGHBOUR: 'it returns false'. Refute it at one input. -/
def fnExactWithPrioWrong : ChangeSpec := { name := "fnExactWithPrio", fn := fun _ => fun
  | [d1, d2, d3] => { results := [.lit (.bool false)], args := [d1, d2, d3] }
  | _ => none }
def FnExactWithPrioWrongFalsely : Prop := fnExactWithPrioRow.holds Try.pinned (OpenSpec.ofChange fnExactWithPrioWrong)

/-- 'laws.FnExactLeastFull': WHATEVER THE INPUT: true; the input reads as it did. -/
def fnExactLeastFullSpec : ChangeSpec := { name := "fnExactLeastFull", fn := fun _ => fun
  | [d1, d2] => { results := [.lit (.bool true)], args := [d1, d2] }
  | _ => none }
def fnExactLeastFullRow : OpenClaim := { program := "ytogapgdpcgfjhaa", sum := "2fddbf7c5116617fae5b4851569c3746130995ad35d1a1d45aff1486a11d818d", func := "loop.example/g00869/laws.FnExactLeastFull", spec := "fnExactLeastFull", apart := false }
def FnExactLeastFullSaid : Prop := fnExactLeastFullRow.holds Try.pinned (OpenSpec.ofChange fnExactLeastFullSpec)

/-- ITS FALSE NEIGHBOUR: 'it returns false'. Refute it at one input. -/
def fnExactLeastFullWrong : ChangeSpec := { name := "fnExactLeastFull", fn := fun _ => fun
  | [d1, d2] => { results := [.lit (.bool false)], args := [d1, d2] }
  | _ => none }
def FnExactLeastFullWrongFalsely : Prop := fnExactLeastFullRow.holds Try.pinned (OpenSpec.ofChange fnExactLeastFullWrong)

/-- 'laws.FnExactFullIn': WHATEVER THE INPUT: true; the input reads as it did. -/
def fnExactFullInSpec : ChangeSpec := { name := "fnExactFullIn", fn := fun _ => fun
  | [d1, d2, d3] => { results := [.lit (.bool true)], args := [d1, d2, d3] }
  | _ => none }
def fnExactFullInRow : OpenClaim := { program := "ytogapgdpcgfjhaa", sum := "2fddbf7c5116617fae5b4851569c3746130995ad35d1a1d45aff1486a11d818d", func := "loop.example/g00869/laws.FnExactFullIn", spec := "fnExactFullIn", apart := false }
def FnExactFullInSaid : Prop := fnExactFullInRow.holds Try.pinned (OpenSpec.ofChange fnExactFullInSpec)

/-- ITS FALSE NEIGHBOUR: 'it returns false'. Refute it at one input. -/
def fnExactFullInWrong : ChangeSpec := { name := "fnExactFullIn", fn := fun _ => fun
  | [d1, d2, d3] => { results := [.lit (.bool false)], args := [d1, d2, d3] }
  | _ => none }
def FnExactFullInWrongFalsely : Prop := fnExactFullInRow.holds Try.pinned (OpenSpec.ofChange fnExactFullInWrong)

/-- 'laws.FnExactTrapIn': WHATEVER THE INPUT: true; the input reads as it did. -/
def fnExactTrapInSpec : ChangeSpec := { name := "fnExactTrapIn", fn := fun _ => fun
  | [d1, d2, d3] => { results := [.lit (.bool true)], args := [d1, d2, d3] }
  | _ => none }
def fnExactTrapInRow : OpenClaim := { program := "ytogapgdpcgfjhaa", sum := "2fddbf7c5116617fae5b4851569c3746130995ad35d1a1d45aff1486a11d818d", func := "loop.example/g00869/laws.FnExactTrapIn", spec := "fnExactTrapIn", apart := false }
def FnExactTrapInSaid : Prop := fnExactTrapInRow.holds Try.pinned (OpenSpec.ofChange fnExactTrapInSpec)

/-- ITS FALSE NEIGHBOUR: 'it returns false'. Refute it at one input. -/
def fnExactTrapInWrong : ChangeSpec := { name := "fnExactTrapIn", fn := fun _ => fun
  | [d1, d2, d3] => { results := [.lit (.bool false)], args := [d1, d2, d3] }
  | _ => none }
def FnExactTrapInWrongFalsely : Prop := fnExactTrapInRow.holds Try.pinned (OpenSpec.ofChange fnExactTrapInWrong)

/-- 'laws.FnExactEscapesIn': WHATEVER THE INPUT: true; the input reads as it did. -/
def fnExactEscapesInSpec : ChangeSpec := { name := "fnExactEscapesIn", fn := fun _ => fun
  | [d1, d2, d3] => { results := [.lit (.bool true)], args := [d1, d2, d3] }
  | _ => none }
def fnExactEscapesInRow : OpenClaim := { program := "ytogapgdpcgfjhaa", sum := "2fddbf7c5116617fae5b4851569c3746130995ad35d1a1d45aff1486a11d818d", func := "loop.example/g00869/laws.FnExactEscapesIn", spec := "fnExactEscapesIn", apart := false }
def FnExactEscapesInSaid : Prop := fnExactEscapesInRow.holds Try.pinned (OpenSpec.ofChange fnExactEscapesInSpec)

/-- ITS FALSE NEIGHBOUR: 'it returns false'. Refute it at one input. -/
def fnExactEscapesInWrong : ChangeSpec := { name := "fnExactEscapesIn", fn := fun _ => fun
  | [d1, d2, d3] => { results := [.lit (.bool false)], args := [d1, d2, d3] }
  | _ => none }
def FnExactEscapesInWrongFalsely : Prop := fnExactEscapesInRow.holds Try.pinned (OpenSpec.ofChange fnExactEscapesInWrong)

/-- 'laws.FnExactPredsOf': WHATEVER THE INPUT: true; the input reads as it did. -/
def fnExactPredsOfSpec : ChangeSpec := { name := "fnExactPredsOf", fn := fun _ => fun
  | [d1, d2] => { results := [.lit (.bool true)], args := [d1, d2] }
  | _ => none }
def fnExactPredsOfRow : OpenClaim := { program := "ytogapgdpcgfjhaa", sum := "2fddbf7c5116617fae5b4851569c3746130995ad35d1a1d45aff1486a11d818d", func := "loop.example/g00869/laws.FnExactPredsOf", spec := "fnExactPredsOf", apart := false }
def FnExactPredsOfSaid : Prop := fnExactPredsOfRow.holds Try.pinned (OpenSpec.ofChange fnExactPredsOfSpec)

/-- ITS FALSE NEIGHBOUR: 'it returns false'. Refute it at one input. -/
def fnExactPredsOfWrong : ChangeSpec := { name := "fnExactPredsOf", fn := fun _ => fun
  | [d1, d2] => { results := [.lit (.bool false)], args := [d1, d2] }
  | _ => none }
def FnExactPredsOfWrongFalsely : Prop := fnExactPredsOfRow.holds Try.pinned (OpenSpec.ofChange fnExactPredsOfWrong)

/-- 'laws.FnExactTurned': WHATEVER THE INPUT: true; the input reads as it did. -/
def fnExactTurnedSpec : ChangeSpec := { name := "fnExactTurned", fn := fun _ => fun
  | [d] => { results := [.lit (.bool true)], args := [d] }
  | _ => none }
def fnExactTurnedRow : OpenClaim := { program := "ytogapgdpcgfjhaa", sum := "2fddbf7c5116617fae5b4851569c3746130995ad35d1a1d45aff1486a11d818d", func := "loop.example/g00869/laws.FnExactTurned", spec := "fnExactTurned", apart := false }
def FnExactTurnedSaid : Prop := fnExactTurnedRow.holds Try.pinned (OpenSpec.ofChange fnExactTurnedSpec)

/-- ITS FALSE NEIGHBOUR: 'it returns false'. Refute it at one input. -/
def fnExactTurnedWrong : ChangeSpec := { name := "fnExactTurned", fn := fun _ => fun
  | [d] => { results := [.lit (.bool false)], args := [d] }
  | _ => none }
def FnExactTurnedWrongFalsely : Prop := fnExactTurnedRow.holds Try.pinned (OpenSpec.ofChange fnExactTurnedWrong)

/-- 'laws.FnExactLassoOk': WHATEVER THE INPUT: true; the input reads as it did. -/
def fnExactLassoOkSpec : ChangeSpec := { name := "fnExactLassoOk", fn := fun _ => fun
  | [d1, d2] => { results := [.lit (.bool true)], args := [d1, d2] }
  | _ => none }
def fnExactLassoOkRow : OpenClaim := { program := "ytogapgdpcgfjhaa", sum := "2fddbf7c5116617fae5b4851569c3746130995ad35d1a1d45aff1486a11d818d", func := "loop.example/g00869/laws.FnExactLassoOk", spec := "fnExactLassoOk", apart := false }
def FnExactLassoOkSaid : Prop := fnExactLassoOkRow.holds Try.pinned (OpenSpec.ofChange fnExactLassoOkSpec)

/-- ITS FALSE NEIGHBOUR: 'it returns false'. Refute it at one input. -/
def fnExactLassoOkWrong : ChangeSpec := { name := "fnExactLassoOk", fn := fun _ => fun
  | [d1, d2] => { results := [.lit (.bool false)], args := [d1, d2] }
  | _ => none }
def FnExactLassoOkWrongFalsely : Prop := fnExactLassoOkRow.holds Try.pinned (OpenSpec.ofChange fnExactLassoOkWrong)

/-- 'laws.FnExactPlayWon': WHATEVER THE INPUT: true; the input reads as it did. -/
def fnExactPlayWonSpec : ChangeSpec := { name := "fnExactPlayWon", fn := fun _ => fun
  | [d1, d2] => { results := [.lit (.bool true)], args := [d1, d2] }
  | _ => none }
def fnExactPlayWonRow : OpenClaim := { program := "ytogapgdpcgfjhaa", sum := "2fddbf7c5116617fae5b4851569c3746130995ad35d1a1d45aff1486a11d818d", func := "loop.example/g00869/laws.FnExactPlayWon", spec := "fnExactPlayWon", apart := false }
def FnExactPlayWonSaid : Prop := fnExactPlayWonRow.holds Try.pinned (OpenSpec.ofChange fnExactPlayWonSpec)

/-- ITS FALSE NEIGHBOUR: 'it returns false'. Refute it at one input. -/
def fnExactPlayWonWrong : ChangeSpec := { name := "fnExactPlayWon", fn := fun _ => fun
  | [d1, d2] => { results := [.lit (.bool false)], args := [d1, d2] }
  | _ => none }
def FnExactPlayWonWrongFalsely : Prop := fnExactPlayWonRow.holds Try.pinned (OpenSpec.ofChange fnExactPlayWonWrong)

/- THE SECOND FORM. 'bulk': how many values and letters a reading holds, each counted each time it is reached (what is shared counts as often as it is met; a slice's spare places count too). A statement '..UptoSaid' is the law's where the arguments, and the package variables that the reading takes, are together of bulk at most 1048576: NARROWER than '..Said'. Prove '..Said' where nothing that the law and all that it calls make is longer than what came in: it says more and counts as full. Else prove '..UptoSaid'. A law counts once. -/
mutual
def uptoBulk {H : Type} : DataW H → Nat
  | .lit (.string bytes) => bytes.length + 1
  | .lit _ => 1
  | .nil => 1
  | .ptr d => uptoBulk d + 1
  | .slice elems spare => uptoBulkAll elems + uptoBulkAll spare + 1
  | .agg parts => uptoBulkAll parts + 1
  | .iface _ d => uptoBulk d + 1
  | .map entries => uptoBulkEntries entries + 1
  | .held _ => 1
def uptoBulkAll {H : Type} : List (DataW H) → Nat
  | [] => 0
  | d :: r => uptoBulk d + uptoBulkAll r
def uptoBulkEntries {H : Type} : List (Lit × DataW H) → Nat
  | [] => 0
  | x :: r => uptoBulkEntry x + uptoBulkEntries r
def uptoBulkEntry {H : Type} : Lit × DataW H → Nat
  | (.string bytes, d) => bytes.length + uptoBulk d + 1
  | (_, d) => uptoBulk d + 1
 end
def uptoSmall : (H : Type) → List (DataW H) → Bool := fun _ ds => decide (uptoBulkAll ds ≤ 1048576)
def OpenSpec.upto (s : _root_.Go.ChangeSpec) : _root_.Go.OpenSpec := { _root_.Go.OpenSpec.ofChange s with cond := some uptoSmall }

/-- 'laws.FnExactParityOk', WHERE WHAT IT READS IS OF BULK AT MOST 1048576: true; the input reads as it did. -/
def fnExactParityOkUptoRow : OpenClaim := { program := "ytogapgdpcgfjhaa", sum := "2fddbf7c5116617fae5b4851569c3746130995ad35d1a1d45aff1486a11d818d", func := "loop.example/g00869/laws.FnExactParityOk", spec := "fnExactParityOk", apart := false, narrowed := true }
def FnExactParityOkUptoSaid : Prop := fnExactParityOkUptoRow.holds Try.pinned (OpenSpec.upto fnExactParityOkSpec)

/-- 'laws.FnExactSameParity', WHERE WHAT IT READS IS OF BULK AT MOST 1048576: true; the input reads as it did. -/
def fnExactSameParityUptoRow : OpenClaim := { program := "ytogapgdpcgfjhaa", sum := "2fddbf7c5116617fae5b4851569c3746130995ad35d1a1d45aff1486a11d818d", func := "loop.example/g00869/laws.FnExactSameParity", spec := "fnExactSameParity", unfollowed := true, recurses := true, apart := false, narrowed := true }
def FnExactSameParityUptoSaid : Prop := fnExactSameParityUptoRow.holds Try.pinned (OpenSpec.upto fnExactSameParitySpec)

/-- 'laws.FnExactTopIn', WHERE WHAT IT READS IS OF BULK AT MOST 1048576: true; the input reads as it did. -/
def fnExactTopInUptoRow : OpenClaim := { program := "ytogapgdpcgfjhaa", sum := "2fddbf7c5116617fae5b4851569c3746130995ad35d1a1d45aff1486a11d818d", func := "loop.example/g00869/laws.FnExactTopIn", spec := "fnExactTopIn", apart := false, narrowed := true }
def FnExactTopInUptoSaid : Prop := fnExactTopInUptoRow.holds Try.pinned (OpenSpec.upto fnExactTopInSpec)

/-- 'laws.FnExactWithPrio', WHERE WHAT IT READS IS OF BULK AT MOST 1048576: true; the input reads as it did. -/
def fnExactWithPrioUptoRow : OpenClaim := { program := "ytogapgdpcgfjhaa", sum := "2fddbf7c5116617fae5b4851569c3746130995ad35d1a1d45aff1486a11d818d", func := "loop.example/g00869/laws.FnExactWithPrio", spec := "fnExactWithPrio", apart := false, narrowed := true }
def FnExactWithPrioUptoSaid : Prop := fnExactWithPrioUptoRow.holds Try.pinned (OpenSpec.upto fnExactWithPrioSpec)

/-- 'laws.FnExactLeastFull', WHERE WHAT IT READS IS OF BULK AT MOST 1048576: true; the input reads as it did. -/
def fnExactLeastFullUptoRow : OpenClaim := { program := "ytogapgdpcgfjhaa", sum := "2fddbf7c5116617fae5b4851569c3746130995ad35d1a1d45aff1486a11d818d", func := "loop.example/g00869/laws.FnExactLeastFull", spec := "fnExactLeastFull", apart := false, narrowed := true }
def FnExactLeastFullUptoSaid : Prop := fnExactLeastFullUptoRow.holds Try.pinned (OpenSpec.upto fnExactLeastFullSpec)

/-- 'laws.FnExactFullIn', WHERE WHAT IT READS IS OF BULK AT MOST 1048576: true; the input reads as it did. -/
def fnExactFullInUptoRow : OpenClaim := { program := "ytogapgdpcgfjhaa", sum := "2fddbf7c5116617fae5b4851569c3746130995ad35d1a1d45aff1486a11d818d", func := "loop.example/g00869/laws.FnExactFullIn", spec := "fnExactFullIn", apart := false, narrowed := true }
def FnExactFullInUptoSaid : Prop := fnExactFullInUptoRow.holds Try.pinned (OpenSpec.upto fnExactFullInSpec)

/-- 'laws.FnExactTrapIn', WHERE WHAT IT READS IS OF BULK AT MOST 1048576: true; the input reads as it did. -/
def fnExactTrapInUptoRow : OpenClaim := { program := "ytogapgdpcgfjhaa", sum := "2fddbf7c5116617fae5b4851569c3746130995ad35d1a1d45aff1486a11d818d", func := "loop.example/g00869/laws.FnExactTrapIn", spec := "fnExactTrapIn", apart := false, narrowed := true }
def FnExactTrapInUptoSaid : Prop := fnExactTrapInUptoRow.holds Try.pinned (OpenSpec.upto fnExactTrapInSpec)

/-- 'laws.FnExactEscapesIn', WHERE WHAT IT READS IS OF BULK AT MOST 1048576: true; the input reads as it did. -/
def fnExactEscapesInUptoRow : OpenClaim := { program := "ytogapgdpcgfjhaa", sum := "2fddbf7c5116617fae5b4851569c3746130995ad35d1a1d45aff1486a11d818d", func := "loop.example/g00869/laws.FnExactEscapesIn", spec := "fnExactEscapesIn", apart := false, narrowed := true }
def FnExactEscapesInUptoSaid : Prop := fnExactEscapesInUptoRow.holds Try.pinned (OpenSpec.upto fnExactEscapesInSpec)

/-- 'laws.FnExactPredsOf', WHERE WHAT IT READS IS OF BULK AT MOST 1048576: true; the input reads as it did. -/
def fnExactPredsOfUptoRow : OpenClaim := { program := "ytogapgdpcgfjhaa", sum := "2fddbf7c5116617fae5b4851569c3746130995ad35d1a1d45aff1486a11d818d", func := "loop.example/g00869/laws.FnExactPredsOf", spec := "fnExactPredsOf", apart := false, narrowed := true }
def FnExactPredsOfUptoSaid : Prop := fnExactPredsOfUptoRow.holds Try.pinned (OpenSpec.upto fnExactPredsOfSpec)

/-- 'laws.FnExactTurned', WHERE WHAT IT READS IS OF BULK AT MOST 1048576: true; the input reads as it did. -/
def fnExactTurnedUptoRow : OpenClaim := { program := "ytogapgdpcgfjhaa", sum := "2fddbf7c5116617fae5b4851569c3746130995ad35d1a1d45aff1486a11d818d", func := "loop.example/g00869/laws.FnExactTurned", spec := "fnExactTurned", apart := false, narrowed := true }
def FnExactTurnedUptoSaid : Prop := fnExactTurnedUptoRow.holds Try.pinned (OpenSpec.upto fnExactTurnedSpec)

/-- 'laws.FnExactLassoOk', WHERE WHAT IT READS IS OF BULK AT MOST 1048576: true; the input reads as it did. -/
def fnExactLassoOkUptoRow : OpenClaim := { program := "ytogapgdpcgfjhaa", sum := "2fddbf7c5116617fae5b4851569c3746130995ad35d1a1d45aff1486a11d818d", func := "loop.example/g00869/laws.FnExactLassoOk", spec := "fnExactLassoOk", apart := false, narrowed := true }
def FnExactLassoOkUptoSaid : Prop := fnExactLassoOkUptoRow.holds Try.pinned (OpenSpec.upto fnExactLassoOkSpec)

/-- 'laws.FnExactPlayWon', WHERE WHAT IT READS IS OF BULK AT MOST 1048576: true; the input reads as it did. -/
def fnExactPlayWonUptoRow : OpenClaim := { program := "ytogapgdpcgfjhaa", sum := "2fddbf7c5116617fae5b4851569c3746130995ad35d1a1d45aff1486a11d818d", func := "loop.example/g00869/laws.FnExactPlayWon", spec := "fnExactPlayWon", apart := false, narrowed := true }
def FnExactPlayWonUptoSaid : Prop := fnExactPlayWonUptoRow.holds Try.pinned (OpenSpec.upto fnExactPlayWonSpec)

end Rows
end Go.Proofs.Ytogapgdpcgfjhaa
