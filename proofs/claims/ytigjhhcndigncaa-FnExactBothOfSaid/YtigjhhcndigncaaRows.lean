/-
  No cell of these rows narrows 'for every input' (looked for: loops, veiled, ifaces, maps, wideKeys, modest, calm, conditions, laid).
  DERIVED. THE GIVEN ROWS OF THIS SEAT. 12 by the template 'for every input the law returns true; each argument reads behind the call as it read before'; 0 by the template 'total and deterministic' (their statements: YtigjhhcndigncaaTotals.lean).
  GIVEN WITH THE SEED: the statements are not yours to turn. If you find one false, say at which input.
  Laid BY PROGRAM, IN A SANDBOX (cutbox-rows.mjs): the forced cells as the released guide's own fill.sh prints them over the translation 1fcab2315c2b7c56… (all of the seat's roots in one cut). By AI agents, Wed Nov 11 2026. No macro, syntax, notation, axiom, sorry.
-/
import Derived.Test.YtigjhhcndigncaaChecked
import GoSem.Claim
import GoSem.ClaimJoined
import GoSem.ClaimMapViews
import Derived.JoinedTies
import Derived.KernelRfl
namespace Go.Proofs.Ytigjhhcndigncaa
/- THE CELL 'sum', in the pinned program and in every row, IS THE sha256 OF THE DUMP (.gsa) THAT YtigjhhcndigncaaProg.lean LOADS. Nothing in Lean hashes anything: it is a label: what it is worth is what the hold of that sum in a sandbox is worth. -/
noncomputable def Try.pinned : Pinned := { name := "ytigjhhcndigncaa", sum := "1fcab2315c2b7c561259b8982012c8a1b8af66bdea1ff62094ac93137899b535", checked := Try.checked }
namespace Rows
def none {H : Type} : Left H := { results := [], args := [] }

/-- 'laws.FnExactReachOf': WHATEVER THE INPUT: true; the input reads as it did. -/
def fnExactReachOfSpec : ChangeSpec := { name := "fnExactReachOf", fn := fun _ => fun
  | [d1, d2] => { results := [.lit (.bool true)], args := [d1, d2] }
  | _ => none }
def fnExactReachOfRow : OpenClaim := { program := "ytigjhhcndigncaa", sum := "1fcab2315c2b7c561259b8982012c8a1b8af66bdea1ff62094ac93137899b535", func := "loop.example/g00869/laws.FnExactReachOf", spec := "fnExactReachOf", apart := false }
def FnExactReachOfSaid : Prop := fnExactReachOfRow.holds Try.pinned (OpenSpec.ofChange fnExactReachOfSpec)

/-- ITS FALSE NEIGHBOUR: 'it returns false'. Refute it at one input. -/
def fnExactReachOfWrong : ChangeSpec := { name := "fnExactReachOf", fn := fun _ => fun
  | [d1, d2] => { results := [.lit (.bool false)], args := [d1, d2] }
  | _ => none }
def FnExactReachOfWrongFalsely : Prop := fnExactReachOfRow.holds Try.pinned (OpenSpec.ofChange fnExactReachOfWrong)

/-- 'laws.FnExactInsideOf': WHATEVER THE INPUT: true; the input reads as it did. -/
def fnExactInsideOfSpec : ChangeSpec := { name := "fnExactInsideOf", fn := fun _ => fun
  | [d1, d2] => { results := [.lit (.bool true)], args := [d1, d2] }
  | _ => none }
def fnExactInsideOfRow : OpenClaim := { program := "ytigjhhcndigncaa", sum := "1fcab2315c2b7c561259b8982012c8a1b8af66bdea1ff62094ac93137899b535", func := "loop.example/g00869/laws.FnExactInsideOf", spec := "fnExactInsideOf", apart := false }
def FnExactInsideOfSaid : Prop := fnExactInsideOfRow.holds Try.pinned (OpenSpec.ofChange fnExactInsideOfSpec)

/-- ITS FALSE NEIGHBOUR: 'it returns false'. Refute it at one input. -/
def fnExactInsideOfWrong : ChangeSpec := { name := "fnExactInsideOf", fn := fun _ => fun
  | [d1, d2] => { results := [.lit (.bool false)], args := [d1, d2] }
  | _ => none }
def FnExactInsideOfWrongFalsely : Prop := fnExactInsideOfRow.holds Try.pinned (OpenSpec.ofChange fnExactInsideOfWrong)

/-- 'laws.FnExactSubgameOf': WHATEVER THE INPUT: true; the input reads as it did. -/
def fnExactSubgameOfSpec : ChangeSpec := { name := "fnExactSubgameOf", fn := fun _ => fun
  | [d1, d2] => { results := [.lit (.bool true)], args := [d1, d2] }
  | _ => none }
def fnExactSubgameOfRow : OpenClaim := { program := "ytigjhhcndigncaa", sum := "1fcab2315c2b7c561259b8982012c8a1b8af66bdea1ff62094ac93137899b535", func := "loop.example/g00869/laws.FnExactSubgameOf", spec := "fnExactSubgameOf", apart := false }
def FnExactSubgameOfSaid : Prop := fnExactSubgameOfRow.holds Try.pinned (OpenSpec.ofChange fnExactSubgameOfSpec)

/-- ITS FALSE NEIGHBOUR: 'it returns false'. Refute it at one input. -/
def fnExactSubgameOfWrong : ChangeSpec := { name := "fnExactSubgameOf", fn := fun _ => fun
  | [d1, d2] => { results := [.lit (.bool false)], args := [d1, d2] }
  | _ => none }
def FnExactSubgameOfWrongFalsely : Prop := fnExactSubgameOfRow.holds Try.pinned (OpenSpec.ofChange fnExactSubgameOfWrong)

/-- 'laws.FnExactFixedBy': WHATEVER THE INPUT: true; the input reads as it did. -/
def fnExactFixedBySpec : ChangeSpec := { name := "fnExactFixedBy", fn := fun _ => fun
  | [d1, d2, d3] => { results := [.lit (.bool true)], args := [d1, d2, d3] }
  | _ => none }
def fnExactFixedByRow : OpenClaim := { program := "ytigjhhcndigncaa", sum := "1fcab2315c2b7c561259b8982012c8a1b8af66bdea1ff62094ac93137899b535", func := "loop.example/g00869/laws.FnExactFixedBy", spec := "fnExactFixedBy", apart := false }
def FnExactFixedBySaid : Prop := fnExactFixedByRow.holds Try.pinned (OpenSpec.ofChange fnExactFixedBySpec)

/-- ITS FALSE NEIGHBOUR: 'it returns false'. Refute it at one input. -/
def fnExactFixedByWrong : ChangeSpec := { name := "fnExactFixedBy", fn := fun _ => fun
  | [d1, d2, d3] => { results := [.lit (.bool false)], args := [d1, d2, d3] }
  | _ => none }
def FnExactFixedByWrongFalsely : Prop := fnExactFixedByRow.holds Try.pinned (OpenSpec.ofChange fnExactFixedByWrong)

/-- 'laws.FnExactClosedIn': WHATEVER THE INPUT: true; the input reads as it did. -/
def fnExactClosedInSpec : ChangeSpec := { name := "fnExactClosedIn", fn := fun _ => fun
  | [d1, d2, d3, d4] => { results := [.lit (.bool true)], args := [d1, d2, d3, d4] }
  | _ => none }
def fnExactClosedInRow : OpenClaim := { program := "ytigjhhcndigncaa", sum := "1fcab2315c2b7c561259b8982012c8a1b8af66bdea1ff62094ac93137899b535", func := "loop.example/g00869/laws.FnExactClosedIn", spec := "fnExactClosedIn", apart := false }
def FnExactClosedInSaid : Prop := fnExactClosedInRow.holds Try.pinned (OpenSpec.ofChange fnExactClosedInSpec)

/-- ITS FALSE NEIGHBOUR: 'it returns false'. Refute it at one input. -/
def fnExactClosedInWrong : ChangeSpec := { name := "fnExactClosedIn", fn := fun _ => fun
  | [d1, d2, d3, d4] => { results := [.lit (.bool false)], args := [d1, d2, d3, d4] }
  | _ => none }
def FnExactClosedInWrongFalsely : Prop := fnExactClosedInRow.holds Try.pinned (OpenSpec.ofChange fnExactClosedInWrong)

/-- 'laws.FnExactRanksIn': WHATEVER THE INPUT: true; the input reads as it did. -/
def fnExactRanksInSpec : ChangeSpec := { name := "fnExactRanksIn", fn := fun _ => fun
  | [d1, d2, d3, d4] => { results := [.lit (.bool true)], args := [d1, d2, d3, d4] }
  | _ => none }
def fnExactRanksInRow : OpenClaim := { program := "ytigjhhcndigncaa", sum := "1fcab2315c2b7c561259b8982012c8a1b8af66bdea1ff62094ac93137899b535", func := "loop.example/g00869/laws.FnExactRanksIn", spec := "fnExactRanksIn", apart := false }
def FnExactRanksInSaid : Prop := fnExactRanksInRow.holds Try.pinned (OpenSpec.ofChange fnExactRanksInSpec)

/-- ITS FALSE NEIGHBOUR: 'it returns false'. Refute it at one input. -/
def fnExactRanksInWrong : ChangeSpec := { name := "fnExactRanksIn", fn := fun _ => fun
  | [d1, d2, d3, d4] => { results := [.lit (.bool false)], args := [d1, d2, d3, d4] }
  | _ => none }
def FnExactRanksInWrongFalsely : Prop := fnExactRanksInRow.holds Try.pinned (OpenSpec.ofChange fnExactRanksInWrong)

/-- 'laws.FnExactAttract': WHATEVER THE INPUT: true; the input reads as it did. -/
def fnExactAttractSpec : ChangeSpec := { name := "fnExactAttract", fn := fun _ => fun
  | [d1, d2, d3, d4] => { results := [.lit (.bool true)], args := [d1, d2, d3, d4] }
  | _ => none }
def fnExactAttractRow : OpenClaim := { program := "ytigjhhcndigncaa", sum := "1fcab2315c2b7c561259b8982012c8a1b8af66bdea1ff62094ac93137899b535", func := "loop.example/g00869/laws.FnExactAttract", spec := "fnExactAttract", apart := false }
def FnExactAttractSaid : Prop := fnExactAttractRow.holds Try.pinned (OpenSpec.ofChange fnExactAttractSpec)

/-- ITS FALSE NEIGHBOUR: 'it returns false'. Refute it at one input. -/
def fnExactAttractWrong : ChangeSpec := { name := "fnExactAttract", fn := fun _ => fun
  | [d1, d2, d3, d4] => { results := [.lit (.bool false)], args := [d1, d2, d3, d4] }
  | _ => none }
def FnExactAttractWrongFalsely : Prop := fnExactAttractRow.holds Try.pinned (OpenSpec.ofChange fnExactAttractWrong)

/-- 'laws.FnExactPullIn': WHATEVER THE INPUT: true; the input reads as it did. -/
def fnExactPullInSpec : ChangeSpec := { name := "fnExactPullIn", fn := fun _ => fun
  | [d1, d2, d3, d4] => { results := [.lit (.bool true)], args := [d1, d2, d3, d4] }
  | _ => none }
def fnExactPullInRow : OpenClaim := { program := "ytigjhhcndigncaa", sum := "1fcab2315c2b7c561259b8982012c8a1b8af66bdea1ff62094ac93137899b535", func := "loop.example/g00869/laws.FnExactPullIn", spec := "fnExactPullIn", apart := false }
def FnExactPullInSaid : Prop := fnExactPullInRow.holds Try.pinned (OpenSpec.ofChange fnExactPullInSpec)

/-- ITS FALSE NEIGHBOUR: 'it returns false'. Refute it at one input. -/
def fnExactPullInWrong : ChangeSpec := { name := "fnExactPullIn", fn := fun _ => fun
  | [d1, d2, d3, d4] => { results := [.lit (.bool false)], args := [d1, d2, d3, d4] }
  | _ => none }
def FnExactPullInWrongFalsely : Prop := fnExactPullInRow.holds Try.pinned (OpenSpec.ofChange fnExactPullInWrong)

/-- 'laws.FnExactPlayOf': WHATEVER THE INPUT: true; the input reads as it did. -/
def fnExactPlayOfSpec : ChangeSpec := { name := "fnExactPlayOf", fn := fun _ => fun
  | [d1, d2, d3, d4] => { results := [.lit (.bool true)], args := [d1, d2, d3, d4] }
  | _ => none }
def fnExactPlayOfRow : OpenClaim := { program := "ytigjhhcndigncaa", sum := "1fcab2315c2b7c561259b8982012c8a1b8af66bdea1ff62094ac93137899b535", func := "loop.example/g00869/laws.FnExactPlayOf", spec := "fnExactPlayOf", apart := false }
def FnExactPlayOfSaid : Prop := fnExactPlayOfRow.holds Try.pinned (OpenSpec.ofChange fnExactPlayOfSpec)

/-- ITS FALSE NEIGHBOUR: 'it returns false'. Refute it at one input. -/
def fnExactPlayOfWrong : ChangeSpec := { name := "fnExactPlayOf", fn := fun _ => fun
  | [d1, d2, d3, d4] => { results := [.lit (.bool false)], args := [d1, d2, d3, d4] }
  | _ => none }
def FnExactPlayOfWrongFalsely : Prop := fnExactPlayOfRow.holds Try.pinned (OpenSpec.ofChange fnExactPlayOfWrong)

/-- 'laws.FnExactOnlyBy': WHATEVER THE INPUT: true; the input reads as it did. -/
def fnExactOnlyBySpec : ChangeSpec := { name := "fnExactOnlyBy", fn := fun _ => fun
  | [d1, d2] => { results := [.lit (.bool true)], args := [d1, d2] }
  | _ => none }
def fnExactOnlyByRow : OpenClaim := { program := "ytigjhhcndigncaa", sum := "1fcab2315c2b7c561259b8982012c8a1b8af66bdea1ff62094ac93137899b535", func := "loop.example/g00869/laws.FnExactOnlyBy", spec := "fnExactOnlyBy", apart := false }
def FnExactOnlyBySaid : Prop := fnExactOnlyByRow.holds Try.pinned (OpenSpec.ofChange fnExactOnlyBySpec)

/-- ITS FALSE NEIGHBOUR: 'it returns false'. Refute it at one input. -/
def fnExactOnlyByWrong : ChangeSpec := { name := "fnExactOnlyBy", fn := fun _ => fun
  | [d1, d2] => { results := [.lit (.bool false)], args := [d1, d2] }
  | _ => none }
def FnExactOnlyByWrongFalsely : Prop := fnExactOnlyByRow.holds Try.pinned (OpenSpec.ofChange fnExactOnlyByWrong)

/-- 'laws.FnExactPartOf': WHATEVER THE INPUT: true; the input reads as it did. -/
def fnExactPartOfSpec : ChangeSpec := { name := "fnExactPartOf", fn := fun _ => fun
  | [d1, d2, d3] => { results := [.lit (.bool true)], args := [d1, d2, d3] }
  | _ => none }
def fnExactPartOfRow : OpenClaim := { program := "ytigjhhcndigncaa", sum := "1fcab2315c2b7c561259b8982012c8a1b8af66bdea1ff62094ac93137899b535", func := "loop.example/g00869/laws.FnExactPartOf", spec := "fnExactPartOf", apart := false }
def FnExactPartOfSaid : Prop := fnExactPartOfRow.holds Try.pinned (OpenSpec.ofChange fnExactPartOfSpec)

/-- ITS FALSE NEIGHBOUR: 'it returns false'. Refute it at one input. -/
def fnExactPartOfWrong : ChangeSpec := { name := "fnExactPartOf", fn := fun _ => fun
  | [d1, d2, d3] => { results := [.lit (.bool false)], args := [d1, d2, d3] }
  | _ => none }
def FnExactPartOfWrongFalsely : Prop := fnExactPartOfRow.holds Try.pinned (OpenSpec.ofChange fnExactPartOfWrong)

/-- 'laws.FnExactBothOf': WHATEVER THE INPUT: true; the input reads as it did. -/
def fnExactBothOfSpec : ChangeSpec := { name := "fnExactBothOf", fn := fun _ => fun
  | [d1, d2] => { results := [.lit (.bool true)], args := [d1, d2] }
  | _ => none }
def fnExactBothOfRow : OpenClaim := { program := "ytigjhhcndigncaa", sum := "1fcab2315c2b7c561259b8982012c8a1b8af66bdea1ff62094ac93137899b535", func := "loop.example/g00869/laws.FnExactBothOf", spec := "fnExactBothOf", recurses := true, apart := false }
def FnExactBothOfSaid : Prop := fnExactBothOfRow.holds Try.pinned (OpenSpec.ofChange fnExactBothOfSpec)

/-- ITS FALSE NEIGHBOUR: 'it returns false'. Refute it at one input. -/
def fnExactBothOfWrong : ChangeSpec := { name := "fnExactBothOf", fn := fun _ => fun
  | [d1, d2] => { results := [.lit (.bool false)], args := [d1, d2] }
  | _ => none }
def FnExactBothOfWrongFalsely : Prop := fnExactBothOfRow.holds Try.pinned (OpenSpec.ofChange fnExactBothOfWrong)

/- THE SECOND FORM. 'bulk': how many values and letters a reading holds, each counted each time it is reached (what is shared counts as often as it is met; a slice's spare places count too). A statement '..UptoSaid' is the law's where the arguments, and the package variables that the reading takes, are together of bulk at most 1048576: NARROWER than '..Said'. Prove '..Said' where nothing that the law and all that it calls make is longer than what came in: it says more and counts as full. Else prove '..UptoSaid'. A law counts once. -/
mutual
def uptoBulk {H : Type} : DataW H → Nat
  | .lit (.string bytes) => bytes.length + 1
  | .lit _ => 1
  | .nil => 1
  | .ptr d => uptoBulk d + 1
  | .slice elems spare => uptoBulkAll elems + uptoBulkAll spare + 1
  | .agg parts => uptoBulkAll parts + 1
  | .iface _ d => uptoBulk d + 1
  | .map entries => uptoBulkEntries entries + 1
  | .held _ => 1
def uptoBulkAll {H : Type} : List (DataW H) → Nat
  | [] => 0
  | d :: r => uptoBulk d + uptoBulkAll r
def uptoBulkEntries {H : Type} : List (Lit × DataW H) → Nat
  | [] => 0
  | x :: r => uptoBulkEntry x + uptoBulkEntries r
def uptoBulkEntry {H : Type} : Lit × DataW H → Nat
  | (.string bytes, d) => bytes.length + uptoBulk d + 1
  | (_, d) => uptoBulk d + 1
 end
def uptoSmall : (H : Type) → List (DataW H) → Bool := fun _ ds => decide (uptoBulkAll ds ≤ 1048576)
def OpenSpec.upto (s : _root_.Go.ChangeSpec) : _root_.Go.OpenSpec := { _root_.Go.OpenSpec.ofChange s with cond := some uptoSmall }

/-- 'laws.FnExactReachOf', WHERE WHAT IT READS IS OF BULK AT MOST 1048576: true; the input reads as it did. -/
def fnExactReachOfUptoRow : OpenClaim := { program := "ytigjhhcndigncaa", sum := "1fcab2315c2b7c561259b8982012c8a1b8af66bdea1ff62094ac93137899b535", func := "loop.example/g00869/laws.FnExactReachOf", spec := "fnExactReachOf", apart := false, narrowed := true }
def FnExactReachOfUptoSaid : Prop := fnExactReachOfUptoRow.holds Try.pinned (OpenSpec.upto fnExactReachOfSpec)

/-- 'laws.FnExactInsideOf', WHERE WHAT IT READS IS OF BULK AT MOST 1048576: true; the input reads as it did. -/
def fnExactInsideOfUptoRow : OpenClaim := { program := "ytigjhhcndigncaa", sum := "1fcab2315c2b7c561259b8982012c8a1b8af66bdea1ff62094ac93137899b535", func := "loop.example/g00869/laws.FnExactInsideOf", spec := "fnExactInsideOf", apart := false, narrowed := true }
def FnExactInsideOfUptoSaid : Prop := fnExactInsideOfUptoRow.holds Try.pinned (OpenSpec.upto fnExactInsideOfSpec)

/-- 'laws.FnExactSubgameOf', WHERE WHAT IT READS IS OF BULK AT MOST 1048576: true; the input reads as it did. -/
def fnExactSubgameOfUptoRow : OpenClaim := { program := "ytigjhhcndigncaa", sum := "1fcab2315c2b7c561259b8982012c8a1b8af66bdea1ff62094ac93137899b535", func := "loop.example/g00869/laws.FnExactSubgameOf", spec := "fnExactSubgameOf", apart := false, narrowed := true }
def FnExactSubgameOfUptoSaid : Prop := fnExactSubgameOfUptoRow.holds Try.pinned (OpenSpec.upto fnExactSubgameOfSpec)

/-- 'laws.FnExactFixedBy', WHERE WHAT IT READS IS OF BULK AT MOST 1048576: true; the input reads as it did. -/
def fnExactFixedByUptoRow : OpenClaim := { program := "ytigjhhcndigncaa", sum := "1fcab2315c2b7c561259b8982012c8a1b8af66bdea1ff62094ac93137899b535", func := "loop.example/g00869/laws.FnExactFixedBy", spec := "fnExactFixedBy", apart := false, narrowed := true }
def FnExactFixedByUptoSaid : Prop := fnExactFixedByUptoRow.holds Try.pinned (OpenSpec.upto fnExactFixedBySpec)

/-- 'laws.FnExactClosedIn', WHERE WHAT IT READS IS OF BULK AT MOST 1048576: true; the input reads as it did. -/
def fnExactClosedInUptoRow : OpenClaim := { program := "ytigjhhcndigncaa", sum := "1fcab2315c2b7c561259b8982012c8a1b8af66bdea1ff62094ac93137899b535", func := "loop.example/g00869/laws.FnExactClosedIn", spec := "fnExactClosedIn", apart := false, narrowed := true }
def FnExactClosedInUptoSaid : Prop := fnExactClosedInUptoRow.holds Try.pinned (OpenSpec.upto fnExactClosedInSpec)

/-- 'laws.FnExactRanksIn', WHERE WHAT IT READS IS OF BULK AT MOST 1048576: true; the input reads as it did. -/
def fnExactRanksInUptoRow : OpenClaim := { program := "ytigjhhcndigncaa", sum := "1fcab2315c2b7c561259b8982012c8a1b8af66bdea1ff62094ac93137899b535", func := "loop.example/g00869/laws.FnExactRanksIn", spec := "fnExactRanksIn", apart := false, narrowed := true }
def FnExactRanksInUptoSaid : Prop := fnExactRanksInUptoRow.holds Try.pinned (OpenSpec.upto fnExactRanksInSpec)

/-- 'laws.FnExactAttract', WHERE WHAT IT READS IS OF BULK AT MOST 1048576: true; the input reads as it did. -/
def fnExactAttractUptoRow : OpenClaim := { program := "ytigjhhcndigncaa", sum := "1fcab2315c2b7c561259b8982012c8a1b8af66bdea1ff62094ac93137899b535", func := "loop.example/g00869/laws.FnExactAttract", spec := "fnExactAttract", apart := false, narrowed := true }
def FnExactAttractUptoSaid : Prop := fnExactAttractUptoRow.holds Try.pinned (OpenSpec.upto fnExactAttractSpec)

/-- 'laws.FnExactPullIn', WHERE WHAT IT READS IS OF BULK AT MOST 1048576: true; the input reads as it did. -/
def fnExactPullInUptoRow : OpenClaim := { program := "ytigjhhcndigncaa", sum := "1fcab2315c2b7c561259b8982012c8a1b8af66bdea1ff62094ac93137899b535", func := "loop.example/g00869/laws.FnExactPullIn", spec := "fnExactPullIn", apart := false, narrowed := true }
def FnExactPullInUptoSaid : Prop := fnExactPullInUptoRow.holds Try.pinned (OpenSpec.upto fnExactPullInSpec)

/-- 'laws.FnExactPlayOf', WHERE WHAT IT READS IS OF BULK AT MOST 1048576: true; the input reads as it did. -/
def fnExactPlayOfUptoRow : OpenClaim := { program := "ytigjhhcndigncaa", sum := "1fcab2315c2b7c561259b8982012c8a1b8af66bdea1ff62094ac93137899b535", func := "loop.example/g00869/laws.FnExactPlayOf", spec := "fnExactPlayOf", apart := false, narrowed := true }
def FnExactPlayOfUptoSaid : Prop := fnExactPlayOfUptoRow.holds Try.pinned (OpenSpec.upto fnExactPlayOfSpec)

/-- 'laws.FnExactOnlyBy', WHERE WHAT IT READS IS OF BULK AT MOST 1048576: true; the input reads as it did. -/
def fnExactOnlyByUptoRow : OpenClaim := { program := "ytigjhhcndigncaa", sum := "1fcab2315c2b7c561259b8982012c8a1b8af66bdea1ff62094ac93137899b535", func := "loop.example/g00869/laws.FnExactOnlyBy", spec := "fnExactOnlyBy", apart := false, narrowed := true }
def FnExactOnlyByUptoSaid : Prop := fnExactOnlyByUptoRow.holds Try.pinned (OpenSpec.upto fnExactOnlyBySpec)

/-- 'laws.FnExactPartOf', WHERE WHAT IT READS IS OF BULK AT MOST 1048576: true; the input reads as it did. -/
def fnExactPartOfUptoRow : OpenClaim := { program := "ytigjhhcndigncaa", sum := "1fcab2315c2b7c561259b8982012c8a1b8af66bdea1ff62094ac93137899b535", func := "loop.example/g00869/laws.FnExactPartOf", spec := "fnExactPartOf", apart := false, narrowed := true }
def FnExactPartOfUptoSaid : Prop := fnExactPartOfUptoRow.holds Try.pinned (OpenSpec.upto fnExactPartOfSpec)

/-- 'laws.FnExactBothOf', WHERE WHAT IT READS IS OF BULK AT MOST 1048576: true; the input reads as it did. -/
def fnExactBothOfUptoRow : OpenClaim := { program := "ytigjhhcndigncaa", sum := "1fcab2315c2b7c561259b8982012c8a1b8af66bdea1ff62094ac93137899b535", func := "loop.example/g00869/laws.FnExactBothOf", spec := "fnExactBothOf", recurses := true, apart := false, narrowed := true }
def FnExactBothOfUptoSaid : Prop := fnExactBothOfUptoRow.holds Try.pinned (OpenSpec.upto fnExactBothOfSpec)

end Rows
end Go.Proofs.Ytigjhhcndigncaa
