/-
  No cell of these rows narrows 'for every input' (looked for: loops, veiled, ifaces, maps, wideKeys, modest, calm, conditions, laid).
  DERIVED. THE GIVEN ROWS OF THIS SEAT. 12 by the template 'for every input the law returns true; each argument reads behind the call as it read before'; 0 by the template 'total and deterministic' (their statements: YtpagbcegdppibaaTotals.lean).
  GIVEN WITH THE SEED: the statements are not yours to turn. If you find one false, say at which input.
  Laid BY PROGRAM, IN A SANDBOX (cutbox-rows.mjs): the forced cells as the released guide's own fill.sh prints them over the translation b96b03cf03fbea09… (all of the seat's roots in one cut). By AI agents, Wed Nov 11 2026. No macro, syntax, notation, axiom, sorry.
-/
import Derived.Test.YtpagbcegdppibaaChecked
import GoSem.Claim
import GoSem.ClaimJoined
import GoSem.ClaimMapViews
import Derived.JoinedTies
import Derived.KernelRfl
namespace Go.Proofs.Ytpagbcegdppibaa
/- THE CELL 'sum', in the pinned program and in every row, IS THE sha256 OF THE DUMP (.gsa) THAT YtpagbcegdppibaaProg.lean LOADS. Nothing in Lean hashes anything: it is a label: what it is worth is what the hold of that sum in a sandbox is worth. -/
noncomputable def Try.pinned : Pinned := { name := "ytpagbcegdppibaa", sum := "b96b03cf03fbea092ab65a1909a6089a35f0cf75881502562fc698e5599e27c8", checked := Try.checked }
namespace Rows
def none {H : Type} : Left H := { results := [], args := [] }

/-- 'laws.FnExactConstants': WHATEVER THE INPUT: true; the input reads as it did. -/
def fnExactConstantsSpec : ChangeSpec := { name := "fnExactConstants", fn := fun _ => fun
  | [] => { results := [.lit (.bool true)], args := [] }
  | _ => none }
def fnExactConstantsRow : OpenClaim := { program := "ytpagbcegdppibaa", sum := "b96b03cf03fbea092ab65a1909a6089a35f0cf75881502562fc698e5599e27c8", func := "loop.example/g00869/laws.FnExactConstants", spec := "fnExactConstants", apart := false }
def FnExactConstantsSaid : Prop := fnExactConstantsRow.holds Try.pinned (OpenSpec.ofChange fnExactConstantsSpec)

/-- ITS FALSE NEIGHBOUR: 'it returns false'. Refute it at one input. -/
def fnExactConstantsWrong : ChangeSpec := { name := "fnExactConstants", fn := fun _ => fun
  | [] => { results := [.lit (.bool false)], args := [] }
  | _ => none }
def FnExactConstantsWrongFalsely : Prop := fnExactConstantsRow.holds Try.pinned (OpenSpec.ofChange fnExactConstantsWrong)

/-- 'laws.FnExactSetOk': WHATEVER THE INPUT: true; the input reads as it did. -/
def fnExactSetOkSpec : ChangeSpec := { name := "fnExactSetOk", fn := fun _ => fun
  | [d1, d2] => { results := [.lit (.bool true)], args := [d1, d2] }
  | _ => none }
def fnExactSetOkRow : OpenClaim := { program := "ytpagbcegdppibaa", sum := "b96b03cf03fbea092ab65a1909a6089a35f0cf75881502562fc698e5599e27c8", func := "loop.example/g00869/laws.FnExactSetOk", spec := "fnExactSetOk", apart := false }
def FnExactSetOkSaid : Prop := fnExactSetOkRow.holds Try.pinned (OpenSpec.ofChange fnExactSetOkSpec)

/-- ITS FALSE NEIGHBOUR: 'it returns false'. Refute it at one input. -/
def fnExactSetOkWrong : ChangeSpec := { name := "fnExactSetOk", fn := fun _ => fun
  | [d1, d2] => { results := [.lit (.bool false)], args := [d1, d2] }
  | _ => none }
def FnExactSetOkWrongFalsely : Prop := fnExactSetOkRow.holds Try.pinned (OpenSpec.ofChange fnExactSetOkWrong)

/-- 'laws.FnExactAllOf': WHATEVER THE INPUT: true; the input reads as it did. -/
def fnExactAllOfSpec : ChangeSpec := { name := "fnExactAllOf", fn := fun _ => fun
  | [d] => { results := [.lit (.bool true)], args := [d] }
  | _ => none }
def fnExactAllOfRow : OpenClaim := { program := "ytpagbcegdppibaa", sum := "b96b03cf03fbea092ab65a1909a6089a35f0cf75881502562fc698e5599e27c8", func := "loop.example/g00869/laws.FnExactAllOf", spec := "fnExactAllOf", apart := false }
def FnExactAllOfSaid : Prop := fnExactAllOfRow.holds Try.pinned (OpenSpec.ofChange fnExactAllOfSpec)

/-- ITS FALSE NEIGHBOUR: 'it returns false'. Refute it at one input. -/
def fnExactAllOfWrong : ChangeSpec := { name := "fnExactAllOf", fn := fun _ => fun
  | [d] => { results := [.lit (.bool false)], args := [d] }
  | _ => none }
def FnExactAllOfWrongFalsely : Prop := fnExactAllOfRow.holds Try.pinned (OpenSpec.ofChange fnExactAllOfWrong)

/-- 'laws.FnExactHasIn': WHATEVER THE INPUT: true; the input reads as it did. -/
def fnExactHasInSpec : ChangeSpec := { name := "fnExactHasIn", fn := fun _ => fun
  | [d1, d2] => { results := [.lit (.bool true)], args := [d1, d2] }
  | _ => none }
def fnExactHasInRow : OpenClaim := { program := "ytpagbcegdppibaa", sum := "b96b03cf03fbea092ab65a1909a6089a35f0cf75881502562fc698e5599e27c8", func := "loop.example/g00869/laws.FnExactHasIn", spec := "fnExactHasIn", apart := false }
def FnExactHasInSaid : Prop := fnExactHasInRow.holds Try.pinned (OpenSpec.ofChange fnExactHasInSpec)

/-- ITS FALSE NEIGHBOUR: 'it returns false'. Refute it at one input. -/
def fnExactHasInWrong : ChangeSpec := { name := "fnExactHasIn", fn := fun _ => fun
  | [d1, d2] => { results := [.lit (.bool false)], args := [d1, d2] }
  | _ => none }
def FnExactHasInWrongFalsely : Prop := fnExactHasInRow.holds Try.pinned (OpenSpec.ofChange fnExactHasInWrong)

/-- 'laws.FnExactRegionOf': WHATEVER THE INPUT: true; the input reads as it did. -/
def fnExactRegionOfSpec : ChangeSpec := { name := "fnExactRegionOf", fn := fun _ => fun
  | [d1, d2] => { results := [.lit (.bool true)], args := [d1, d2] }
  | _ => none }
def fnExactRegionOfRow : OpenClaim := { program := "ytpagbcegdppibaa", sum := "b96b03cf03fbea092ab65a1909a6089a35f0cf75881502562fc698e5599e27c8", func := "loop.example/g00869/laws.FnExactRegionOf", spec := "fnExactRegionOf", apart := false }
def FnExactRegionOfSaid : Prop := fnExactRegionOfRow.holds Try.pinned (OpenSpec.ofChange fnExactRegionOfSpec)

/-- ITS FALSE NEIGHBOUR: 'it returns false'. Refute it at one input. -/
def fnExactRegionOfWrong : ChangeSpec := { name := "fnExactRegionOf", fn := fun _ => fun
  | [d1, d2] => { results := [.lit (.bool false)], args := [d1, d2] }
  | _ => none }
def FnExactRegionOfWrongFalsely : Prop := fnExactRegionOfRow.holds Try.pinned (OpenSpec.ofChange fnExactRegionOfWrong)

/-- 'laws.FnExactMeetOf': WHATEVER THE INPUT: true; the input reads as it did. -/
def fnExactMeetOfSpec : ChangeSpec := { name := "fnExactMeetOf", fn := fun _ => fun
  | [d1, d2] => { results := [.lit (.bool true)], args := [d1, d2] }
  | _ => none }
def fnExactMeetOfRow : OpenClaim := { program := "ytpagbcegdppibaa", sum := "b96b03cf03fbea092ab65a1909a6089a35f0cf75881502562fc698e5599e27c8", func := "loop.example/g00869/laws.FnExactMeetOf", spec := "fnExactMeetOf", apart := false }
def FnExactMeetOfSaid : Prop := fnExactMeetOfRow.holds Try.pinned (OpenSpec.ofChange fnExactMeetOfSpec)

/-- ITS FALSE NEIGHBOUR: 'it returns false'. Refute it at one input. -/
def fnExactMeetOfWrong : ChangeSpec := { name := "fnExactMeetOf", fn := fun _ => fun
  | [d1, d2] => { results := [.lit (.bool false)], args := [d1, d2] }
  | _ => none }
def FnExactMeetOfWrongFalsely : Prop := fnExactMeetOfRow.holds Try.pinned (OpenSpec.ofChange fnExactMeetOfWrong)

/-- 'laws.FnExactPartIn': WHATEVER THE INPUT: true; the input reads as it did. -/
def fnExactPartInSpec : ChangeSpec := { name := "fnExactPartIn", fn := fun _ => fun
  | [d1, d2] => { results := [.lit (.bool true)], args := [d1, d2] }
  | _ => none }
def fnExactPartInRow : OpenClaim := { program := "ytpagbcegdppibaa", sum := "b96b03cf03fbea092ab65a1909a6089a35f0cf75881502562fc698e5599e27c8", func := "loop.example/g00869/laws.FnExactPartIn", spec := "fnExactPartIn", apart := false }
def FnExactPartInSaid : Prop := fnExactPartInRow.holds Try.pinned (OpenSpec.ofChange fnExactPartInSpec)

/-- ITS FALSE NEIGHBOUR: 'it returns false'. Refute it at one input. -/
def fnExactPartInWrong : ChangeSpec := { name := "fnExactPartIn", fn := fun _ => fun
  | [d1, d2] => { results := [.lit (.bool false)], args := [d1, d2] }
  | _ => none }
def FnExactPartInWrongFalsely : Prop := fnExactPartInRow.holds Try.pinned (OpenSpec.ofChange fnExactPartInWrong)

/-- 'laws.FnExactLessOf': WHATEVER THE INPUT: true; the input reads as it did. -/
def fnExactLessOfSpec : ChangeSpec := { name := "fnExactLessOf", fn := fun _ => fun
  | [d1, d2] => { results := [.lit (.bool true)], args := [d1, d2] }
  | _ => none }
def fnExactLessOfRow : OpenClaim := { program := "ytpagbcegdppibaa", sum := "b96b03cf03fbea092ab65a1909a6089a35f0cf75881502562fc698e5599e27c8", func := "loop.example/g00869/laws.FnExactLessOf", spec := "fnExactLessOf", apart := false }
def FnExactLessOfSaid : Prop := fnExactLessOfRow.holds Try.pinned (OpenSpec.ofChange fnExactLessOfSpec)

/-- ITS FALSE NEIGHBOUR: 'it returns false'. Refute it at one input. -/
def fnExactLessOfWrong : ChangeSpec := { name := "fnExactLessOf", fn := fun _ => fun
  | [d1, d2] => { results := [.lit (.bool false)], args := [d1, d2] }
  | _ => none }
def FnExactLessOfWrongFalsely : Prop := fnExactLessOfRow.holds Try.pinned (OpenSpec.ofChange fnExactLessOfWrong)

/-- 'laws.FnExactArenaOk': WHATEVER THE INPUT: true; the input reads as it did. -/
def fnExactArenaOkSpec : ChangeSpec := { name := "fnExactArenaOk", fn := fun _ => fun
  | [d] => { results := [.lit (.bool true)], args := [d] }
  | _ => none }
def fnExactArenaOkRow : OpenClaim := { program := "ytpagbcegdppibaa", sum := "b96b03cf03fbea092ab65a1909a6089a35f0cf75881502562fc698e5599e27c8", func := "loop.example/g00869/laws.FnExactArenaOk", spec := "fnExactArenaOk", apart := false }
def FnExactArenaOkSaid : Prop := fnExactArenaOkRow.holds Try.pinned (OpenSpec.ofChange fnExactArenaOkSpec)

/-- ITS FALSE NEIGHBOUR: 'it returns false'. Refute it at one input. -/
def fnExactArenaOkWrong : ChangeSpec := { name := "fnExactArenaOk", fn := fun _ => fun
  | [d] => { results := [.lit (.bool false)], args := [d] }
  | _ => none }
def FnExactArenaOkWrongFalsely : Prop := fnExactArenaOkRow.holds Try.pinned (OpenSpec.ofChange fnExactArenaOkWrong)

/-- 'laws.FnExactEdgeIn': WHATEVER THE INPUT: true; the input reads as it did. -/
def fnExactEdgeInSpec : ChangeSpec := { name := "fnExactEdgeIn", fn := fun _ => fun
  | [d1, d2, d3] => { results := [.lit (.bool true)], args := [d1, d2, d3] }
  | _ => none }
def fnExactEdgeInRow : OpenClaim := { program := "ytpagbcegdppibaa", sum := "b96b03cf03fbea092ab65a1909a6089a35f0cf75881502562fc698e5599e27c8", func := "loop.example/g00869/laws.FnExactEdgeIn", spec := "fnExactEdgeIn", apart := false }
def FnExactEdgeInSaid : Prop := fnExactEdgeInRow.holds Try.pinned (OpenSpec.ofChange fnExactEdgeInSpec)

/-- ITS FALSE NEIGHBOUR: 'it returns false'. Refute it at one input. -/
def fnExactEdgeInWrong : ChangeSpec := { name := "fnExactEdgeIn", fn := fun _ => fun
  | [d1, d2, d3] => { results := [.lit (.bool false)], args := [d1, d2, d3] }
  | _ => none }
def FnExactEdgeInWrongFalsely : Prop := fnExactEdgeInRow.holds Try.pinned (OpenSpec.ofChange fnExactEdgeInWrong)

/-- 'laws.FnExactPlanOk': WHATEVER THE INPUT: true; the input reads as it did. -/
def fnExactPlanOkSpec : ChangeSpec := { name := "fnExactPlanOk", fn := fun _ => fun
  | [d1, d2, d3] => { results := [.lit (.bool true)], args := [d1, d2, d3] }
  | _ => none }
def fnExactPlanOkRow : OpenClaim := { program := "ytpagbcegdppibaa", sum := "b96b03cf03fbea092ab65a1909a6089a35f0cf75881502562fc698e5599e27c8", func := "loop.example/g00869/laws.FnExactPlanOk", spec := "fnExactPlanOk", apart := false }
def FnExactPlanOkSaid : Prop := fnExactPlanOkRow.holds Try.pinned (OpenSpec.ofChange fnExactPlanOkSpec)

/-- ITS FALSE NEIGHBOUR: 'it returns false'. Refute it at one input. -/
def fnExactPlanOkWrong : ChangeSpec := { name := "fnExactPlanOk", fn := fun _ => fun
  | [d1, d2, d3] => { results := [.lit (.bool false)], args := [d1, d2, d3] }
  | _ => none }
def FnExactPlanOkWrongFalsely : Prop := fnExactPlanOkRow.holds Try.pinned (OpenSpec.ofChange fnExactPlanOkWrong)

/-- 'laws.FnExactSameArena': WHATEVER THE INPUT: true; the input reads as it did. -/
def fnExactSameArenaSpec : ChangeSpec := { name := "fnExactSameArena", fn := fun _ => fun
  | [d1, d2] => { results := [.lit (.bool true)], args := [d1, d2] }
  | _ => none }
def fnExactSameArenaRow : OpenClaim := { program := "ytpagbcegdppibaa", sum := "b96b03cf03fbea092ab65a1909a6089a35f0cf75881502562fc698e5599e27c8", func := "loop.example/g00869/laws.FnExactSameArena", spec := "fnExactSameArena", unfollowed := true, recurses := true, apart := false }
def FnExactSameArenaSaid : Prop := fnExactSameArenaRow.holds Try.pinned (OpenSpec.ofChange fnExactSameArenaSpec)

/-- ITS FALSE NEIGHBOUR: 'it returns false'. Refute it at one input. -/
def fnExactSameArenaWrong : ChangeSpec := { name := "fnExactSameArena", fn := fun _ => fun
  | [d1, d2] => { results := [.lit (.bool false)], args := [d1, d2] }
  | _ => none }
def FnExactSameArenaWrongFalsely : Prop := fnExactSameArenaRow.holds Try.pinned (OpenSpec.ofChange fnExactSameArenaWrong)

/- THE SECOND FORM. 'bulk': how many values and letters a reading holds, each counted each time it is reached (what is shared counts as often as it is met; a slice's spare places count too). A statement '..UptoSaid' is the law's where the arguments, and the package variables that the reading takes, are together of bulk at most 1048576: NARROWER than '..Said'. Prove '..Said' where nothing that the law and all that it calls make is longer than what came in: it says more and counts as full. Else prove '..UptoSaid'. A law counts once. -/
mutual
def uptoBulk {H : Type} : DataW H → Nat
  | .lit (.string bytes) => bytes.length + 1
  | .lit _ => 1
  | .nil => 1
  | .ptr d => uptoBulk d + 1
  | .slice elems spare => uptoBulkAll elems + uptoBulkAll spare + 1
  | .agg parts => uptoBulkAll parts + 1
  | .iface _ d => uptoBulk d + 1
  | .map entries => uptoBulkEntries entries + 1
  | .held _ => 1
def uptoBulkAll {H : Type} : List (DataW H) → Nat
  | [] => 0
  | d :: r => uptoBulk d + uptoBulkAll r
def uptoBulkEntries {H : Type} : List (Lit × DataW H) → Nat
  | [] => 0
  | x :: r => uptoBulkEntry x + uptoBulkEntries r
def uptoBulkEntry {H : Type} : Lit × DataW H → Nat
  | (.string bytes, d) => bytes.length + uptoBulk d + 1
  | (_, d) => uptoBulk d + 1
 end
def uptoSmall : (H : Type) → List (DataW H) → Bool := fun _ ds => decide (uptoBulkAll ds ≤ 1048576)
def OpenSpec.upto (s : _root_.Go.ChangeSpec) : _root_.Go.OpenSpec := { _root_.Go.OpenSpec.ofChange s with cond := some uptoSmall }

/-- 'laws.FnExactConstants', WHERE WHAT IT READS IS OF BULK AT MOST 1048576: true; the input reads as it did. -/
def fnExactConstantsUptoRow : OpenClaim := { program := "ytpagbcegdppibaa", sum := "b96b03cf03fbea092ab65a1909a6089a35f0cf75881502562fc698e5599e27c8", func := "loop.example/g00869/laws.FnExactConstants", spec := "fnExactConstants", apart := false, narrowed := true }
def FnExactConstantsUptoSaid : Prop := fnExactConstantsUptoRow.holds Try.pinned (OpenSpec.upto fnExactConstantsSpec)

/-- 'laws.FnExactSetOk', WHERE WHAT IT READS IS OF BULK AT MOST 1048576: true; the input reads as it did. -/
def fnExactSetOkUptoRow : OpenClaim := { program := "ytpagbcegdppibaa", sum := "b96b03cf03fbea092ab65a1909a6089a35f0cf75881502562fc698e5599e27c8", func := "loop.example/g00869/laws.FnExactSetOk", spec := "fnExactSetOk", apart := false, narrowed := true }
def FnExactSetOkUptoSaid : Prop := fnExactSetOkUptoRow.holds Try.pinned (OpenSpec.upto fnExactSetOkSpec)

/-- 'laws.FnExactAllOf', WHERE WHAT IT READS IS OF BULK AT MOST 1048576: true; the input reads as it did. -/
def fnExactAllOfUptoRow : OpenClaim := { program := "ytpagbcegdppibaa", sum := "b96b03cf03fbea092ab65a1909a6089a35f0cf75881502562fc698e5599e27c8", func := "loop.example/g00869/laws.FnExactAllOf", spec := "fnExactAllOf", apart := false, narrowed := true }
def FnExactAllOfUptoSaid : Prop := fnExactAllOfUptoRow.holds Try.pinned (OpenSpec.upto fnExactAllOfSpec)

/-- 'laws.FnExactHasIn', WHERE WHAT IT READS IS OF BULK AT MOST 1048576: true; the input reads as it did. -/
def fnExactHasInUptoRow : OpenClaim := { program := "ytpagbcegdppibaa", sum := "b96b03cf03fbea092ab65a1909a6089a35f0cf75881502562fc698e5599e27c8", func := "loop.example/g00869/laws.FnExactHasIn", spec := "fnExactHasIn", apart := false, narrowed := true }
def FnExactHasInUptoSaid : Prop := fnExactHasInUptoRow.holds Try.pinned (OpenSpec.upto fnExactHasInSpec)

/-- 'laws.FnExactRegionOf', WHERE WHAT IT READS IS OF BULK AT MOST 1048576: true; the input reads as it did. -/
def fnExactRegionOfUptoRow : OpenClaim := { program := "ytpagbcegdppibaa", sum := "b96b03cf03fbea092ab65a1909a6089a35f0cf75881502562fc698e5599e27c8", func := "loop.example/g00869/laws.FnExactRegionOf", spec := "fnExactRegionOf", apart := false, narrowed := true }
def FnExactRegionOfUptoSaid : Prop := fnExactRegionOfUptoRow.holds Try.pinned (OpenSpec.upto fnExactRegionOfSpec)

/-- 'laws.FnExactMeetOf', WHERE WHAT IT READS IS OF BULK AT MOST 1048576: true; the input reads as it did. -/
def fnExactMeetOfUptoRow : OpenClaim := { program := "ytpagbcegdppibaa", sum := "b96b03cf03fbea092ab65a1909a6089a35f0cf75881502562fc698e5599e27c8", func := "loop.example/g00869/laws.FnExactMeetOf", spec := "fnExactMeetOf", apart := false, narrowed := true }
def FnExactMeetOfUptoSaid : Prop := fnExactMeetOfUptoRow.holds Try.pinned (OpenSpec.upto fnExactMeetOfSpec)

/-- 'laws.FnExactPartIn', WHERE WHAT IT READS IS OF BULK AT MOST 1048576: true; the input reads as it did. -/
def fnExactPartInUptoRow : OpenClaim := { program := "ytpagbcegdppibaa", sum := "b96b03cf03fbea092ab65a1909a6089a35f0cf75881502562fc698e5599e27c8", func := "loop.example/g00869/laws.FnExactPartIn", spec := "fnExactPartIn", apart := false, narrowed := true }
def FnExactPartInUptoSaid : Prop := fnExactPartInUptoRow.holds Try.pinned (OpenSpec.upto fnExactPartInSpec)

/-- 'laws.FnExactLessOf', WHERE WHAT IT READS IS OF BULK AT MOST 1048576: true; the input reads as it did. -/
def fnExactLessOfUptoRow : OpenClaim := { program := "ytpagbcegdppibaa", sum := "b96b03cf03fbea092ab65a1909a6089a35f0cf75881502562fc698e5599e27c8", func := "loop.example/g00869/laws.FnExactLessOf", spec := "fnExactLessOf", apart := false, narrowed := true }
def FnExactLessOfUptoSaid : Prop := fnExactLessOfUptoRow.holds Try.pinned (OpenSpec.upto fnExactLessOfSpec)

/-- 'laws.FnExactArenaOk', WHERE WHAT IT READS IS OF BULK AT MOST 1048576: true; the input reads as it did. -/
def fnExactArenaOkUptoRow : OpenClaim := { program := "ytpagbcegdppibaa", sum := "b96b03cf03fbea092ab65a1909a6089a35f0cf75881502562fc698e5599e27c8", func := "loop.example/g00869/laws.FnExactArenaOk", spec := "fnExactArenaOk", apart := false, narrowed := true }
def FnExactArenaOkUptoSaid : Prop := fnExactArenaOkUptoRow.holds Try.pinned (OpenSpec.upto fnExactArenaOkSpec)

/-- 'laws.FnExactEdgeIn', WHERE WHAT IT READS IS OF BULK AT MOST 1048576: true; the input reads as it did. -/
def fnExactEdgeInUptoRow : OpenClaim := { program := "ytpagbcegdppibaa", sum := "b96b03cf03fbea092ab65a1909a6089a35f0cf75881502562fc698e5599e27c8", func := "loop.example/g00869/laws.FnExactEdgeIn", spec := "fnExactEdgeIn", apart := false, narrowed := true }
def FnExactEdgeInUptoSaid : Prop := fnExactEdgeInUptoRow.holds Try.pinned (OpenSpec.upto fnExactEdgeInSpec)

/-- 'laws.FnExactPlanOk', WHERE WHAT IT READS IS OF BULK AT MOST 1048576: true; the input reads as it did. -/
def fnExactPlanOkUptoRow : OpenClaim := { program := "ytpagbcegdppibaa", sum := "b96b03cf03fbea092ab65a1909a6089a35f0cf75881502562fc698e5599e27c8", func := "loop.example/g00869/laws.FnExactPlanOk", spec := "fnExactPlanOk", apart := false, narrowed := true }
def FnExactPlanOkUptoSaid : Prop := fnExactPlanOkUptoRow.holds Try.pinned (OpenSpec.upto fnExactPlanOkSpec)

/-- 'laws.FnExactSameArena', WHERE WHAT IT READS IS OF BULK AT MOST 1048576: true; the input reads as it did. -/
def fnExactSameArenaUptoRow : OpenClaim := { program := "ytpagbcegdppibaa", sum := "b96b03cf03fbea092ab65a1909a6089a35f0cf75881502562fc698e5599e27c8", func := "loop.example/g00869/laws.FnExactSameArena", spec := "fnExactSameArena", unfollowed := true, recurses := true, apart := false, narrowed := true }
def FnExactSameArenaUptoSaid : Prop := fnExactSameArenaUptoRow.holds Try.pinned (OpenSpec.upto fnExactSameArenaSpec)

end Rows
end Go.Proofs.Ytpagbcegdppibaa
