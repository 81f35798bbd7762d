/-
  No cell of these rows narrows 'for every input' (looked for: loops, veiled, ifaces, maps, wideKeys, modest, calm, conditions, laid).
  DERIVED. THE GIVEN ROWS OF THIS SEAT. 7 by the template 'for every input the law returns true; each argument reads behind the call as it read before'; 0 by the template 'total and deterministic' (their statements: YtmkmghjmfaoobaaTotals.lean).
  GIVEN WITH THE SEED: the statements are not yours to turn. If you find one false, say at which input.
  Laid BY PROGRAM, IN A SANDBOX (cutbox-rows.mjs): the forced cells as the released guide's own fill.sh prints them over the translation 715c3b9a7cad361f… (all of the seat's roots in one cut). By AI agents, Wed Nov 11 2026. No macro, syntax, notation, axiom, sorry.
-/
import Derived.Test.YtmkmghjmfaoobaaChecked
import GoSem.Claim
import GoSem.ClaimJoined
import GoSem.ClaimMapViews
import Derived.JoinedTies
import Derived.KernelRfl
namespace Go.Proofs.Ytmkmghjmfaoobaa
/- THE CELL 'sum', in the pinned program and in every row, IS THE sha256 OF THE DUMP (.gsa) THAT YtmkmghjmfaoobaaProg.lean LOADS. Nothing in Lean hashes anything: it is a label: what it is worth is what the hold of that sum in a sandbox is worth. -/
noncomputable def Try.pinned : Pinned := { name := "ytmkmghjmfaoobaa", sum := "715c3b9a7cad361f77c97f91b981b1c940af4466231422e6d5e0ef39d600fa2f", checked := Try.checked }
namespace Rows
def none {H : Type} : Left H := { results := [], args := [] }

/-- 'laws.FnExactWinnerAt': WHATEVER THE INPUT: true; the input reads as it did. -/
def fnExactWinnerAtSpec : ChangeSpec := { name := "fnExactWinnerAt", fn := fun _ => fun
  | [d1, d2] => { results := [.lit (.bool true)], args := [d1, d2] }
  | _ => none }
def fnExactWinnerAtRow : OpenClaim := { program := "ytmkmghjmfaoobaa", sum := "715c3b9a7cad361f77c97f91b981b1c940af4466231422e6d5e0ef39d600fa2f", func := "loop.example/g00869/laws.FnExactWinnerAt", spec := "fnExactWinnerAt", recurses := true, apart := false }
def FnExactWinnerAtSaid : Prop := fnExactWinnerAtRow.holds Try.pinned (OpenSpec.ofChange fnExactWinnerAtSpec)

/-- ITS FALSE NEIGHBOUR: 'it returns false'. Refute it at one input. -/
def fnExactWinnerAtWrong : ChangeSpec := { name := "fnExactWinnerAt", fn := fun _ => fun
  | [d1, d2] => { results := [.lit (.bool false)], args := [d1, d2] }
  | _ => none }
def FnExactWinnerAtWrongFalsely : Prop := fnExactWinnerAtRow.holds Try.pinned (OpenSpec.ofChange fnExactWinnerAtWrong)

/-- 'laws.FnExactWonIn': WHATEVER THE INPUT: true; the input reads as it did. -/
def fnExactWonInSpec : ChangeSpec := { name := "fnExactWonIn", fn := fun _ => fun
  | [d1, d2] => { results := [.lit (.bool true)], args := [d1, d2] }
  | _ => none }
def fnExactWonInRow : OpenClaim := { program := "ytmkmghjmfaoobaa", sum := "715c3b9a7cad361f77c97f91b981b1c940af4466231422e6d5e0ef39d600fa2f", func := "loop.example/g00869/laws.FnExactWonIn", spec := "fnExactWonIn", unfollowed := true, recurses := true, apart := false }
def FnExactWonInSaid : Prop := fnExactWonInRow.holds Try.pinned (OpenSpec.ofChange fnExactWonInSpec)

/-- ITS FALSE NEIGHBOUR: 'it returns false'. Refute it at one input. -/
def fnExactWonInWrong : ChangeSpec := { name := "fnExactWonIn", fn := fun _ => fun
  | [d1, d2] => { results := [.lit (.bool false)], args := [d1, d2] }
  | _ => none }
def FnExactWonInWrongFalsely : Prop := fnExactWonInRow.holds Try.pinned (OpenSpec.ofChange fnExactWonInWrong)

/-- 'laws.FnExactSureIn': WHATEVER THE INPUT: true; the input reads as it did. -/
def fnExactSureInSpec : ChangeSpec := { name := "fnExactSureIn", fn := fun _ => fun
  | [d1, d2] => { results := [.lit (.bool true)], args := [d1, d2] }
  | _ => none }
def fnExactSureInRow : OpenClaim := { program := "ytmkmghjmfaoobaa", sum := "715c3b9a7cad361f77c97f91b981b1c940af4466231422e6d5e0ef39d600fa2f", func := "loop.example/g00869/laws.FnExactSureIn", spec := "fnExactSureIn", recurses := true, apart := false }
def FnExactSureInSaid : Prop := fnExactSureInRow.holds Try.pinned (OpenSpec.ofChange fnExactSureInSpec)

/-- ITS FALSE NEIGHBOUR: 'it returns false'. Refute it at one input. -/
def fnExactSureInWrong : ChangeSpec := { name := "fnExactSureIn", fn := fun _ => fun
  | [d1, d2] => { results := [.lit (.bool false)], args := [d1, d2] }
  | _ => none }
def FnExactSureInWrongFalsely : Prop := fnExactSureInRow.holds Try.pinned (OpenSpec.ofChange fnExactSureInWrong)

/-- 'laws.FnExactWonBy': WHATEVER THE INPUT: true; the input reads as it did. -/
def fnExactWonBySpec : ChangeSpec := { name := "fnExactWonBy", fn := fun _ => fun
  | [d1, d2] => { results := [.lit (.bool true)], args := [d1, d2] }
  | _ => none }
def fnExactWonByRow : OpenClaim := { program := "ytmkmghjmfaoobaa", sum := "715c3b9a7cad361f77c97f91b981b1c940af4466231422e6d5e0ef39d600fa2f", func := "loop.example/g00869/laws.FnExactWonBy", spec := "fnExactWonBy", recurses := true, apart := false }
def FnExactWonBySaid : Prop := fnExactWonByRow.holds Try.pinned (OpenSpec.ofChange fnExactWonBySpec)

/-- ITS FALSE NEIGHBOUR: 'it returns false'. Refute it at one input. -/
def fnExactWonByWrong : ChangeSpec := { name := "fnExactWonBy", fn := fun _ => fun
  | [d1, d2] => { results := [.lit (.bool false)], args := [d1, d2] }
  | _ => none }
def FnExactWonByWrongFalsely : Prop := fnExactWonByRow.holds Try.pinned (OpenSpec.ofChange fnExactWonByWrong)

/-- 'laws.FnLeastPick': WHATEVER THE INPUT: true; the input reads as it did. -/
def fnLeastPickSpec : ChangeSpec := { name := "fnLeastPick", fn := fun _ => fun
  | [d] => { results := [.lit (.bool true)], args := [d] }
  | _ => none }
def fnLeastPickRow : OpenClaim := { program := "ytmkmghjmfaoobaa", sum := "715c3b9a7cad361f77c97f91b981b1c940af4466231422e6d5e0ef39d600fa2f", func := "loop.example/g00869/laws.FnLeastPick", spec := "fnLeastPick", recurses := true, apart := false }
def FnLeastPickSaid : Prop := fnLeastPickRow.holds Try.pinned (OpenSpec.ofChange fnLeastPickSpec)

/-- ITS FALSE NEIGHBOUR: 'it returns false'. Refute it at one input. -/
def fnLeastPickWrong : ChangeSpec := { name := "fnLeastPick", fn := fun _ => fun
  | [d] => { results := [.lit (.bool false)], args := [d] }
  | _ => none }
def FnLeastPickWrongFalsely : Prop := fnLeastPickRow.holds Try.pinned (OpenSpec.ofChange fnLeastPickWrong)

/-- 'laws.FnWinsAll': WHATEVER THE INPUT: true; the input reads as it did. -/
def fnWinsAllSpec : ChangeSpec := { name := "fnWinsAll", fn := fun _ => fun
  | [d] => { results := [.lit (.bool true)], args := [d] }
  | _ => none }
def fnWinsAllRow : OpenClaim := { program := "ytmkmghjmfaoobaa", sum := "715c3b9a7cad361f77c97f91b981b1c940af4466231422e6d5e0ef39d600fa2f", func := "loop.example/g00869/laws.FnWinsAll", spec := "fnWinsAll", recurses := true, apart := false }
def FnWinsAllSaid : Prop := fnWinsAllRow.holds Try.pinned (OpenSpec.ofChange fnWinsAllSpec)

/-- ITS FALSE NEIGHBOUR: 'it returns false'. Refute it at one input. -/
def fnWinsAllWrong : ChangeSpec := { name := "fnWinsAll", fn := fun _ => fun
  | [d] => { results := [.lit (.bool false)], args := [d] }
  | _ => none }
def FnWinsAllWrongFalsely : Prop := fnWinsAllRow.holds Try.pinned (OpenSpec.ofChange fnWinsAllWrong)

/-- 'laws.FnPartWon': WHATEVER THE INPUT: true; the input reads as it did. -/
def fnPartWonSpec : ChangeSpec := { name := "fnPartWon", fn := fun _ => fun
  | [d] => { results := [.lit (.bool true)], args := [d] }
  | _ => none }
def fnPartWonRow : OpenClaim := { program := "ytmkmghjmfaoobaa", sum := "715c3b9a7cad361f77c97f91b981b1c940af4466231422e6d5e0ef39d600fa2f", func := "loop.example/g00869/laws.FnPartWon", spec := "fnPartWon", unfollowed := true, recurses := true, apart := false }
def FnPartWonSaid : Prop := fnPartWonRow.holds Try.pinned (OpenSpec.ofChange fnPartWonSpec)

/-- ITS FALSE NEIGHBOUR: 'it returns false'. Refute it at one input. -/
def fnPartWonWrong : ChangeSpec := { name := "fnPartWon", fn := fun _ => fun
  | [d] => { results := [.lit (.bool false)], args := [d] }
  | _ => none }
def FnPartWonWrongFalsely : Prop := fnPartWonRow.holds Try.pinned (OpenSpec.ofChange fnPartWonWrong)

/- THE SECOND FORM. 'bulk': how many values and letters a reading holds, each counted each time it is reached (what is shared counts as often as it is met; a slice's spare places count too). A statement '..UptoSaid' is the law's where the arguments, and the package variables that the reading takes, are together of bulk at most 1048576: NARROWER than '..Said'. Prove '..Said' where nothing that the law and all that it calls make is longer than what came in: it says more and counts as full. Else prove '..UptoSaid'. A law counts once. -/
mutual
def uptoBulk {H : Type} : DataW H → Nat
  | .lit (.string bytes) => bytes.length + 1
  | .lit _ => 1
  | .nil => 1
  | .ptr d => uptoBulk d + 1
  | .slice elems spare => uptoBulkAll elems + uptoBulkAll spare + 1
  | .agg parts => uptoBulkAll parts + 1
  | .iface _ d => uptoBulk d + 1
  | .map entries => uptoBulkEntries entries + 1
  | .held _ => 1
def uptoBulkAll {H : Type} : List (DataW H) → Nat
  | [] => 0
  | d :: r => uptoBulk d + uptoBulkAll r
def uptoBulkEntries {H : Type} : List (Lit × DataW H) → Nat
  | [] => 0
  | x :: r => uptoBulkEntry x + uptoBulkEntries r
def uptoBulkEntry {H : Type} : Lit × DataW H → Nat
  | (.string bytes, d) => bytes.length + uptoBulk d + 1
  | (_, d) => uptoBulk d + 1
 end
def uptoSmall : (H : Type) → List (DataW H) → Bool := fun _ ds => decide (uptoBulkAll ds ≤ 1048576)
def OpenSpec.upto (s : _root_.Go.ChangeSpec) : _root_.Go.OpenSpec := { _root_.Go.OpenSpec.ofChange s with cond := some uptoSmall }

/-- 'laws.FnExactWinnerAt', WHERE WHAT IT READS IS OF BULK AT MOST 1048576: true; the input reads as it did. -/
def fnExactWinnerAtUptoRow : OpenClaim := { program := "ytmkmghjmfaoobaa", sum := "715c3b9a7cad361f77c97f91b981b1c940af4466231422e6d5e0ef39d600fa2f", func := "loop.example/g00869/laws.FnExactWinnerAt", spec := "fnExactWinnerAt", recurses := true, apart := false, narrowed := true }
def FnExactWinnerAtUptoSaid : Prop := fnExactWinnerAtUptoRow.holds Try.pinned (OpenSpec.upto fnExactWinnerAtSpec)

/-- 'laws.FnExactWonIn', WHERE WHAT IT READS IS OF BULK AT MOST 1048576: true; the input reads as it did. -/
def fnExactWonInUptoRow : OpenClaim := { program := "ytmkmghjmfaoobaa", sum := "715c3b9a7cad361f77c97f91b981b1c940af4466231422e6d5e0ef39d600fa2f", func := "loop.example/g00869/laws.FnExactWonIn", spec := "fnExactWonIn", unfollowed := true, recurses := true, apart := false, narrowed := true }
def FnExactWonInUptoSaid : Prop := fnExactWonInUptoRow.holds Try.pinned (OpenSpec.upto fnExactWonInSpec)

/-- 'laws.FnExactSureIn', WHERE WHAT IT READS IS OF BULK AT MOST 1048576: true; the input reads as it did. -/
def fnExactSureInUptoRow : OpenClaim := { program := "ytmkmghjmfaoobaa", sum := "715c3b9a7cad361f77c97f91b981b1c940af4466231422e6d5e0ef39d600fa2f", func := "loop.example/g00869/laws.FnExactSureIn", spec := "fnExactSureIn", recurses := true, apart := false, narrowed := true }
def FnExactSureInUptoSaid : Prop := fnExactSureInUptoRow.holds Try.pinned (OpenSpec.upto fnExactSureInSpec)

/-- 'laws.FnExactWonBy', WHERE WHAT IT READS IS OF BULK AT MOST 1048576: true; the input reads as it did. -/
def fnExactWonByUptoRow : OpenClaim := { program := "ytmkmghjmfaoobaa", sum := "715c3b9a7cad361f77c97f91b981b1c940af4466231422e6d5e0ef39d600fa2f", func := "loop.example/g00869/laws.FnExactWonBy", spec := "fnExactWonBy", recurses := true, apart := false, narrowed := true }
def FnExactWonByUptoSaid : Prop := fnExactWonByUptoRow.holds Try.pinned (OpenSpec.upto fnExactWonBySpec)

/-- 'laws.FnLeastPick', WHERE WHAT IT READS IS OF BULK AT MOST 1048576: true; the input reads as it did. -/
def fnLeastPickUptoRow : OpenClaim := { program := "ytmkmghjmfaoobaa", sum := "715c3b9a7cad361f77c97f91b981b1c940af4466231422e6d5e0ef39d600fa2f", func := "loop.example/g00869/laws.FnLeastPick", spec := "fnLeastPick", recurses := true, apart := false, narrowed := true }
def FnLeastPickUptoSaid : Prop := fnLeastPickUptoRow.holds Try.pinned (OpenSpec.upto fnLeastPickSpec)

/-- 'laws.FnWinsAll', WHERE WHAT IT READS IS OF BULK AT MOST 1048576: true; the input reads as it did. -/
def fnWinsAllUptoRow : OpenClaim := { program := "ytmkmghjmfaoobaa", sum := "715c3b9a7cad361f77c97f91b981b1c940af4466231422e6d5e0ef39d600fa2f", func := "loop.example/g00869/laws.FnWinsAll", spec := "fnWinsAll", recurses := true, apart := false, narrowed := true }
def FnWinsAllUptoSaid : Prop := fnWinsAllUptoRow.holds Try.pinned (OpenSpec.upto fnWinsAllSpec)

/-- 'laws.FnPartWon', WHERE WHAT IT READS IS OF BULK AT MOST 1048576: true; the input reads as it did. -/
def fnPartWonUptoRow : OpenClaim := { program := "ytmkmghjmfaoobaa", sum := "715c3b9a7cad361f77c97f91b981b1c940af4466231422e6d5e0ef39d600fa2f", func := "loop.example/g00869/laws.FnPartWon", spec := "fnPartWon", unfollowed := true, recurses := true, apart := false, narrowed := true }
def FnPartWonUptoSaid : Prop := fnPartWonUptoRow.holds Try.pinned (OpenSpec.upto fnPartWonSpec)

end Rows
end Go.Proofs.Ytmkmghjmfaoobaa
