/- The walks of LeastFull, FullIn and what they call. No condition. -/
import Derived.Test.YtpnophmanpfejaaPredsWalks
namespace Go.Proofs.Ytpnophmanpfejaa
set_option linter.unusedSimpArgs false
set_option linter.unusedVariables false
open Go.RowKit

theorem add_zero' (a : Addr) : a.add 0 = a := by unfold Addr.add; simp
def lfAt (a : ArenaD) (who : Int) (v : Nat) : Int := if ix a.owner v = who then ix (rx a.next v) 0 else -1
def lfTo (a : ArenaD) (who : Int) (k : Nat) : List Int := (List.range k).map fun v => lfAt a who v
@[simp] theorem length_lfTo (a : ArenaD) (who : Int) (k : Nat) : (lfTo a who k).length = k := by simp [lfTo]
theorem ix_lfTo {a : ArenaD} {who : Int} {k j : Nat} (h : j < k) : ix (lfTo a who k) j = lfAt a who j := by simp [ix, lfTo, h]
theorem lfTo_succ (a : ArenaD) (who : Int) (k : Nat) : lfTo a who (k + 1) = lfTo a who k ++ [lfAt a who k] := by simp [lfTo, List.range_succ]
def lfG (a : ArenaD) (who : Int) : List Int := if arenaOkB a && playerB who then lfTo a who a.owner.length else []

/-- Has vertex v a move, if who owns it? -/
def movesB (a : ArenaD) (who : Int) (plan : List Int) (v : Nat) : Bool := !(decide (ix a.owner v = who) && decide (ix plan v < 0))
def movesAll (a : ArenaD) (who : Int) (plan : List Int) : Bool := decide (∀ v, v < plan.length → movesB a who plan v = true)
def fullB (a : ArenaD) (who : Int) (plan : List Int) : Bool := planB a who plan && movesAll a who plan
def fullG (a : ArenaD) (who : Int) (plan : List Int) : Bool := arenaOkB a && (playerB who && fullB a who plan)
theorem movesAll_bad {a : ArenaD} {who : Int} {plan : List Int} {k : Nat} (hk : k < plan.length) (h : movesB a who plan k = false) : movesAll a who plan = false := by
  unfold movesAll
  rw [decide_eq_false_iff_not]
  intro h'
  rw [h' k hk] at h; cases h

theorem lfG_len (a : ArenaD) (who : Int) : (lfG a who).length ≤ 1048576 := by
  unfold lfG
  split
  · rename_i h
    simp only [Bool.and_eq_true] at h
    have := (arenaOkB_iff.1 h.1).le
    simp; omega
  · simp
end Go.Proofs.Ytpnophmanpfejaa
