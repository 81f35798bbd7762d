/- The walks of BadLoops, CleanIn and WinsBy. -/
import Derived.Test.YtmkmghjmfaoobaaBadWalks
import Derived.Test.YtmkmghjmfaoobaaEdgesWalks
namespace Go.Proofs.Ytmkmghjmfaoobaa
set_option linter.unusedSimpArgs false
set_option linter.unusedVariables false
open Go.RowKit

def badOkB (g : ParityD) (who : Int) (s plan : List Int) : Bool := parityOkB g && checkB g.arena who s plan
noncomputable def badG (g : ParityD) (who : Int) (s plan : List Int) : List Int := if badOkB g who s plan then badL g who s plan else []
theorem badOkB_spec (g : ParityD) (who : Int) (s plan : List Int) : badOkB g who s plan = (parityOkB g && (planOkB g.arena who plan && isSetB s g.prio.length)) := by
  unfold badOkB
  cases hE : parityOkB g
  · rfl
  · rw [checkB_spec, (parityOkB_iff.1 hE).len]
theorem badG_len (g : ParityD) (who : Int) (s plan : List Int) : (badG g who s plan).length ≤ 1048576 := by
  unfold badG
  split
  · rename_i h
    unfold badOkB at h
    rw [Bool.and_eq_true] at h
    have h2 := checkB_iff.1 h.2
    have := h2.set.length_le
    have := h2.arena.le
    have := badL_len g who s plan
    omega
  · simp

noncomputable def cleanB (g : ParityD) (who : Int) (s plan : List Int) : Bool := badOkB g who s plan && ((badL g who s plan).length == (0 : Int))
noncomputable def winsB (g : ParityD) (who : Int) (s plan : List Int) : Bool := closedL g.arena who s plan && ((badL g who s plan).length == (0 : Int))
noncomputable def winsG (g : ParityD) (who : Int) (s plan : List Int) : Bool := badOkB g who s plan && winsB g who s plan
end Go.Proofs.Ytmkmghjmfaoobaa
