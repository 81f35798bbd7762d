/- When a lasso is a play, on lists. No program in sight. -/
import Derived.Test.YtogfpalgnjlfcaaPkA
import Derived.Test.YtogfpalgnjlfcaaPkB
namespace Go.Proofs.Ytogfpalgnjlfcaa
set_option linter.unusedSimpArgs false
set_option linter.unusedVariables false

theorem ix_append (l m : List Int) (k : Nat) : ix (l ++ m) k = if k < l.length then ix l k else ix m (k - l.length) := by
  unfold ix
  split
  · rename_i h; simp only [List.getD_eq_getElem?_getD]; rw [List.getElem?_append_left h]
  · rename_i h; simp only [List.getD_eq_getElem?_getD]; rw [List.getElem?_append_right (Nat.not_lt.1 h)]
def wayL (l : TwoD) : List Int := l.fst ++ l.snd
def roundL (l : TwoD) : List Int := wayL l ++ [ix l.snd 0]
theorem length_wayL (l : TwoD) : (wayL l).length = l.fst.length + l.snd.length := by simp [wayL]
theorem length_roundL (l : TwoD) : (roundL l).length = l.fst.length + l.snd.length + 1 := by simp [roundL, wayL]; omega
theorem ix_roundL {l : TwoD} {k : Nat} (h : k < (wayL l).length) : ix (roundL l) k = ix (wayL l) k := by unfold roundL; rw [ix_append, if_pos h]
def sizesB (l : TwoD) : Bool := decide (l.fst.length ≤ 256) && (decide (1 ≤ l.snd.length) && decide (l.snd.length ≤ 256))
def vertsB (a : ArenaD) (w : List Int) : Bool := decide (∀ k, k < w.length → thereB a (ix w k) = true)
def stepB (a : ArenaD) (w : List Int) (k : Nat) : Bool := hasB (rx a.next (ix w (k - 1)).toNat) (ix w k)
def stepsB (a : ArenaD) (w : List Int) : Bool := decide (∀ k, k < w.length → (decide (k = 0) || stepB a w k) = true)
def isLassoB (a : ArenaD) (l : TwoD) : Bool := sizesB l && (vertsB a (wayL l) && stepsB a (roundL l))
def lassoB (a : ArenaD) (l : TwoD) : Bool := arenaOkB a && isLassoB a l
def sstepB (a : ArenaD) (w : List Int) (k : Nat) : Bool := thereB a (ix w k) && (decide (k = 0) || stepB a w k)
def sstepsB (a : ArenaD) (w : List Int) : Bool := decide (∀ k, k < w.length → sstepB a w k = true)
theorem sizesB_iff {l : TwoD} : sizesB l = true ↔ l.fst.length ≤ 256 ∧ 1 ≤ l.snd.length ∧ l.snd.length ≤ 256 := by simp [sizesB]
theorem vertsB_bad {a : ArenaD} {w : List Int} {k : Nat} (hk : k < w.length) (h : thereB a (ix w k) = false) : vertsB a w = false := by
  unfold vertsB; rw [decide_eq_false_iff_not]; intro h'; rw [h' k hk] at h; cases h
theorem stepsB_bad {a : ArenaD} {w : List Int} {k : Nat} (h0 : 0 < k) (hk : k < w.length) (h : stepB a w k = false) : stepsB a w = false := by
  unfold stepsB; rw [decide_eq_false_iff_not]; intro h'; have := h' k hk; rw [h, decide_eq_false (by omega)] at this; cases this
theorem sstepsB_bad {a : ArenaD} {w : List Int} {k : Nat} (hk : k < w.length) (h : sstepB a w k = false) : sstepsB a w = false := by
  unfold sstepsB; rw [decide_eq_false_iff_not]; intro h'; rw [h' k hk] at h; cases h
theorem lasso_spec {a : ArenaD} {l : TwoD} (hs : sizesB l = true) : sstepsB a (roundL l) = (vertsB a (wayL l) && stepsB a (roundL l)) := by
  obtain ⟨h1, h2, h3⟩ := sizesB_iff.1 hs
  have hwl := length_wayL l
  have hrl := length_roundL l
  rw [Bool.eq_iff_iff, Bool.and_eq_true]
  unfold sstepsB vertsB stepsB
  simp only [decide_eq_true_eq]
  constructor
  · intro h
    refine ⟨fun k hk => ?_, fun k hk => ?_⟩
    · have := h k (by omega)
      unfold sstepB at this
      rw [ix_roundL hk, Bool.and_eq_true] at this
      exact this.1
    · have := h k hk
      unfold sstepB at this
      rw [Bool.and_eq_true] at this
      exact this.2
  · rintro ⟨hv, hst⟩ k hk
    unfold sstepB
    rw [Bool.and_eq_true]
    constructor
    · by_cases e : k < (wayL l).length
      · rw [ix_roundL e]; exact hv k e
      · have hkw : k = (wayL l).length := by omega
        have : ix (roundL l) k = ix (wayL l) l.fst.length := by
          unfold roundL
          rw [ix_append, if_neg e, hkw]
          unfold wayL
          rw [ix_append, if_neg (by omega)]
          simp [ix]
        rw [this]
        exact hv _ (by omega)
    · exact hst k hk
theorem there_nat {a : ArenaD} {v : Int} (h : thereB a v = true) : ∃ j : Nat, v = (j : Int) ∧ j < a.owner.length := by
  unfold thereB at h
  rw [decide_eq_true_eq] at h
  exact ⟨v.toNat, by omega, by omega⟩
/-- Who wins a play. -/
def wonL (g : ParityD) (l : TwoD) : Int := if parityOkB g && lassoB g.arena l then topL g.prio l.snd % 2 else -1
theorem isLasso_verts {a : ArenaD} {l : TwoD} (h : isLassoB a l = true) : ∀ k, k < l.snd.length → ∃ j : Nat, ix l.snd k = (j : Int) ∧ j < a.owner.length := by
  unfold isLassoB vertsB at h
  simp only [Bool.and_eq_true, decide_eq_true_eq] at h
  intro k hk
  have := h.2.1 (l.fst.length + k) (by rw [length_wayL]; omega)
  unfold wayL at this
  rw [ix_append, if_neg (by omega), show l.fst.length + k - l.fst.length = k by omega] at this
  exact there_nat this
end Go.Proofs.Ytogfpalgnjlfcaa
