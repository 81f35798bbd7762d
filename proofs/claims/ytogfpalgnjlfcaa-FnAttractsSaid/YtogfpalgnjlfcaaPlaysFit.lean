/- What the law on plays asks of the play of two full plans. No program in sight. -/
import Derived.Test.YtogfpalgnjlfcaaPlayLaw
namespace Go.Proofs.Ytogfpalgnjlfcaa
set_option linter.unusedSimpArgs false
set_option linter.unusedVariables false

theorem rx_fixA {a : ArenaD} {plan : List Int} (hl : a.next.length = a.owner.length) {v : Nat} (hv : v < a.owner.length) : rx (fixA a plan).next v = fixAt a plan v := by
  show rx (fixTo a plan a.next.length) v = _
  rw [rx_fixTo (by omega), if_pos (by omega)]
section
variable {a : ArenaD} {even odd : List Int}
theorem plan_other {who : Int} {plan : List Int} (h : PlanOk a who plan) {v : Nat} (hv : v < a.owner.length) (ho : ix a.owner v ≠ who) : ix plan v = -1 := by
  have h7 := h.vert v (by rw [h.len]; exact hv)
  unfold planAtB at h7
  simpa only [ho, decide_false, Bool.false_and, Bool.or_false, decide_eq_true_eq] using h7
theorem full_plan {who : Int} {plan : List Int} (h : fullB a who plan = true) : PlanOk a who plan := by
  unfold fullB at h
  rw [Bool.and_eq_true] at h
  exact planB_iff.1 h.1
theorem full_nonneg {who : Int} {plan : List Int} (hok : ArenaOk a) (h : fullB a who plan = true) {v : Nat} (hv : v < a.owner.length) (ho : ix a.owner v = who) : 0 ≤ ix plan v := by
  have h1 := full_at h hv ho
  obtain ⟨k, hk, e⟩ := mem_ix.1 h1
  have := (hok.set hv k hk).1
  omega
/-- What holds of two full plans and of a vertex. -/
structure PlaysFit (a : ArenaD) (even odd : List Int) (v : Nat) : Prop where
  ok : playOkB a even odd v = true
  lasso : isLassoB a (playG a even odd v) = true
  x : planOkB a 0 even = true
  y : planOkB (fixA a even) 1 odd = true
  pl : planOkB a 1 odd = true
  lasso2 : lassoB (fixA (fixA a even) odd) (playG a even odd v) = true
  first : ix (wayL (playG a even odd v)) 0 = (v : Int)
  pos : 1 ≤ (wayL (playG a even odd v)).length
  short : (wayL (playG a even odd v)).length ≤ a.owner.length
theorem fix_plan (hok : ArenaOk a) (he : fullB a 0 even = true) (ho : fullB a 1 odd = true) : PlanOk (fixA a even) 1 odd := by
  have he' := full_plan he
  have ho' := full_plan ho
  refine ⟨ho'.len, fun v hv => ?_⟩
  have hvn : v < a.owner.length := by rw [← ho'.len]; exact hv
  unfold planAtB
  rw [rx_fixA hok.len hvn]
  have h1 := ho'.vert v hv
  by_cases e : ix a.owner v = 1
  · have h2 := plan_other he' hvn (by omega)
    have e2 : fixAt a even v = rx a.next v := by unfold fixAt; rw [h2]; rfl
    rw [e2]
    exact h1
  · rw [plan_other ho' hvn e]; rfl
theorem plays_fit (hok : ArenaOk a) (he : fullB a 0 even = true) (ho : fullB a 1 odd = true) {v : Nat} (hv : v < a.owner.length) : PlaysFit a even odd v := by
  have he' := full_plan he
  have ho' := full_plan ho
  have hp : playOkB a even odd v = true := by
    unfold playOkB
    rw [arenaOkB_iff.2 hok, he, ho]
    unfold thereB
    simp; omega
  have hG : playG a even odd v = playT (moveN a even odd) v := by
    unfold playG
    rw [if_pos hp, Int.toNat_natCast]
  have hmv := fun {x : Nat} (hx : x < a.owner.length) => move_next hok he ho hx
  have hf : ∀ x, x < a.owner.length → moveN a even odd x < a.owner.length := fun x hx => (hmv hx).2.1
  have hyp := fix_plan hok he ho
  have hxok := fixA_ok hok he'
  have hyok := fixA_ok hxok hyp
  obtain ⟨i, K, hi, hK, e, ei⟩ := play_facts hf hv
  have hw : wayL (playG a even odd v) = trackL (moveN a even odd) v K := by
    rw [hG, e]; exact List.take_append_drop _ _
  refine ⟨hp, ?_, ?_, ?_, ?_, ?_, ?_, ?_, ?_⟩
  · rw [hG]
    exact lasso_play hok.le (fun x hx => ⟨hf x hx, by rw [← (hmv hx).1]; exact (hmv hx).2.2⟩) hv
  · unfold planOkB; rw [arenaOkB_iff.2 hok, planB_iff.2 he']; rfl
  · unfold planOkB; rw [arenaOkB_iff.2 hxok, planB_iff.2 hyp]; rfl
  · unfold planOkB; rw [arenaOkB_iff.2 hok, planB_iff.2 ho']; rfl
  · unfold lassoB
    rw [arenaOkB_iff.2 hyok, hG, Bool.true_and]
    refine lasso_play (a := fixA (fixA a even) odd) hok.le (fun x hx => ⟨hf x hx, ?_⟩) hv
    have hx' : x < a.owner.length := hx
    rw [rx_fixA hxok.len hx', ← (hmv hx').1]
    have hown := hok.owner hx'
    by_cases e0 : ix a.owner x = 0
    · have h1 := plan_other ho' hx' (by omega)
      have h2 := full_nonneg hok he hx' e0
      have e1 : fixAt (fixA a even) odd x = fixAt a even x := by
        have : fixAt (fixA a even) odd x = rx (fixA a even).next x := by unfold fixAt; rw [h1]; rfl
        rw [this, rx_fixA hok.len hx']
      rw [e1]
      unfold fixAt moveI
      rw [if_pos h2, if_pos e0]
      simp
    · have h2 := full_nonneg hok ho hx' (by omega)
      unfold fixAt moveI
      rw [if_pos h2, if_neg e0]
      simp
  · rw [hw, ix_trackL (by omega)]; rfl
  · rw [hw, length_trackL]; omega
  · rw [hw, length_trackL]; exact hK
end
end Go.Proofs.Ytogfpalgnjlfcaa
