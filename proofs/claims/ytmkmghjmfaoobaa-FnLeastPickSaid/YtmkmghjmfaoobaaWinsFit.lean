/- What the laws on solved games ask: the plan wins against every plan, and no smaller pick keeps the winners. No program in sight. -/
import Derived.Test.YtmkmghjmfaoobaaSolvePlain
import Derived.Test.YtmkmghjmfaoobaaChecksFit
namespace Go.Proofs.Ytmkmghjmfaoobaa
set_option linter.unusedSimpArgs false
set_option linter.unusedVariables false

/-- A full plan, with the moves of a given one where that has any. -/
def overTo (plan given : List Int) (k : Nat) : List Int := (List.range k).map fun v => if v < given.length ∧ 0 ≤ ix given v ∧ 0 ≤ ix plan v then ix given v else ix plan v
@[simp] theorem length_overTo (plan given : List Int) (k : Nat) : (overTo plan given k).length = k := by simp [overTo]
theorem ix_overTo {plan given : List Int} {k v : Nat} (h : v < k) : ix (overTo plan given k) v = if v < given.length ∧ 0 ≤ ix given v ∧ 0 ≤ ix plan v then ix given v else ix plan v := by simp [ix, overTo, h]
theorem overTo_succ (plan given : List Int) (k : Nat) : overTo plan given (k + 1) = overTo plan given k ++ [if k < given.length ∧ 0 ≤ ix given k ∧ 0 ≤ ix plan k then ix given k else ix plan k] := by simp [overTo, List.range_succ]
section
variable {g : ParityD} {plan even odd : List Int}
theorem over_full {who : Int} {full : List Int} (hok : ParityOk g) (hf : fullB g.arena who full = true) (hp : Picks g plan) : fullB g.arena who (overTo full plan full.length) = true := by
  have hfp := full_plan hf
  refine full_of hok.arena (by rw [length_overTo, hfp.len]) (fun v hv ho => ?_) fun v hv ho => ?_
  · rw [ix_overTo (by rw [hfp.len]; exact hv)]
    split
    · rename_i h
      rcases hp.at_ v hv with h1 | h1
      · omega
      · exact h1
    · exact full_at hf hv ho
  · rw [ix_overTo (by rw [hfp.len]; exact hv), plan_other hfp hv ho, if_neg (by omega)]
theorem over_mine {who : Int} {full : List Int} (hok : ParityOk g) (hf : fullB g.arena who full = true) (h : PlanInv g g.arena.owner.length plan) {v : Nat} (hv : Reg g who v) (ho : ix g.arena.owner v = who) : ix (overTo full plan full.length) v = ix plan v := by
  have hfp := full_plan hf
  obtain ⟨u, h1, _⟩ := h.made v hv.1 hv.1 (by rw [ho, hv.2])
  have h2 := full_nonneg hok.arena hf hv.1 ho
  rw [ix_overTo (by rw [hfp.len]; exact hv.1), if_pos ⟨by rw [h.len]; exact hv.1, by omega, h2⟩]
/-- The plan wins for player 0 .. -/
theorem wins_even (hok : ParityOk g) (h : PlanInv g g.arena.owner.length plan) (he : fullB g.arena 0 even = true) (ho : fullB g.arena 1 odd = true) {v : Nat} (hv : v < g.arena.owner.length) (hw : ix (wonOf g) v = 0) :
    playOkB g.arena (overTo even plan even.length) odd v = true ∧ wonL g (playG g.arena (overTo even plan even.length) odd v) = 0 := by
  refine play_winner hok (over_full hok he h.picks) ho (fin_wins hok h (.inl rfl)) (fun x hx hox => ?_) ⟨hv, hw⟩
  unfold moveN moveI
  rw [if_pos hox, over_mine hok he h hx hox]
/-- .. and for player 1. -/
theorem wins_odd (hok : ParityOk g) (h : PlanInv g g.arena.owner.length plan) (he : fullB g.arena 0 even = true) (ho : fullB g.arena 1 odd = true) {v : Nat} (hv : v < g.arena.owner.length) (hw : ix (wonOf g) v = 1) :
    playOkB g.arena even (overTo odd plan odd.length) v = true ∧ wonL g (playG g.arena even (overTo odd plan odd.length) v) = 1 := by
  refine play_winner hok he (over_full hok ho h.picks) (fin_wins hok h (.inr rfl)) (fun x hx hox => ?_) ⟨hv, hw⟩
  unfold moveN moveI
  rw [if_neg (by omega), over_mine hok ho h hx hox]
theorem plan_sign (h : PlanInv g g.arena.owner.length plan) {v : Nat} (hv : v < g.arena.owner.length) : (0 ≤ ix plan v ↔ ix (wonOf g) v = ix g.arena.owner v) := by
  by_cases e : ix g.arena.owner v = ix (wonOf g) v
  · obtain ⟨u, h1, _⟩ := h.made v hv hv e
    exact ⟨fun _ => e.symm, fun _ => by omega⟩
  · have := h.none_ v hv (.inl e)
    exact ⟨fun h => by omega, fun h => absurd h.symm e⟩
end
end Go.Proofs.Ytmkmghjmfaoobaa
