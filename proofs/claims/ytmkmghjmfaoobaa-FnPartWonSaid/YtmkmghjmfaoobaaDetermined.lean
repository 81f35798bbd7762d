/- Every parity game in which every vertex has a successor is won by the one or the other at each vertex. No program in sight. -/
import Derived.Test.YtmkmghjmfaoobaaPkC
namespace Go.Proofs.Ytmkmghjmfaoobaa
set_option linter.unusedSimpArgs false
set_option linter.unusedVariables false

theorem exists_top {m : List Bool} {p : List Int} (hp : ∀ v, On m v → 0 ≤ ix p v) (h : ¬ NoneOn m) : ∃ t, 0 ≤ t ∧ (∀ v, On m v → ix p v ≤ t) ∧ ∃ v, On m v ∧ ix p v = t := by
  have hne : markedL m ≠ [] := fun e => h (markedL_nil.1 e)
  obtain ⟨x, hx, e⟩ := topL_at (p := p) hne fun x hx => by
    obtain ⟨j, _, e, hb⟩ := mem_markedL.1 hx
    subst e
    exact hp _ hb
  obtain ⟨j, hj, rfl, hb⟩ := mem_markedL.1 hx
  rw [Int.toNat_natCast] at e
  have h0 := hp j hb
  refine ⟨topL p (markedL m), by omega, fun v hv => ?_, j, hb, e⟩
  have := topL_ge (p := p) (mem_markedL.2 ⟨v, hv.lt, rfl, hv⟩)
  rwa [Int.toNat_natCast] at this
theorem determined_at {g : Duel} {n : Nat} {p : List Int} (hown : ∀ v, v < n → g.own v = 0 ∨ g.own v = 1) (hpr : g.pr = fun v => ix p v) (hp : ∀ v, v < n → 0 ≤ ix p v) (c : Nat) :
    ∀ m : List Bool, m.count true ≤ c → m.length = n → Tot g (On m) → ∃ r, WonB g m r 0 := by
  induction c with
  | zero =>
    intro m hc hl ht
    refine ⟨m, WonB.empty fun v hv => ?_⟩
    have h1 := hv.lt
    have h2 : true ∈ m := by
      have := hv
      unfold On at this
      rw [bx_lt h1] at this
      rw [← this]; exact List.getElem_mem h1
    have := List.count_pos_iff.2 h2
    omega
  | succ c ih =>
    intro m hc hl ht
    by_cases hN : NoneOn m
    · exact ⟨m, WonB.empty hN⟩
    · obtain ⟨t, ht0, ht1, x, hx, hxt⟩ := exists_top (p := p) (fun v hv => hp v (hl ▸ hv.lt)) hN
      obtain ⟨who, hi⟩ : ∃ who, t % 2 = who := ⟨_, rfl⟩
      have hw : who = 0 ∨ who = 1 := by omega
      have hown' : ∀ v, On m v → g.own v = who ∨ g.own v = 1 - who := fun v hv => by
        have := hown v (hl ▸ hv.lt)
        omega
      have hlen2 : ∀ (i : Int) (L : List Bool), (restL m (attL g i n (On m) (On L))).length = n := fun i L => by rw [length_restL, hl]
      have hgoal : ∀ v, On (goalL m p t) v → On m v := fun v hv => (on_goalL.1 hv).1
      have hlt1 := att_any (g := g) (who := who) hl hgoal ⟨x, on_goalL.2 ⟨hx, hxt⟩⟩
      obtain ⟨low, h2⟩ := ih _ (by omega) (hlen2 who (goalL m p t)) (ht.rest hl (goalL m p t))
      by_cases hnone : NoneOn (lostW (restL m (attL g who n (On m) (On (goalL m p t)))) low who)
      · exact ⟨_, win_last hown' ht hl hw hpr ht1 hi h2 hnone⟩
      · have hlost : ∀ v, On (lostW (restL m (attL g who n (On m) (On (goalL m p t)))) low who) v → On m v := fun v hv => by
          unfold On at hv
          rw [bx_lostW, Bool.and_eq_true] at hv
          exact (on_restL.1 hv.1).1
        have hex : ∃ v, On (lostW (restL m (attL g who n (On m) (On (goalL m p t)))) low who) v := Classical.byContradiction fun h => hnone fun v hv => h ⟨v, hv⟩
        have hlt2 := att_any (g := g) (who := 1 - who) hl hlost hex
        obtain ⟨again, h5⟩ := ih _ (by omega) (hlen2 (1 - who) _) (ht.rest hl (lostW (restL m (attL g who n (On m) (On (goalL m p t)))) low who))
        exact ⟨_, win_more hown' ht hl hw h2 h5⟩
theorem determined {g : Duel} {n : Nat} {p : List Int} (hown : ∀ v, v < n → g.own v = 0 ∨ g.own v = 1) (hpr : g.pr = fun v => ix p v) (hp : ∀ v, v < n → 0 ≤ ix p v) {m : List Bool} (hl : m.length = n) (ht : Tot g (On m)) : WonB g m (evenW g m) 0 := by
  have hx : ∃ r : List Bool, WonB g m r 0 := determined_at hown hpr hp (m.count true) m (Nat.le_refl _) hl ht
  have : evenW g m = Classical.choose hx := by unfold evenW; rw [dif_pos hx]
  rw [this]
  exact Classical.choose_spec hx
end Go.Proofs.Ytmkmghjmfaoobaa
