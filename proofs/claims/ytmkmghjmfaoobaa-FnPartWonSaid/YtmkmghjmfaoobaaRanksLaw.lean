/- What ranks, pulls and the attractor say of each other. No program in sight. -/
import Derived.Test.YtmkmghjmfaoobaaPkC
import Derived.Test.YtmkmghjmfaoobaaSetsLaw
import Derived.Test.YtmkmghjmfaoobaaPrevPlain
namespace Go.Proofs.Ytmkmghjmfaoobaa
set_option linter.unusedSimpArgs false
set_option linter.unusedVariables false

variable {a : ArenaD} {who : Int} {m : List Bool} {goal r s : List Int} {k n v : Nat}
/-- An own vertex with a rank above 0 has a successor with the next lower rank. -/
theorem rank_pred (hv : v < a.owner.length) (hs : ∀ u ∈ rx a.next v, u.toNat < a.owner.length) (ho : ix a.owner v = who) (h0 : 0 < ix (rankAt a who m goal k) v) :
    ∃ u ∈ rx a.next v, ix (rankAt a who m goal k) u.toNat = ix (rankAt a who m goal k) v - 1 := by
  induction k with
  | zero =>
    have := (rankAt_bounds (who := who) (m := m) (goal := goal) (k := 0) hv).2.1
    omega
  | succ k ih =>
    by_cases hn : newB a who m (rankAt a who m goal k) v = true
    · have e : ix (rankAt a who m goal (k + 1)) v = (k : Int) + 1 := by rw [ix_rankAt_succ hv, if_pos hn]
      unfold newB at hn
      simp only [Bool.and_eq_true, decide_eq_true_eq] at hn
      obtain ⟨hneg, hm, hp⟩ := hn
      have hp' := hp
      unfold pulledB at hp'
      rw [if_pos ho] at hp'
      obtain ⟨u, hu, h1⟩ := List.any_eq_true.1 hp'
      simp only [Bool.and_eq_true, decide_eq_true_eq] at h1
      refine ⟨u, hu, ?_⟩
      rw [rankAt_stays (hs u hu) h1.2, e]
      have hb := (rankAt_bounds (who := who) (m := m) (goal := goal) (k := k) (hs u hu)).2.1
      by_cases hlt : ix (rankAt a who m goal k) u.toNat < (k : Int)
      · exfalso
        rcases k with _ | k
        · simp at hlt; omega
        · have h2 := rankAt_before (hs u hu) h1.2 (by push_cast at hlt; exact hlt)
          have h3 := rankAt_unpulled hv hm hneg
          unfold pulledB at h3
          rw [if_pos ho, List.any_eq_false] at h3
          exact absurd (by simp only [Bool.and_eq_true, decide_eq_true_eq]; exact ⟨h1.1, by rw [h2]; exact h1.2⟩) (h3 u hu)
      · omega
    · have e : ix (rankAt a who m goal (k + 1)) v = ix (rankAt a who m goal k) v := by rw [ix_rankAt_succ hv, if_neg hn]
      rw [e] at h0 ⊢
      obtain ⟨u, hu, h1⟩ := ih h0
      exact ⟨u, hu, by rw [rankAt_stays (hs u hu) (by omega), h1]⟩
theorem pullV_pos (h : 0 ≤ pullV a who r v) : ix a.owner v = who ∧ pullV a who r v ∈ rx a.next v ∧ ix r (pullV a who r v).toNat = ix r v - 1 := by
  unfold pullV at *
  split at h
  · rename_i hc
    cases e : (rx a.next v).find? fun u => decide (ix r u.toNat = ix r v - 1) with
    | none => rw [e] at h; simp at h
    | some u =>
      rw [e] at h
      rw [if_pos hc]
      have h1 := List.find?_some e
      simp only [decide_eq_true_eq] at h1
      exact ⟨hc.1, List.mem_of_find?_eq_some e, h1⟩
  · omega
theorem pullV_neg (hx : ∀ u ∈ rx a.next v, 0 ≤ u) (ho : ix a.owner v = who) (h0 : 0 < ix r v) (he : ∃ u ∈ rx a.next v, ix r u.toNat = ix r v - 1) : 0 ≤ pullV a who r v := by
  unfold pullV
  rw [if_pos ⟨ho, h0⟩]
  cases e : (rx a.next v).find? fun u => decide (ix r u.toNat = ix r v - 1) with
  | none =>
    obtain ⟨u, hu, h1⟩ := he
    rw [List.find?_eq_none] at e
    exact absurd (by simpa using h1) (e u hu)
  | some u => exact hx u (List.mem_of_find?_eq_some e)
theorem attrL_has (hn : a.owner.length ≤ 256) (hv : v < a.owner.length) : hasInB (attrL a who s goal) (v : Int) = decide (0 ≤ ix (ranksL a who s goal) v) := by
  have hset : IsSet (attrL a who s goal) 256 := isSet_of (sorted_upFrom_filter _ _) fun x hx => by
    obtain ⟨h1, _⟩ := List.mem_filter.1 hx
    simp only [upFrom, List.mem_map, List.mem_range] at h1
    obtain ⟨j, hj, rfl⟩ := h1
    omega
  rw [hasInB_set hset, Bool.eq_iff_iff, hasB_iff, decide_eq_true_iff]
  unfold attrL attrTo
  rw [List.mem_filter]
  simp only [upFrom, List.mem_map, List.mem_range, decide_eq_true_eq]
  constructor
  · rintro ⟨_, h⟩; simpa using h
  · intro h; exact ⟨⟨v, hv, by omega⟩, by simpa using h⟩
/-- Ranks r, pulls p and an attractor q that agree. -/
structure RanksFit (a : ArenaD) (who : Int) (r p q : List Int) : Prop where
  len : p.length = r.length
  own : r.length ≤ a.owner.length
  has : ∀ v : Nat, v < r.length → hasInB q (v : Int) = decide (0 ≤ ix r v)
  pull : ∀ v : Nat, v < r.length → 0 ≤ ix p v → ∃ j : Nat, ix p v = (j : Int) ∧ j < r.length ∧ ix r j = ix r v - 1 ∧ ix a.owner v = who
  none_ : ∀ v : Nat, v < r.length → ix p v < 0 → 0 < ix r v → ix a.owner v ≠ who
  many : q.length = (attrTo r r.length).length
  bound : ∀ v : Nat, v < r.length → -1 ≤ ix r v ∧ ix r v ≤ 256
theorem ranks_fit (a : ArenaD) (who : Int) (s goal : List Int) : RanksFit a who (ranksG a who s goal) (pullG a who s goal) (attrG a who s goal) := by
  unfold ranksG pullG attrG
  cases hc : canB a who s goal
  · refine ⟨rfl, by simp, ?_, ?_, ?_, rfl, ?_⟩ <;> intro v hv <;> simp at hv
  · rw [if_pos rfl, if_pos rfl, if_pos rfl]
    have hA : arenaOkB a = true := by
      unfold canB at hc
      simp only [Bool.and_eq_true] at hc
      exact hc.1
    have hok := arenaOkB_iff.1 hA
    have hn := hok.le
    have hs : ∀ v, v < a.owner.length → ∀ u ∈ rx a.next v, 0 ≤ u ∧ u.toNat < a.owner.length := fun v hv u hu => by
      obtain ⟨t, ht, rfl⟩ := mem_ix.1 hu
      obtain ⟨y, hy, hyn⟩ := (hok.set hv).vert t ht
      rw [hy]; omega
    have hl : (ranksL a who s goal).length = a.owner.length := length_ranksL
    refine ⟨by simp, by simp, fun v hv => attrL_has hn (by omega), fun v hv h => ?_, fun v hv h h0 ho => ?_, ?_, fun v hv => ?_⟩
    · rw [hl] at hv
      rw [ix_pullL hv] at h ⊢
      obtain ⟨h1, h2, h3⟩ := pullV_pos h
      have h4 := hs v hv _ h2
      exact ⟨(pullV a who (ranksL a who s goal) v).toNat, by omega, by omega, h3, h1⟩
    · rw [hl] at hv
      rw [ix_pullL hv] at h
      have h1 := rank_pred (m := marksL a.owner.length s) (goal := goal) (k := a.owner.length) hv (fun u hu => (hs v hv u hu).2) ho h0
      have h2 := pullV_neg (r := ranksL a who s goal) (fun u hu => (hs v hv u hu).1) ho h0 h1
      omega
    · rw [hl]; rfl
    · rw [hl] at hv
      have h1 := rankAt_bounds (who := who) (m := marksL a.owner.length s) (goal := goal) (k := a.owner.length) hv
      exact ⟨h1.1, by have h2 : ix (ranksL a who s goal) v ≤ (a.owner.length : Int) := h1.2.1; omega⟩
end Go.Proofs.Ytmkmghjmfaoobaa
