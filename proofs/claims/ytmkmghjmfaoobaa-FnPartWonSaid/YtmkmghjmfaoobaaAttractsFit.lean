/- Why the attractor strategy forces a visit of the goal, and why the other vertices are a trap. No program in sight. -/
import Derived.Test.YtmkmghjmfaoobaaRanksLaw
import Derived.Test.YtmkmghjmfaoobaaPkC
import Derived.Test.YtmkmghjmfaoobaaDicePlain
namespace Go.Proofs.Ytmkmghjmfaoobaa
set_option linter.unusedSimpArgs false
set_option linter.unusedVariables false

section
variable {a : ArenaD} {who : Int} {m : List Bool} {goal r s : List Int} {k n v : Nat}
/-- Rank 0 is the goal. -/
theorem rank_zero (hv : v < a.owner.length) (h : ix (rankAt a who m goal k) v = 0) : (v : Int) ∈ goal := by
  induction k with
  | zero =>
    have h' : ix (rank0 a.owner.length m goal) v = 0 := h
    rw [ix_rank0 hv] at h'
    split at h'
    · rename_i hc; simp only [Bool.and_eq_true, decide_eq_true_eq] at hc; exact hc.2
    · omega
  | succ k ih =>
    rw [ix_rankAt_succ hv] at h
    split at h
    · omega
    · exact ih h
/-- From a vertex of the other one with a rank above 0 all ways lead to lower ranks. -/
theorem rank_theirs (hv : v < a.owner.length) (hs : ∀ u ∈ rx a.next v, u.toNat < a.owner.length ∧ bx m u.toNat = true) (ho : ix a.owner v ≠ who) (h0 : 0 < ix (rankAt a who m goal k) v) :
    ∀ u ∈ rx a.next v, 0 ≤ ix (rankAt a who m goal k) u.toNat ∧ ix (rankAt a who m goal k) u.toNat < ix (rankAt a who m goal k) v := by
  induction k with
  | zero =>
    have := (rankAt_bounds (who := who) (m := m) (goal := goal) (k := 0) hv).2.1
    omega
  | succ k ih =>
    intro u hu
    obtain ⟨hun, hum⟩ := hs u hu
    by_cases hn : newB a who m (rankAt a who m goal k) v = true
    · have e : ix (rankAt a who m goal (k + 1)) v = (k : Int) + 1 := by rw [ix_rankAt_succ hv, if_pos hn]
      unfold newB at hn
      simp only [Bool.and_eq_true, decide_eq_true_eq] at hn
      obtain ⟨_, _, hp⟩ := hn
      unfold pulledB at hp
      rw [if_neg ho, Bool.and_eq_true] at hp
      have h1 := List.all_eq_true.1 hp.2 u hu
      rw [hum] at h1
      simp only [Bool.not_true, Bool.false_or, decide_eq_true_eq] at h1
      have hb := (rankAt_bounds (who := who) (m := m) (goal := goal) (k := k) hun).2.1
      rw [rankAt_stays hun h1, e]
      omega
    · have e : ix (rankAt a who m goal (k + 1)) v = ix (rankAt a who m goal k) v := by rw [ix_rankAt_succ hv, if_neg hn]
      rw [e] at h0 ⊢
      obtain ⟨h1, h2⟩ := ih h0 u hu
      rw [rankAt_stays hun h1]
      exact ⟨h1, h2⟩
/-- After as many rounds as there are vertices nothing is new. -/
theorem rank_final (hv : v < a.owner.length) : newB a who m (rankAt a who m goal a.owner.length) v = false := by
  cases hx : newB a who m (rankAt a who m goal a.owner.length) v
  · rfl
  · exfalso
    have hall : ∀ k, k ≤ a.owner.length → ∃ u, u < a.owner.length ∧ newB a who m (rankAt a who m goal k) u = true := fun k hk => by
      refine Classical.byContradiction fun hno => ?_
      have h1 : ∀ u, u < a.owner.length → newB a who m (rankAt a who m goal k) u = false := fun u hu => by
        cases e : newB a who m (rankAt a who m goal k) u
        · rfl
        · exact absurd ⟨u, hu, e⟩ hno
      rw [rankAt_stable h1 hk, h1 v hv] at hx
      cases hx
    have key : ∀ k, k ≤ a.owner.length + 1 → negTo (rankAt a who m goal k) a.owner.length + k ≤ a.owner.length := fun k => by
      induction k with
      | zero => intro _; exact negTo_le _ _
      | succ k ih =>
        intro hk
        obtain ⟨u, hu, hn⟩ := hall k (by omega)
        have := rankAt_falls hu hn
        have := ih (by omega)
        omega
    have := key (a.owner.length + 1) (Nat.le_refl _)
    omega
end
/-- What the law on attractors asks of the ranks and the pulls. -/
structure AttractsFit (a : ArenaD) (who : Int) (goal r p q : List Int) : Prop where
  plen : p.length = a.owner.length
  rlen : r.length = a.owner.length
  has : ∀ k, k < q.length → ∃ j : Nat, ix q k = (j : Int) ∧ j < a.owner.length ∧ 0 ≤ ix r j ∧ ix r j ≤ a.owner.length
  goal_ : ∀ v : Nat, v < a.owner.length → ix r v = 0 → hasInB goal (v : Int) = true
  mine : ∀ v : Nat, v < a.owner.length → ix a.owner v = who → 0 < ix r v → ∃ j : Nat, ix p v = (j : Int) ∧ j < a.owner.length ∧ ix r j = ix r v - 1
  theirs : ∀ v : Nat, v < a.owner.length → ix a.owner v ≠ who → 0 < ix r v → ∀ u ∈ rx a.next v, ∃ j : Nat, u = (j : Int) ∧ j < a.owner.length ∧ 0 ≤ ix r j ∧ ix r j < ix r v
theorem allL_upFrom {n : Nat} (h : n ≤ 256) : allL (n : Int) = upFrom 0 n := allL_nat h
theorem set_upFrom (n : Nat) : IsSet (upFrom 0 n) n := fun k hk => by
  rw [length_upFrom] at hk
  rw [ix_upFrom hk]
  refine ⟨by omega, by omega, fun h => ?_⟩
  rw [ix_upFrom (by omega)]; omega
theorem can_all {a : ArenaD} {who : Int} {goal : List Int} (hok : ArenaOk a) (hw : who = 0 ∨ who = 1) (hg : IsSet goal a.owner.length) : canB a who (upFrom 0 a.owner.length) goal = true := by
  unfold canB
  have hp : playerB who = true := by unfold playerB; rw [decide_eq_true_eq]; omega
  rw [arenaOkB_iff.2 hok, hp, isSetB_iff.2 (set_upFrom _), isSetB_iff.2 hg]; rfl
theorem attracts_fit {a : ArenaD} {who : Int} {goal : List Int} (hok : ArenaOk a) (hw : who = 0 ∨ who = 1) (hg : IsSet goal a.owner.length) :
    AttractsFit a who goal (ranksG a who (upFrom 0 a.owner.length) goal) (pullG a who (upFrom 0 a.owner.length) goal) (attrG a who (upFrom 0 a.owner.length) goal) := by
  have hc := can_all hok hw hg
  have hr : ranksG a who (upFrom 0 a.owner.length) goal = ranksL a who (upFrom 0 a.owner.length) goal := by unfold ranksG; rw [if_pos hc]
  have hq : attrG a who (upFrom 0 a.owner.length) goal = attrL a who (upFrom 0 a.owner.length) goal := by unfold attrG; rw [if_pos hc]
  have hfit := ranks_fit a who (upFrom 0 a.owner.length) goal
  have hle := hok.le
  have hlen : (ranksG a who (upFrom 0 a.owner.length) goal).length = a.owner.length := by rw [hr]; simp
  have hb := fun {v : Nat} (hv : v < a.owner.length) => rankAt_bounds (who := who) (m := marksL a.owner.length (upFrom 0 a.owner.length)) (goal := goal) (k := a.owner.length) hv
  have hvert : ∀ v, v < a.owner.length → ∀ u ∈ rx a.next v, ∃ j : Nat, u = (j : Int) ∧ j < a.owner.length := fun v hv u hu => by
    obtain ⟨t, ht, rfl⟩ := mem_ix.1 hu
    exact (hok.set hv).vert t ht
  refine ⟨by rw [hfit.len, hlen], hlen, fun k hk => ?_, fun v hv h => ?_, fun v hv ho h0 => ?_, fun v hv ho h0 u hu => ?_⟩
  · rw [hq] at hk ⊢
    have hm : ix (attrL a who (upFrom 0 a.owner.length) goal) k ∈ attrL a who (upFrom 0 a.owner.length) goal := mem_ix.2 ⟨k, hk, rfl⟩
    generalize ix (attrL a who (upFrom 0 a.owner.length) goal) k = x at hm
    unfold attrL attrTo at hm
    rw [List.mem_filter] at hm
    obtain ⟨h1, h2⟩ := hm
    simp only [upFrom, List.mem_map, List.mem_range] at h1
    obtain ⟨j, hj, rfl⟩ := h1
    rw [decide_eq_true_eq] at h2
    refine ⟨j, by omega, hj, ?_, ?_⟩
    · rw [hr]; simpa using h2
    · rw [hr]; exact (hb hj).2.1
  · rw [hasInB_set (hg.upto (by omega)), hasB_iff]
    rw [hr] at h
    exact rank_zero hv h
  · have h1 : 0 ≤ ix (pullG a who (upFrom 0 a.owner.length) goal) v := by
      refine Classical.byContradiction fun h => ?_
      exact hfit.none_ v (by omega) (by omega) h0 ho
    obtain ⟨j, h2, h3, h4, _⟩ := hfit.pull v (by omega) h1
    exact ⟨j, h2, by omega, h4⟩
  · obtain ⟨j, rfl, hj⟩ := hvert v hv u hu
    rw [hr] at h0 ⊢
    have h1 := rank_theirs (m := marksL a.owner.length (upFrom 0 a.owner.length)) hv (fun u hu => by
      obtain ⟨i, rfl, hi⟩ := hvert v hv u hu
      rw [Int.toNat_natCast]
      refine ⟨hi, ?_⟩
      rw [marksL_all]
      exact on_fullM.2 hi) ho h0 _ hu
    rw [Int.toNat_natCast] at h1
    exact ⟨j, rfl, hj, h1⟩
/-- What is not attracted is a trap. -/
theorem rest_trap {a : ArenaD} {who : Int} {goal : List Int} (hok : ArenaOk a) (hw : who = 0 ∨ who = 1) (hg : IsSet goal a.owner.length) :
    trapB a who (LessOf (upFrom 0 a.owner.length) (attrG a who (upFrom 0 a.owner.length) goal)) = true ∧ escG a who (LessOf (upFrom 0 a.owner.length) (attrG a who (upFrom 0 a.owner.length) goal)) = [] := by
  have hc := can_all hok hw hg
  have hq : attrG a who (upFrom 0 a.owner.length) goal = attrL a who (upFrom 0 a.owner.length) goal := by unfold attrG; rw [if_pos hc]
  have hle := hok.le
  have hmem : ∀ v : Nat, (v : Int) ∈ attrL a who (upFrom 0 a.owner.length) goal ↔ v < a.owner.length ∧ 0 ≤ ix (ranksL a who (upFrom 0 a.owner.length) goal) v := fun v => by
    unfold attrL attrTo
    rw [List.mem_filter]
    simp only [upFrom, List.mem_map, List.mem_range, decide_eq_true_eq, Int.toNat_natCast]
    constructor
    · rintro ⟨⟨j, hj, e⟩, h⟩; exact ⟨by omega, of_decide_eq_true h⟩
    · rintro ⟨h1, h2⟩; exact ⟨⟨v, h1, by omega⟩, decide_eq_true h2⟩
  have hqset : IsSet (attrL a who (upFrom 0 a.owner.length) goal) 256 := isSet_of (sorted_upFrom_filter _ _) fun x hx => by
    obtain ⟨h1, _⟩ := List.mem_filter.1 hx
    simp only [upFrom, List.mem_map, List.mem_range] at h1
    obtain ⟨j, hj, rfl⟩ := h1
    omega
  have hL : LessOf (upFrom 0 a.owner.length) (attrG a who (upFrom 0 a.owner.length) goal) = lessL (upFrom 0 a.owner.length) (attrL a who (upFrom 0 a.owner.length) goal) := by
    unfold LessOf
    rw [hq, if_pos]
    exact bothOkB_iff.2 ⟨isSetB_iff.2 ((set_upFrom _).upto (by omega)), isSetB_iff.2 hqset⟩
  rw [hL]
  have hset : IsSet (lessL (upFrom 0 a.owner.length) (attrL a who (upFrom 0 a.owner.length) goal)) a.owner.length := isSet_of ((set_upFrom _).pw.filter _) fun x hx => (set_upFrom _).rng x (List.mem_filter.1 hx).1
  have hin : ∀ v : Nat, (v : Int) ∈ lessL (upFrom 0 a.owner.length) (attrL a who (upFrom 0 a.owner.length) goal) ↔ v < a.owner.length ∧ ix (ranksL a who (upFrom 0 a.owner.length) goal) v < 0 := fun v => by
    rw [mem_lessL, hmem]
    simp only [upFrom, List.mem_map, List.mem_range]
    constructor
    · rintro ⟨⟨j, hj, e⟩, h⟩
      have hv : v < a.owner.length := by omega
      exact ⟨hv, by have := fun h' => h ⟨hv, h'⟩; omega⟩
    · rintro ⟨h1, h2⟩; exact ⟨⟨v, h1, by omega⟩, fun h => by omega⟩
  have hvert : ∀ v, v < a.owner.length → ∀ u ∈ rx a.next v, ∃ j : Nat, u = (j : Int) ∧ j < a.owner.length := fun v hv u hu => by
    obtain ⟨t, ht, rfl⟩ := mem_ix.1 hu
    exact (hok.set hv).vert t ht
  have hesc : escL a who (lessL (upFrom 0 a.owner.length) (attrL a who (upFrom 0 a.owner.length) goal)) = [] := by
    unfold escL
    rw [List.filter_eq_nil_iff]
    intro x hx
    obtain ⟨t, ht, rfl⟩ := mem_ix.1 hx
    obtain ⟨v, e, hv⟩ := hset.vert t ht
    rw [e] at hx ⊢
    rw [Int.toNat_natCast]
    have hneg := ((hin v).1 hx).2
    have hfin := rank_final (who := who) (m := marksL a.owner.length (upFrom 0 a.owner.length)) (goal := goal) hv
    have hfm : bx (marksL a.owner.length (upFrom 0 a.owner.length)) v = true := by rw [marksL_all]; exact on_fullM.2 hv
    have hun : pulledB a who (marksL a.owner.length (upFrom 0 a.owner.length)) (ranksL a who (upFrom 0 a.owner.length) goal) v = false := by
      unfold newB at hfin
      rw [hfm] at hfin
      have : decide (ix (rankAt a who (marksL a.owner.length (upFrom 0 a.owner.length)) goal a.owner.length) v < 0) = true := decide_eq_true hneg
      rw [this, Bool.true_and, Bool.true_and] at hfin
      exact hfin
    have hmk : ∀ u : Nat, u < a.owner.length → bx (marksL a.owner.length (lessL (upFrom 0 a.owner.length) (attrL a who (upFrom 0 a.owner.length) goal))) u = decide (ix (ranksL a who (upFrom 0 a.owner.length) goal) u < 0) := fun u hu => by
      rw [bx_marksL hu, Bool.eq_iff_iff, decide_eq_true_iff, decide_eq_true_iff, hin]
      exact ⟨fun h => h.2, fun h => ⟨hu, h⟩⟩
    unfold escB
    unfold pulledB at hun
    by_cases ho : ix a.owner v = who
    · rw [if_pos ho] at hun ⊢
      have : (rx a.next v).all (fun u => bx (marksL a.owner.length (lessL (upFrom 0 a.owner.length) (attrL a who (upFrom 0 a.owner.length) goal))) u.toNat) = true := by
        rw [List.all_eq_true]
        intro u hu
        obtain ⟨j, rfl, hj⟩ := hvert v hv u hu
        rw [Int.toNat_natCast, hmk j hj, decide_eq_true_eq]
        rw [List.any_eq_false] at hun
        have h1 := hun _ hu
        rw [Int.toNat_natCast, marksL_all, show bx (fullM a.owner.length) j = true from on_fullM.2 hj] at h1
        simp only [Bool.true_and, decide_eq_true_eq] at h1
        omega
      rw [this]; simp
    · rw [if_neg ho] at hun ⊢
      have hdeg := (hok.deg hv).1
      have hany : ((rx a.next v).any fun u => bx (marksL a.owner.length (upFrom 0 a.owner.length)) u.toNat) = true := by
        rw [List.any_eq_true]
        refine ⟨ix (rx a.next v) 0, mem_ix.2 ⟨0, by omega, rfl⟩, ?_⟩
        obtain ⟨j, hj, hjn⟩ := (hok.set hv).vert 0 (by omega)
        rw [hj, Int.toNat_natCast, marksL_all]
        exact on_fullM.2 hjn
      rw [hany, Bool.true_and, List.all_eq_false] at hun
      obtain ⟨u, hu, h1⟩ := hun
      obtain ⟨j, rfl, hj⟩ := hvert v hv u hu
      have : (rx a.next v).any (fun u => bx (marksL a.owner.length (lessL (upFrom 0 a.owner.length) (attrL a who (upFrom 0 a.owner.length) goal))) u.toNat) = true := by
        rw [List.any_eq_true]
        refine ⟨_, hu, ?_⟩
        rw [Int.toNat_natCast, hmk j hj, decide_eq_true_eq]
        rw [Int.toNat_natCast] at h1
        simp only [Bool.or_eq_true, decide_eq_true_eq, not_or] at h1
        omega
      rw [this]; simp
  have hl3 : l3OkB a who (lessL (upFrom 0 a.owner.length) (attrL a who (upFrom 0 a.owner.length) goal)) = true := by
    unfold l3OkB
    have hp : playerB who = true := by unfold playerB; rw [decide_eq_true_eq]; omega
    rw [arenaOkB_iff.2 hok, hp, isSetB_iff.2 hset]; rfl
  constructor
  · unfold trapB; rw [hl3, hesc]; rfl
  · unfold escG; rw [if_pos hl3, hesc]
end Go.Proofs.Ytmkmghjmfaoobaa
