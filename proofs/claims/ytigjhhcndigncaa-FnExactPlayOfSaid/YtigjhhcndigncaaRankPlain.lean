/- Ranks towards a goal: how they come about round by round. No program in sight. -/
import Derived.Test.YtigjhhcndigncaaTrapPlain
import Derived.Test.YtigjhhcndigncaaBools
namespace Go.Proofs.Ytigjhhcndigncaa
set_option linter.unusedSimpArgs false
set_option linter.unusedVariables false

/-- A vertex must go, or can go, to vertices with ranks. -/
def pulledB (a : ArenaD) (who : Int) (m : List Bool) (r : List Int) (v : Nat) : Bool :=
  if ix a.owner v = who then (rx a.next v).any fun u => bx m u.toNat && decide (0 ≤ ix r u.toNat)
  else ((rx a.next v).any fun u => bx m u.toNat) && ((rx a.next v).all fun u => !bx m u.toNat || decide (0 ≤ ix r u.toNat))
def rank0 (n : Nat) (m : List Bool) (goal : List Int) : List Int := (List.range n).map fun v => if bx m v && decide ((v : Int) ∈ goal) then 0 else -1
/-- v gets a rank now. -/
def newB (a : ArenaD) (who : Int) (m : List Bool) (r : List Int) (v : Nat) : Bool := decide (ix r v < 0) && (bx m v && pulledB a who m r v)
def rankUp (a : ArenaD) (who : Int) (m : List Bool) (k : Int) (r : List Int) : List Int := (List.range r.length).map fun v => if newB a who m r v then k else ix r v
def rankAt (a : ArenaD) (who : Int) (m : List Bool) (goal : List Int) : Nat → List Int
  | 0 => rank0 a.owner.length m goal
  | k + 1 => rankUp a who m ((k : Int) + 1) (rankAt a who m goal k)
def ranksL (a : ArenaD) (who : Int) (s goal : List Int) : List Int := rankAt a who (marksL a.owner.length s) goal a.owner.length

variable {a : ArenaD} {who : Int} {m : List Bool} {goal r s : List Int} {k n v : Nat}
@[simp] theorem length_rank0 : (rank0 n m goal).length = n := by simp [rank0]
@[simp] theorem length_rankUp {x : Int} : (rankUp a who m x r).length = r.length := by simp [rankUp]
@[simp] theorem length_rankAt : (rankAt a who m goal k).length = a.owner.length := by
  induction k with
  | zero => simp [rankAt]
  | succ k ih => simp [rankAt, ih]
@[simp] theorem length_ranksL : (ranksL a who s goal).length = a.owner.length := by simp [ranksL]
theorem ix_rank0 (h : v < n) : ix (rank0 n m goal) v = if bx m v && decide ((v : Int) ∈ goal) then 0 else -1 := by simp [ix, rank0, h]
theorem ix_rankUp {x : Int} (h : v < r.length) : ix (rankUp a who m x r) v = if newB a who m r v then x else ix r v := by
  show (List.getD _ v 0) = _
  simp [rankUp, h]
theorem ix_rankAt_succ (h : v < a.owner.length) : ix (rankAt a who m goal (k + 1)) v = if newB a who m (rankAt a who m goal k) v then (k : Int) + 1 else ix (rankAt a who m goal k) v := by
  show ix (rankUp a who m ((k : Int) + 1) (rankAt a who m goal k)) v = _
  rw [ix_rankUp (by simpa using h)]
theorem ix_out {l : List Int} (h : l.length ≤ v) : ix l v = 0 := by simp [ix, h]

/-- Ranks are -1 or a round's number; who has one is inside. -/
theorem rankAt_bounds (h : v < a.owner.length) : -1 ≤ ix (rankAt a who m goal k) v ∧ ix (rankAt a who m goal k) v ≤ k ∧ (0 ≤ ix (rankAt a who m goal k) v → bx m v = true) := by
  induction k with
  | zero =>
    show -1 ≤ ix (rank0 _ _ _) v ∧ _
    simp only [rankAt]
    rw [ix_rank0 h]
    by_cases hc : bx m v = true ∧ (v : Int) ∈ goal
    · simp [hc.1, hc.2]
    · have : (bx m v && decide ((v : Int) ∈ goal)) = false := by
        cases h1 : bx m v <;> simp_all
      simp [this]
  | succ k ih =>
    rw [ix_rankAt_succ h]
    by_cases hn : newB a who m (rankAt a who m goal k) v = true
    · rw [if_pos hn]
      unfold newB at hn
      simp only [Bool.and_eq_true] at hn
      exact ⟨by omega, by omega, fun _ => hn.2.1⟩
    · rw [if_neg hn]
      exact ⟨ih.1, by omega, ih.2.2⟩
/-- Once given, a rank stays. -/
theorem rankAt_stays (h : v < a.owner.length) (h0 : 0 ≤ ix (rankAt a who m goal k) v) : ix (rankAt a who m goal (k + 1)) v = ix (rankAt a who m goal k) v := by
  rw [ix_rankAt_succ h, if_neg]
  unfold newB
  simp; intro h1; omega
/-- A rank below the round's number was there the round before. -/
theorem rankAt_before (h : v < a.owner.length) (h0 : 0 ≤ ix (rankAt a who m goal (k + 1)) v) (h1 : ix (rankAt a who m goal (k + 1)) v < (k : Int) + 1) : ix (rankAt a who m goal k) v = ix (rankAt a who m goal (k + 1)) v := by
  rw [ix_rankAt_succ h] at *
  by_cases hn : newB a who m (rankAt a who m goal k) v = true
  · rw [if_pos hn] at h1; omega
  · rw [if_neg hn]
/-- Who has none yet was not pulled the round before. -/
theorem rankAt_unpulled (h : v < a.owner.length) (hm : bx m v = true) (h0 : ix (rankAt a who m goal (k + 1)) v < 0) : pulledB a who m (rankAt a who m goal k) v = false := by
  rw [ix_rankAt_succ h] at h0
  by_cases hn : newB a who m (rankAt a who m goal k) v = true
  · rw [if_pos hn] at h0; omega
  · rw [if_neg hn] at h0
    cases hp : pulledB a who m (rankAt a who m goal k) v
    · rfl
    · exact absurd (by unfold newB; simp [h0, hm, hp]) hn
theorem rank_stable {x : Int} (h : ∀ v, v < r.length → newB a who m r v = false) : rankUp a who m x r = r :=
  int_range_ext (by simp) fun v hv => by rw [ix_rankUp hv, h v hv]; rfl
theorem rankAt_stable (h : ∀ v, v < a.owner.length → newB a who m (rankAt a who m goal k) v = false) {j : Nat} (hj : k ≤ j) : rankAt a who m goal j = rankAt a who m goal k := by
  induction hj with
  | refl => rfl
  | step _ ih =>
    show rankUp _ _ _ _ (rankAt _ _ _ _ _) = _
    rw [ih]
    exact rank_stable (by simpa using h)

/-- The vertices of s that get a rank now. -/
def foundL (a : ArenaD) (who : Int) (m : List Bool) (r s : List Int) : List Int := s.filter fun v => decide (ix r v.toNat < 0) && pulledB a who m r v.toNat
theorem found_new (hs : IsSet s n) (hv : v < n) : (v : Int) ∈ foundL a who (marksL n s) r s ↔ newB a who (marksL n s) r v = true := by
  unfold foundL newB
  rw [List.mem_filter, bx_marksL hv]
  simp only [Int.toNat_natCast, Bool.and_eq_true, decide_eq_true_eq]
  constructor
  · rintro ⟨h1, h2, h3⟩; exact ⟨h2, h1, h3⟩
  · rintro ⟨h2, h1, h3⟩; exact ⟨h1, h2, h3⟩
theorem found_none (hs : IsSet s n) (h : foundL a who (marksL n s) r s = []) : ∀ v, v < n → newB a who (marksL n s) r v = false := fun v hv => by
  cases e : newB a who (marksL n s) r v
  · rfl
  · have := (found_new hs hv).2 e
    rw [h] at this
    cases this

/-- How many of the first k numbers are below 0. -/
def negTo (l : List Int) : Nat → Nat
  | 0 => 0
  | k + 1 => negTo l k + if ix l k < 0 then 1 else 0
theorem negTo_le (l : List Int) (k : Nat) : negTo l k ≤ k := by
  induction k with
  | zero => exact Nat.le_refl _
  | succ k ih => unfold negTo; split <;> omega
theorem negTo_mono {l l' : List Int} {k : Nat} (h : ∀ v, v < k → ix l' v < 0 → ix l v < 0) : negTo l' k ≤ negTo l k := by
  induction k with
  | zero => exact Nat.le_refl _
  | succ k ih =>
    have h1 := ih fun v hv => h v (by omega)
    have h2 := h k (by omega)
    unfold negTo
    split <;> split <;> first | omega | (rename_i a b; exact absurd (h2 a) b)
theorem negTo_lt {l l' : List Int} {k x : Nat} (h : ∀ v, v < k → ix l' v < 0 → ix l v < 0) (hx : x < k) (h1 : ix l x < 0) (h2 : 0 ≤ ix l' x) : negTo l' k < negTo l k := by
  induction k with
  | zero => omega
  | succ k ih =>
    have h3 := h k (by omega)
    by_cases e : x = k
    · subst e
      have h4 := negTo_mono (k := x) fun v hv => h v (by omega)
      unfold negTo
      rw [if_pos h1, if_neg (by omega)]
      omega
    · have h4 := ih (fun v hv => h v (by omega)) (by omega)
      unfold negTo
      split <;> split <;> first | omega | (rename_i a b; exact absurd (h3 a) b)
theorem rankAt_falls (h : v < a.owner.length) (hn : newB a who m (rankAt a who m goal k) v = true) : negTo (rankAt a who m goal (k + 1)) a.owner.length < negTo (rankAt a who m goal k) a.owner.length := by
  refine negTo_lt (x := v) (fun u hu h1 => ?_) h ?_ ?_
  · rcases Int.lt_or_le (ix (rankAt a who m goal k) u) 0 with h2 | h2
    · exact h2
    · rw [rankAt_stays hu h2] at h1; exact h1
  · unfold newB at hn
    simp only [Bool.and_eq_true, decide_eq_true_eq] at hn
    exact hn.1
  · rw [ix_rankAt_succ h, if_pos hn]; omega

theorem rev_ind {α : Type} {motive : List α → Prop} (nil : motive []) (append : ∀ l x, motive l → motive (l ++ [x])) (l : List α) : motive l := by
  obtain ⟨n, hn⟩ : ∃ n, l.length = n := ⟨_, rfl⟩
  induction n generalizing l with
  | zero => rw [List.eq_nil_of_length_eq_zero hn]; exact nil
  | succ n ih =>
    rcases List.eq_nil_or_concat l with h | ⟨L, b, h⟩
    · subst h; exact nil
    · rw [h, List.concat_eq_append]
      exact append _ _ (ih L (by rw [h] at hn; simpa using hn))
/-! The reference's rank of a vertex. -/
def lowS (m : List Bool) (r : List Int) (acc u : Int) : Int := if bx m u.toNat && decide (0 ≤ ix r u.toNat) then (if acc < 0 ∨ ix r u.toNat < acc then ix r u.toNat else acc) else acc
def topS (m : List Bool) (r : List Int) (acc u : Int) : Int := if bx m u.toNat && decide (0 ≤ ix r u.toNat) then max acc (ix r u.toNat) else acc
def lowOf (m : List Bool) (r l : List Int) : Int := l.foldl (lowS m r) (-1)
def topOf (m : List Bool) (r l : List Int) : Int := l.foldl (topS m r) (-1)
theorem lowOf_take {l : List Int} {t : Nat} (h : t < l.length) : lowOf m r (l.take (t + 1)) = lowS m r (lowOf m r (l.take t)) (ix l t) := by unfold lowOf; rw [take_ix h, List.foldl_append]; rfl
theorem topOf_take {l : List Int} {t : Nat} (h : t < l.length) : topOf m r (l.take (t + 1)) = topS m r (topOf m r (l.take t)) (ix l t) := by unfold topOf; rw [take_ix h, List.foldl_append]; rfl
def good (m : List Bool) (r : List Int) (u : Int) : Bool := bx m u.toNat && decide (0 ≤ ix r u.toNat)
theorem low_spec (m : List Bool) (r l : List Int) : (lowOf m r l = -1 ∧ ∀ u ∈ l, good m r u = false) ∨ ((∃ u ∈ l, good m r u = true ∧ lowOf m r l = ix r u.toNat) ∧ ∀ u ∈ l, good m r u = true → lowOf m r l ≤ ix r u.toNat) := by
  induction l using rev_ind with
  | nil => exact .inl ⟨rfl, fun u hu => by cases hu⟩
  | append l x ih =>
    have e : lowOf m r (l ++ [x]) = lowS m r (lowOf m r l) x := by unfold lowOf; rw [List.foldl_append]; rfl
    rw [e]
    unfold lowS
    rcases hg : good m r x with _ | _
    · have hg' : (bx m x.toNat && decide (0 ≤ ix r x.toNat)) = false := hg
      rw [hg']
      simp only [Bool.false_eq_true, if_false]
      rcases ih with ⟨h1, h2⟩ | ⟨⟨u, hu, h1, h2⟩, h3⟩
      · refine .inl ⟨h1, fun u hu => ?_⟩
        rcases List.mem_append.1 hu with hu | hu
        · exact h2 u hu
        · rw [List.mem_singleton.1 hu]; exact hg
      · refine .inr ⟨⟨u, List.mem_append_left _ hu, h1, h2⟩, fun y hy hgy => ?_⟩
        rcases List.mem_append.1 hy with hy | hy
        · exact h3 y hy hgy
        · rw [List.mem_singleton.1 hy, hg] at hgy; cases hgy
    · have hg' : (bx m x.toNat && decide (0 ≤ ix r x.toNat)) = true := hg
      have hx0 : 0 ≤ ix r x.toNat := by simp only [Bool.and_eq_true, decide_eq_true_eq] at hg'; exact hg'.2
      rw [hg']
      simp only [if_true]
      rcases ih with ⟨h1, h2⟩ | ⟨⟨u, hu, h1, h2⟩, h3⟩
      · rw [h1, if_pos (.inl (by omega))]
        refine .inr ⟨⟨x, by simp, hg, rfl⟩, fun y hy hgy => ?_⟩
        rcases List.mem_append.1 hy with hy | hy
        · rw [h2 y hy] at hgy; cases hgy
        · rw [List.mem_singleton.1 hy]; exact Int.le_refl _
      · have hu0 : 0 ≤ ix r u.toNat := by unfold good at h1; simp only [Bool.and_eq_true, decide_eq_true_eq] at h1; exact h1.2
        by_cases hc : lowOf m r l < 0 ∨ ix r x.toNat < lowOf m r l
        · rw [if_pos hc]
          refine .inr ⟨⟨x, by simp, hg, rfl⟩, fun y hy hgy => ?_⟩
          rcases List.mem_append.1 hy with hy | hy
          · have := h3 y hy hgy; omega
          · rw [List.mem_singleton.1 hy]; exact Int.le_refl _
        · rw [if_neg hc]
          refine .inr ⟨⟨u, List.mem_append_left _ hu, h1, h2⟩, fun y hy hgy => ?_⟩
          rcases List.mem_append.1 hy with hy | hy
          · exact h3 y hy hgy
          · rw [List.mem_singleton.1 hy]; omega
theorem top_spec (m : List Bool) (r l : List Int) : (topOf m r l = -1 ∧ ∀ u ∈ l, good m r u = false) ∨ ((∃ u ∈ l, good m r u = true ∧ topOf m r l = ix r u.toNat) ∧ ∀ u ∈ l, good m r u = true → ix r u.toNat ≤ topOf m r l) := by
  induction l using rev_ind with
  | nil => exact .inl ⟨rfl, fun u hu => by cases hu⟩
  | append l x ih =>
    have e : topOf m r (l ++ [x]) = topS m r (topOf m r l) x := by unfold topOf; rw [List.foldl_append]; rfl
    rw [e]
    unfold topS
    rcases hg : good m r x with _ | _
    · have hg' : (bx m x.toNat && decide (0 ≤ ix r x.toNat)) = false := hg
      rw [hg']
      simp only [Bool.false_eq_true, if_false]
      rcases ih with ⟨h1, h2⟩ | ⟨⟨u, hu, h1, h2⟩, h3⟩
      · refine .inl ⟨h1, fun u hu => ?_⟩
        rcases List.mem_append.1 hu with hu | hu
        · exact h2 u hu
        · rw [List.mem_singleton.1 hu]; exact hg
      · refine .inr ⟨⟨u, List.mem_append_left _ hu, h1, h2⟩, fun y hy hgy => ?_⟩
        rcases List.mem_append.1 hy with hy | hy
        · exact h3 y hy hgy
        · rw [List.mem_singleton.1 hy, hg] at hgy; cases hgy
    · have hg' : (bx m x.toNat && decide (0 ≤ ix r x.toNat)) = true := hg
      have hx0 : 0 ≤ ix r x.toNat := by simp only [Bool.and_eq_true, decide_eq_true_eq] at hg'; exact hg'.2
      rw [hg']
      simp only [if_true]
      rcases ih with ⟨h1, h2⟩ | ⟨⟨u, hu, h1, h2⟩, h3⟩
      · rw [h1]
        refine .inr ⟨⟨x, by simp, hg, by omega⟩, fun y hy hgy => ?_⟩
        rcases List.mem_append.1 hy with hy | hy
        · rw [h2 y hy] at hgy; cases hgy
        · rw [List.mem_singleton.1 hy]; omega
      · by_cases hc : topOf m r l ≤ ix r x.toNat
        · refine .inr ⟨⟨x, by simp, hg, by omega⟩, fun y hy hgy => ?_⟩
          rcases List.mem_append.1 hy with hy | hy
          · have := h3 y hy hgy; omega
          · rw [List.mem_singleton.1 hy]; omega
        · refine .inr ⟨⟨u, List.mem_append_left _ hu, h1, by omega⟩, fun y hy hgy => ?_⟩
          rcases List.mem_append.1 hy with hy | hy
          · have := h3 y hy hgy; omega
          · rw [List.mem_singleton.1 hy]; omega

/-- A successor inside that has no rank: what lets the other player's vertex wait. -/
def waitB (m : List Bool) (r : List Int) (u : Int) : Bool := bx m u.toNat && decide (ix r u.toNat < 0)
def rankV (a : ArenaD) (who : Int) (m : List Bool) (r : List Int) (v : Nat) : Int :=
  if ix a.owner v ≠ who ∧ (rx a.next v).any (waitB m r) = true then -1
  else if lowOf m r (rx a.next v) < 0 then -1
  else if ix a.owner v = who then lowOf m r (rx a.next v) + 1 else topOf m r (rx a.next v) + 1
theorem rankV_pulled (hv : ∀ u ∈ rx a.next v, u.toNat < a.owner.length) (hvn : v < a.owner.length) (hm : bx m v = true) (h0 : ix (rankAt a who m goal k) v < 0) :
    decide (rankV a who m (rankAt a who m goal k) v = (k : Int) + 1) = pulledB a who m (rankAt a who m goal k) v := by
  have hb := fun u (hu : u ∈ rx a.next v) => rankAt_bounds (who := who) (m := m) (goal := goal) (k := k) (hv u hu)
  have hgood : ∀ u, good m (rankAt a who m goal k) u = true ↔ bx m u.toNat = true ∧ 0 ≤ ix (rankAt a who m goal k) u.toNat := fun u => by unfold good; simp
  by_cases ho : ix a.owner v = who
  · -- the player's own vertex
    have hp : pulledB a who m (rankAt a who m goal k) v = (rx a.next v).any fun u => good m (rankAt a who m goal k) u := by unfold pulledB; rw [if_pos ho]; rfl
    have hr : rankV a who m (rankAt a who m goal k) v = if lowOf m (rankAt a who m goal k) (rx a.next v) < 0 then -1 else lowOf m (rankAt a who m goal k) (rx a.next v) + 1 := by
      unfold rankV; rw [if_neg (fun h => h.1 ho), if_pos ho]
    rw [hp, hr]
    rcases low_spec m (rankAt a who m goal k) (rx a.next v) with ⟨h1, h2⟩ | ⟨⟨u, hu, h1, h2⟩, h3⟩
    · have : ((rx a.next v).any fun u => good m (rankAt a who m goal k) u) = false := by
        rw [List.any_eq_false]; intro u hu; rw [h2 u hu]; simp
      rw [this, h1, if_pos (by omega)]
      simp; omega
    · have : ((rx a.next v).any fun u => good m (rankAt a who m goal k) u) = true := List.any_eq_true.2 ⟨u, hu, h1⟩
      have hu0 := ((hgood u).1 h1).2
      rw [this, if_neg (by omega)]
      simp only [decide_eq_true_eq]
      rcases k with _ | k
      · have := (hb u hu).2.1; rw [h2]; simp at *; omega
      · have hle := (hb u hu).2.1
        by_cases hlt : ix (rankAt a who m goal (k + 1)) u.toNat < (k : Int) + 1
        · have h4 := rankAt_before (hv u hu) hu0 hlt
          have h5 := rankAt_unpulled hvn hm h0
          unfold pulledB at h5
          rw [if_pos ho, List.any_eq_false] at h5
          exact absurd (by simp [((hgood u).1 h1).1]; omega) (h5 u hu)
        · rw [h2]; push_cast at *; omega
  · have hp : pulledB a who m (rankAt a who m goal k) v = (((rx a.next v).any fun u => bx m u.toNat) && ((rx a.next v).all fun u => !bx m u.toNat || decide (0 ≤ ix (rankAt a who m goal k) u.toNat))) := by unfold pulledB; rw [if_neg ho]
    by_cases hw : (rx a.next v).any (waitB m (rankAt a who m goal k)) = true
    · have hr : rankV a who m (rankAt a who m goal k) v = -1 := by unfold rankV; rw [if_pos ⟨ho, hw⟩]
      obtain ⟨u, hu, h1⟩ := List.any_eq_true.1 hw
      unfold waitB at h1
      simp only [Bool.and_eq_true, decide_eq_true_eq] at h1
      have : ((rx a.next v).all fun u => !bx m u.toNat || decide (0 ≤ ix (rankAt a who m goal k) u.toNat)) = false := by
        rw [List.all_eq_false]; exact ⟨u, hu, by simp [h1.1]; omega⟩
      rw [hp, this, hr]
      simp; omega
    · have hr : rankV a who m (rankAt a who m goal k) v = if lowOf m (rankAt a who m goal k) (rx a.next v) < 0 then -1 else topOf m (rankAt a who m goal k) (rx a.next v) + 1 := by
        unfold rankV; rw [if_neg (fun h => hw h.2), if_neg ho]
      have hnw : ∀ u ∈ rx a.next v, bx m u.toNat = true → 0 ≤ ix (rankAt a who m goal k) u.toNat := fun u hu hmu => by
        rcases Int.lt_or_le (ix (rankAt a who m goal k) u.toNat) 0 with h | h
        · exact absurd (List.any_eq_true.2 ⟨u, hu, by unfold waitB; simp [hmu, h]⟩) hw
        · exact h
      have hall : ((rx a.next v).all fun u => !bx m u.toNat || decide (0 ≤ ix (rankAt a who m goal k) u.toNat)) = true := by
        rw [List.all_eq_true]; intro u hu
        cases hmu : bx m u.toNat
        · rfl
        · simpa using hnw u hu hmu
      rw [hp, hall, hr, Bool.and_true]
      rcases low_spec m (rankAt a who m goal k) (rx a.next v) with ⟨h1, h2⟩ | ⟨⟨u, hu, h1, h2⟩, h3⟩
      · have : ((rx a.next v).any fun u => bx m u.toNat) = false := by
          rw [List.any_eq_false]; intro u hu hmu
          have := h2 u hu
          rw [Bool.eq_false_iff] at this
          exact this ((hgood u).2 ⟨hmu, hnw u hu hmu⟩)
        rw [this, h1, if_pos (by omega)]
        simp; omega
      · have hu0 := (hgood u).1 h1
        have : ((rx a.next v).any fun u => bx m u.toNat) = true := List.any_eq_true.2 ⟨u, hu, hu0.1⟩
        rw [this, if_neg (by omega)]
        simp only [decide_eq_true_eq]
        rcases top_spec m (rankAt a who m goal k) (rx a.next v) with ⟨_, h5⟩ | ⟨⟨y, hy, h4, h5⟩, h6⟩
        · rw [h5 u hu] at h1; cases h1
        · have hle := (hb y hy).2.1
          have hy0 := (hgood y).1 h4
          rcases k with _ | k
          · rw [h5]; simp at *; omega
          · by_cases hlt : ix (rankAt a who m goal (k + 1)) y.toNat < (k : Int) + 1
            · have h7 := rankAt_unpulled hvn hm h0
              unfold pulledB at h7
              rw [if_neg ho] at h7
              have h8 : ((rx a.next v).all fun u => !bx m u.toNat || decide (0 ≤ ix (rankAt a who m goal k) u.toNat)) = true := by
                rw [List.all_eq_true]; intro x hx
                cases hmx : bx m x.toNat
                · rfl
                · have h9 := hnw x hx hmx
                  have h10 := h6 x hx ((hgood x).2 ⟨hmx, h9⟩)
                  have h11 := rankAt_before (hv x hx) h9 (by omega)
                  simp; omega
              rw [this, h8] at h7
              cases h7
            · rw [h5]; push_cast at *; omega

/-- The smallest successor with the next lower rank. -/
def pullV (a : ArenaD) (who : Int) (r : List Int) (v : Nat) : Int := if ix a.owner v = who ∧ 0 < ix r v then ((rx a.next v).find? fun u => decide (ix r u.toNat = ix r v - 1)).getD (-1) else -1
def pullL (a : ArenaD) (who : Int) (s goal : List Int) : List Int := (List.range a.owner.length).map fun v => pullV a who (ranksL a who s goal) v
@[simp] theorem length_pullL : (pullL a who s goal).length = a.owner.length := by simp [pullL]
theorem ix_pullL (h : v < a.owner.length) : ix (pullL a who s goal) v = pullV a who (ranksL a who s goal) v := by simp [ix, pullL, h]
def attrTo (r : List Int) (k : Nat) : List Int := (upFrom 0 k).filter fun v => decide (0 ≤ ix r v.toNat)
theorem attrTo_succ (r : List Int) (k : Nat) : attrTo r (k + 1) = attrTo r k ++ if decide (0 ≤ ix r k) = true then [(k : Int)] else [] := by
  unfold attrTo
  rw [upFrom_snoc, List.filter_append]
  congr 1
  by_cases h : 0 ≤ ix r k <;> simp [h]
theorem attrTo_len (r : List Int) (k : Nat) : (attrTo r k).length ≤ k := by
  have := List.length_filter_le (fun v => decide (0 ≤ ix r v.toNat)) (upFrom 0 k)
  rw [length_upFrom] at this
  exact this
def attrL (a : ArenaD) (who : Int) (s goal : List Int) : List Int := attrTo (ranksL a who s goal) a.owner.length
def canRankB (a : ArenaD) (who : Int) (s goal : List Int) : Bool := canB a who s goal
def ranksG (a : ArenaD) (who : Int) (s goal : List Int) : List Int := if canB a who s goal then ranksL a who s goal else []
def attrG (a : ArenaD) (who : Int) (s goal : List Int) : List Int := if canB a who s goal then attrL a who s goal else []
def pullG (a : ArenaD) (who : Int) (s goal : List Int) : List Int := if canB a who s goal then pullL a who s goal else []
end Go.Proofs.Ytigjhhcndigncaa
