/- Sorted lists, and one element put into its place. No program in sight. -/
import Derived.Test.YtpnophmanpfejaaPkA
namespace Go.Proofs.Ytpnophmanpfejaa
set_option linter.unusedSimpArgs false
set_option linter.unusedVariables false

def sortL (l : List Int) : List Int := l.mergeSort fun x y => decide (x ≤ y)
theorem mem_sortL {l : List Int} {x : Int} : x ∈ sortL l ↔ x ∈ l := (List.mergeSort_perm l _).mem_iff
@[simp] theorem length_sortL (l : List Int) : (sortL l).length = l.length := List.length_mergeSort ..
theorem sortL_le (l : List Int) : (sortL l).Pairwise (· ≤ ·) := by
  have := List.pairwise_mergeSort (le := fun (x y : Int) => decide (x ≤ y)) (fun a b c h1 h2 => by simp at *; omega) (fun a b => by simp; omega) l
  exact this.imp fun h => by simpa using h
theorem sortL_lt {l : List Int} (h : l.Nodup) : (sortL l).Pairwise (· < ·) := by
  have h1 : (sortL l).Nodup := (List.mergeSort_perm l _).nodup_iff.2 h
  exact ((sortL_le l).and h1).imp fun h => by have h1 := h.1; have h2 := h.2; omega
theorem Rising.lt {l : List Int} (h : Rising l) : l.Pairwise (· < ·) := List.pairwise_iff_getElem.2 fun i j hi hj hij => by
  have := h i j hij hj
  rwa [ix_lt hi, ix_lt hj] at this
theorem rising_of {l : List Int} (h : l.Pairwise (· < ·)) : Rising l := fun i j hij hj => by
  rw [ix_lt (by omega), ix_lt hj]
  exact List.pairwise_iff_getElem.1 h i j (by omega) hj hij
/-- Strictly rising lists with the same elements are the same. -/
theorem lt_ext {l m : List Int} (hl : l.Pairwise (· < ·)) (hm : m.Pairwise (· < ·)) (h : ∀ x, x ∈ l ↔ x ∈ m) : l = m := by
  induction l generalizing m with
  | nil =>
    cases m with
    | nil => rfl
    | cons y m => exact absurd ((h y).2 (by simp)) (by simp)
  | cons x l ih =>
    cases m with
    | nil => exact absurd ((h x).1 (by simp)) (by simp)
    | cons y m =>
      rw [List.pairwise_cons] at hl hm
      have e : x = y := by
        have h1 := (h x).1 (by simp)
        have h2 := (h y).2 (by simp)
        rcases List.mem_cons.1 h1 with e | h1
        · exact e
        · rcases List.mem_cons.1 h2 with e | h2
          · exact e.symm
          · have := hl.1 _ h2; have := hm.1 _ h1; omega
      subst e
      rw [ih hl.2 hm.2 fun z => ?_]
      constructor
      · intro hz
        rcases List.mem_cons.1 ((h z).1 (by simp [hz])) with e | h1
        · have := hl.1 _ hz; omega
        · exact h1
      · intro hz
        rcases List.mem_cons.1 ((h z).2 (by simp [hz])) with e | h1
        · have := hm.1 _ hz; omega
        · exact h1
theorem Rising.nodup {l : List Int} (h : Rising l) : l.Nodup := h.lt.imp fun h => by omega

/-- Where x belongs in l. -/
def spot (l : List Int) (x : Int) : Nat := (l.takeWhile fun y => decide (y < x)).length
theorem spot_le (l : List Int) (x : Int) : spot l x ≤ l.length := by
  unfold spot
  have := List.takeWhile_sublist (l := l) (fun y => decide (y < x))
  exact this.length_le
theorem spot_lt {l : List Int} {x : Int} {k : Nat} (h : k < spot l x) : ix l k < x := by
  induction l generalizing k with
  | nil => simp [spot] at h
  | cons y l ih =>
    by_cases hy : y < x
    · rcases k with _ | k
      · simpa [ix] using hy
      · have h2 : k < spot l x := by unfold spot at *; simp [List.takeWhile_cons, hy] at h; exact h
        simpa [ix] using ih h2
    · unfold spot at h; simp [List.takeWhile_cons, hy] at h
theorem spot_ge {l : List Int} {x : Int} (h : spot l x < l.length) : x ≤ ix l (spot l x) := by
  induction l with
  | nil => simp at h
  | cons y l ih =>
    by_cases hy : y < x
    · have h2 : spot (y :: l) x = spot l x + 1 := by unfold spot; simp [List.takeWhile_cons, hy]
      rw [h2] at h ⊢
      have := ih (by simpa using h)
      simpa [ix] using this
    · have h2 : spot (y :: l) x = 0 := by unfold spot; simp [List.takeWhile_cons, hy]
      rw [h2]
      simp [ix]; omega
/-- Where the search stops. -/
theorem spot_eq {l : List Int} {x : Int} {k : Nat} (hk : k ≤ l.length) (h1 : ∀ j, j < k → ix l j < x) (h2 : k < l.length → x ≤ ix l k) : spot l x = k := by
  rcases Nat.lt_trichotomy (spot l x) k with h | h | h
  · have h3 := h1 _ h
    have h4 := spot_ge (l := l) (x := x) (by omega)
    omega
  · exact h
  · have h3 := spot_lt h
    have h4 := h2 (by have := spot_le l x; omega)
    omega
def intoL (l : List Int) (x : Int) : List Int := if spot l x < l.length ∧ ix l (spot l x) = x then l else l.take (spot l x) ++ [x] ++ l.drop (spot l x)
theorem intoL_len (l : List Int) (x : Int) : (intoL l x).length ≤ l.length + 1 := by
  unfold intoL
  split
  · omega
  · have := spot_le l x
    simp; omega
theorem intoL_spec {l : List Int} {x : Int} (h : l.Pairwise (· < ·)) : (intoL l x).Pairwise (· < ·) ∧ ∀ y, y ∈ intoL l x ↔ y = x ∨ y ∈ l := by
  unfold intoL
  have hle := spot_le l x
  by_cases hc : spot l x < l.length ∧ ix l (spot l x) = x
  · rw [if_pos hc]
    have hx : x ∈ l := mem_ix.2 ⟨_, hc.1, hc.2⟩
    refine ⟨h, fun y => ⟨.inr, fun hy => hy.elim (fun e => e ▸ hx) id⟩⟩
  · rw [if_neg hc]
    have hlo : ∀ y ∈ l.take (spot l x), y < x := fun y hy => by
      obtain ⟨i, hi, e⟩ := mem_ix.1 hy
      have hi' : i < spot l x := by rw [List.length_take] at hi; omega
      have := spot_lt hi'
      have h2 : ix (l.take (spot l x)) i = ix l i := by simp [ix, List.getElem?_take, hi']
      omega
    have hhi : ∀ y ∈ l.drop (spot l x), x < y := fun y hy => by
      obtain ⟨i, hi, e⟩ := mem_ix.1 hy
      rw [List.length_drop] at hi
      have h2 : ix (l.drop (spot l x)) i = ix l (spot l x + i) := by simp [ix]
      have h3 := spot_ge (l := l) (x := x) (by omega)
      have h4 : ix l (spot l x) < x → False := fun h => by omega
      have h5 : ¬ ix l (spot l x) = x := fun e => hc ⟨by omega, e⟩
      rcases Nat.eq_zero_or_pos i with e0 | e0
      · subst e0; simp at h2; omega
      · have := rising_of h (spot l x) (spot l x + i) (by omega) (by omega)
        omega
    have hp := h
    rw [← List.take_append_drop (spot l x) l, List.pairwise_append] at hp
    refine ⟨?_, fun y => ?_⟩
    · rw [List.append_assoc, List.pairwise_append]
      refine ⟨hp.1, List.pairwise_cons.2 ⟨fun y hy => hhi y (by simpa using hy), by simpa using hp.2.1⟩, fun y hy z hz => ?_⟩
      rcases List.mem_append.1 hz with hz | hz
      · rw [List.mem_singleton.1 hz]; exact hlo y hy
      · exact hp.2.2 y hy z hz
    · have : y ∈ l ↔ y ∈ l.take (spot l x) ∨ y ∈ l.drop (spot l x) := by
        rw [← List.mem_append, List.take_append_drop]
      rw [this]
      simp only [List.mem_append, List.mem_singleton]
      constructor
      · rintro ((h | h) | h)
        · exact .inr (.inl h)
        · exact .inl h
        · exact .inr (.inr h)
      · rintro (h | h | h)
        · exact .inl (.inr h)
        · exact .inl (.inl h)
        · exact .inr h
/-- All of them put in. -/
def intoAll (l xs : List Int) : List Int := xs.foldl intoL l
theorem intoAll_take {l xs : List Int} {k : Nat} (hk : k < xs.length) : intoAll l (xs.take (k + 1)) = intoL (intoAll l (xs.take k)) (ix xs k) := by unfold intoAll; rw [take_ix hk, List.foldl_append]; rfl
theorem intoAll_spec {l xs : List Int} (h : l.Pairwise (· < ·)) : (intoAll l xs).Pairwise (· < ·) ∧ ∀ y, y ∈ intoAll l xs ↔ y ∈ xs ∨ y ∈ l := by
  unfold intoAll
  induction xs generalizing l with
  | nil => exact ⟨h, fun y => by simp⟩
  | cons x xs ih =>
    obtain ⟨h1, h2⟩ := intoL_spec (x := x) h
    obtain ⟨h3, h4⟩ := ih h1
    refine ⟨h3, fun y => ?_⟩
    rw [List.foldl_cons, h4, h2]
    simp only [List.mem_cons]
    constructor
    · rintro (h | h | h)
      · exact .inl (.inr h)
      · exact .inl (.inl h)
      · exact .inr h
    · rintro ((h | h) | h)
      · exact .inr (.inl h)
      · exact .inl h
      · exact .inr (.inr h)
theorem intoAll_len (l xs : List Int) : (intoAll l xs).length ≤ l.length + xs.length := by
  unfold intoAll
  induction xs generalizing l with
  | nil => simp
  | cons x xs ih =>
    rw [List.foldl_cons]
    have := ih (intoL l x)
    have := intoL_len l x
    simp only [List.length_cons]
    omega
/-- The union of two sets. -/
def bothL (a b : List Int) : List Int := sortL (a ++ lessL b a)
theorem bothL_eq {a b : List Int} (ha : Rising a) (hb : Rising b) : bothL a b = intoAll a b := by
  obtain ⟨h1, h2⟩ := intoAll_spec (xs := b) ha.lt
  refine lt_ext (sortL_lt ?_) h1 fun x => ?_
  · rw [List.nodup_append]
    refine ⟨ha.nodup, hb.nodup.sublist List.filter_sublist, fun x hx y hy e => ?_⟩
    subst e
    have := (List.mem_filter.1 hy).2
    have h3 := hasB_iff.2 hx
    rw [h3] at this; cases this
  · unfold bothL
    rw [mem_sortL, h2, List.mem_append]
    unfold lessL
    rw [List.mem_filter]
    constructor
    · rintro (h | h)
      · exact .inr h
      · exact .inl h.1
    · rintro (h | h)
      · by_cases hx : x ∈ a
        · exact .inl hx
        · right
          refine ⟨h, ?_⟩
          have : hasB a x = false := by rw [Bool.eq_false_iff]; exact fun h' => hx (hasB_iff.1 h')
          rw [this]; rfl
      · exact .inl h
def BothOf (a b : List Int) : List Int := if bothOkB a b then bothL a b else []
theorem BothOf_len (a b : List Int) : (BothOf a b).length ≤ a.length + b.length := by
  unfold BothOf
  split
  · unfold bothL
    rw [length_sortL, List.length_append]
    have : (lessL b a).length ≤ b.length := List.length_filter_le _ _
    omega
  · simp
end Go.Proofs.Ytpnophmanpfejaa
