/- A game that is drawn vertex by vertex is a valid one. No program in sight. -/
import Derived.Test.YtogfpalgnjlfcaaSetsLaw
import Derived.Test.YtogfpalgnjlfcaaPkB
namespace Go.Proofs.Ytogfpalgnjlfcaa
set_option linter.unusedSimpArgs false
set_option linter.unusedVariables false

theorem IsSet.upto {l : List Int} {n m : Int} (h : IsSet l n) (hnm : n ≤ m) : IsSet l m := fun k hk => ⟨(h k hk).1, by have := (h k hk).2.1; omega, (h k hk).2.2⟩
theorem isSet_one {y n : Int} (h0 : 0 ≤ y) (h1 : y < n) : IsSet [y] n := fun k hk => by
  have : k = 0 := by simpa using hk
  subst this
  exact ⟨by simpa [ix] using h0, by simpa [ix] using h1, fun h => by omega⟩
theorem both_one {l : List Int} {N : Nat} {y : Int} (hl : IsSet l N) (hN : N ≤ 256) (h0 : 0 ≤ y) (h1 : y < N) : IsSet (BothOf l [y]) N ∧ BothOf l [y] ≠ [] ∧ (BothOf l [y]).length ≤ l.length + 1 := by
  obtain ⟨h2, h3⟩ := BothOf_spec (hl.upto (m := 256) (by omega)) (isSet_one h0 (by omega : y < 256))
  refine ⟨isSet_of h2 fun x hx => ?_, fun e => ?_, ?_⟩
  · rcases (h3 x).1 hx with h | h
    · exact hl.rng x h
    · rw [List.mem_singleton] at h; omega
  · have := (h3 y).2 (.inr (by simp))
    rw [e] at this; cases this
  · have := BothOf_len l [y]
    simpa using this
/-- The first k vertices of a game of N vertices. -/
structure GameTo (N k : Nat) (l1 : List Int) (l2 : List (List Int)) (l3 : List Int) : Prop where
  one : l1.length = k
  two : l2.length = k
  three : l3.length = k
  own : ∀ j, j < k → 0 ≤ ix l1 j ∧ ix l1 j < 2
  row : ∀ j, j < k → IsSet (rx l2 j) N ∧ 1 ≤ (rx l2 j).length ∧ (rx l2 j).length ≤ 3
  prio : ∀ j, j < k → 0 ≤ ix l3 j ∧ ix l3 j < 6
theorem GameTo.zero (N : Nat) : GameTo N 0 [] [] [] := ⟨rfl, rfl, rfl, fun j hj => by omega, fun j hj => by omega, fun j hj => by omega⟩
theorem ix_snoc {l : List Int} {y : Int} {j : Nat} : ix (l ++ [y]) j = if j < l.length then ix l j else if j = l.length then y else 0 := by
  unfold ix
  by_cases h : j < l.length
  · simp [h, List.getElem?_append_left h]
  · by_cases e : j = l.length
    · subst e; simp
    · have : l.length + 1 ≤ j := by omega
      simp [h, e, this]
theorem rx_snocP {l : List (List Int)} {y : List Int} {j : Nat} : rx (l ++ [y]) j = if j < l.length then rx l j else if j = l.length then y else [] := by
  unfold rx
  by_cases h : j < l.length
  · simp [h, List.getElem?_append_left h]
  · by_cases e : j = l.length
    · subst e; simp
    · have : l.length + 1 ≤ j := by omega
      simp [h, e, this]
theorem GameTo.snoc {N k : Nat} {l1 : List Int} {l2 : List (List Int)} {l3 : List Int} (h : GameTo N k l1 l2 l3) {x y : Int} {row : List Int} (h0 : 0 ≤ x) (h1 : x < 2) (h2 : IsSet row N) (h3 : row ≠ []) (h4 : row.length ≤ 3) (h5 : 0 ≤ y) (h6 : y < 6) :
    GameTo N (k + 1) (l1 ++ [x]) (l2 ++ [row]) (l3 ++ [y]) := by
  have hr : 1 ≤ row.length := by
    cases row with
    | nil => exact absurd rfl h3
    | cons a l => simp
  refine ⟨by simp [h.one], by simp [h.two], by simp [h.three], fun j hj => ?_, fun j hj => ?_, fun j hj => ?_⟩
  · rw [ix_snoc, h.one]
    by_cases e : j < k
    · rw [if_pos e]; exact h.own j e
    · rw [if_neg e, if_pos (by omega)]; exact ⟨h0, h1⟩
  · rw [rx_snocP, h.two]
    by_cases e : j < k
    · rw [if_pos e]; exact h.row j e
    · rw [if_neg e, if_pos (by omega)]; exact ⟨h2, hr, h4⟩
  · rw [ix_snoc, h.three]
    by_cases e : j < k
    · rw [if_pos e]; exact h.prio j e
    · rw [if_neg e, if_pos (by omega)]; exact ⟨h5, h6⟩
theorem GameTo.ok {N : Nat} {l1 : List Int} {l2 : List (List Int)} {l3 : List Int} (h : GameTo N N l1 l2 l3) (h1 : 1 ≤ N) (h2 : N ≤ 256) : ParityOk ⟨⟨l1, l2⟩, l3⟩ := by
  refine ⟨⟨by show 1 ≤ l1.length; rw [h.one]; exact h1, by show l1.length ≤ 256; rw [h.one]; exact h2, by show l2.length = l1.length; rw [h.one, h.two], fun v hv => ?_⟩, by show l3.length = l1.length; rw [h.one, h.three], fun v hv => ?_⟩
  · have hv' : v < N := by rw [← h.one]; exact hv
    have h3 := h.own v hv'
    obtain ⟨h4, h5, h6⟩ := h.row v hv'
    unfold vertexOkB
    simp only [Bool.and_eq_true, decide_eq_true_eq]
    refine ⟨⟨⟨⟨h3.1, ?_⟩, h5⟩, ?_⟩, isSetB_iff.2 ?_⟩
    · show ix l1 v ≤ 1; omega
    · show (rx l2 v).length ≤ 16; omega
    · show IsSet (rx l2 v) (l1.length : Nat); rw [h.one]; exact h4
  · have hv' : v < N := by rw [← h.three]; exact hv
    have := h.prio v hv'
    show 0 ≤ ix l3 v ∧ ix l3 v ≤ 40
    omega
end Go.Proofs.Ytogfpalgnjlfcaa
