/- The set of the priorities: put in one by one, or sorted and compacted. No program in sight. -/
import Derived.Test.YtpnophmanpfejaaSortPlain
import Derived.Lib.SlicesCompact
namespace Go.Proofs.Ytpnophmanpfejaa
set_option linter.unusedSimpArgs false
set_option linter.unusedVariables false
open Go.Lib

theorem compactUpTo_sorted {d : Array Int} (h : ∀ i j, i ≤ j → j < d.size → d[i]! ≤ d[j]!) : ∀ m, m ≤ d.size → (compactUpTo d m).Pairwise (· < ·) ∧ ∀ x, x ∈ compactUpTo d m ↔ ∃ j, j < m ∧ d[j]! = x := by
  intro m
  induction m with
  | zero => intro _; simp [compactUpTo]
  | succ m ih =>
    intro hm
    obtain ⟨h1, h2⟩ := ih (by omega)
    rw [compactUpTo_succ]
    by_cases hk : keeps d m = true
    · rw [if_pos hk]
      refine ⟨?_, fun x => ?_⟩
      · rw [List.pairwise_append]
        refine ⟨h1, by simp, fun x hx y hy => ?_⟩
        rw [List.mem_singleton] at hy
        subst hy
        obtain ⟨j, hj, rfl⟩ := (h2 x).1 hx
        have hk' : m = 0 ∨ d[m]! ≠ d[m - 1]! := by simpa [keeps] using hk
        have h3 := h j (m - 1) (by omega) (by omega)
        have h4 := h (m - 1) m (by omega) (by omega)
        rcases hk' with h0 | h0
        · omega
        · omega
      · rw [List.mem_append, h2, List.mem_singleton]
        constructor
        · rintro (⟨j, hj, e⟩ | e)
          · exact ⟨j, by omega, e⟩
          · exact ⟨m, by omega, e.symm⟩
        · rintro ⟨j, hj, e⟩
          by_cases ej : j = m
          · subst ej; exact .inr e.symm
          · exact .inl ⟨j, by omega, e⟩
    · rw [if_neg hk, List.append_nil]
      refine ⟨h1, fun x => ?_⟩
      rw [h2]
      have hk' : ¬ (m = 0 ∨ d[m]! ≠ d[m - 1]!) := by simpa [keeps] using hk
      constructor
      · rintro ⟨j, hj, e⟩
        exact ⟨j, by omega, e⟩
      · rintro ⟨j, hj, e⟩
        by_cases ej : j = m
        · subst ej
          refine ⟨j - 1, by omega, ?_⟩
          rw [← e]
          by_cases h0 : d[j]! = d[j - 1]!
          · exact h0.symm
          · exact absurd (Or.inr h0) hk'
        · exact ⟨j, by omega, e⟩
theorem compact_sortL (l : List Int) : compact (sortL l) = intoAll [] l := by
  have hs : ∀ i j, i ≤ j → j < (sortL l).toArray.size → (sortL l).toArray[i]! ≤ (sortL l).toArray[j]! := fun i j hij hj => by
    have hj' : j < (sortL l).length := by simpa using hj
    by_cases e : i = j
    · subst e; exact Int.le_refl _
    · have := List.pairwise_iff_getElem.1 (sortL_le l) i j (by omega) hj' (by omega)
      simpa [getElem!_pos, hj', (show i < l.length by simpa using (show i < (sortL l).length by omega)), (show j < l.length by simpa using hj')] using this
  obtain ⟨h1, h2⟩ := compactUpTo_sorted hs (sortL l).length (by simp)
  obtain ⟨h3, h4⟩ := intoAll_spec (l := []) (xs := l) List.Pairwise.nil
  refine lt_ext h1 h3 fun x => ?_
  rw [show compact (sortL l) = compactUpTo (sortL l).toArray (sortL l).length from rfl] 
  rw [h2, h4, ← mem_sortL]
  constructor
  · rintro ⟨j, hj, e⟩
    have hj' : j < l.length := by simpa using hj
    refine .inl ?_
    rw [← e]
    simp [getElem!_pos, hj']
  · rintro (hx | hx)
    · obtain ⟨j, hj, e⟩ := List.mem_iff_getElem.1 hx
      have hj' : j < l.length := by simpa using hj
      refine ⟨j, hj, ?_⟩
      rw [← e]
      simp [getElem!_pos, hj']
    · cases hx
theorem compact_len (l : List Int) : (compact l).length ≤ l.length := by
  unfold compact compactUpTo
  rw [List.length_map]
  have := List.length_filter_le (keeps l.toArray) (List.range l.length)
  simpa using this

/-- The priorities that l's vertices have, as a set. -/
def priosL (prio l : List Int) : List Int := intoAll [] (l.map fun x => ix prio x.toNat)
theorem priosL_len (prio l : List Int) : (priosL prio l).length ≤ l.length := by
  have := intoAll_len [] (l.map fun x => ix prio x.toNat)
  simpa [priosL] using this
end Go.Proofs.Ytpnophmanpfejaa
