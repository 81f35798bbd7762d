/- What Pressed answers keeps parities and order, rises nowhere, and is pressed already. No program in sight. -/
import Derived.Test.YtpnophmanpfejaaPressWalks
namespace Go.Proofs.Ytpnophmanpfejaa
set_option linter.unusedSimpArgs false
set_option linter.unusedVariables false

theorem nowAt_step (ps : List Int) (k : Nat) : nowAt ps k ≤ nowAt ps (k + 1) ∧ nowAt ps (k + 1) ≤ nowAt ps k + 1 := by
  have h : nowAt ps (k + 1) = if (ix ps (k + 1) - ix ps k) % 2 = 0 then nowAt ps k else nowAt ps k + 1 := rfl
  rw [h]
  split <;> omega
theorem nowAt_mono {ps : List Int} {i j : Nat} (h : i ≤ j) : nowAt ps i ≤ nowAt ps j := by
  induction j with
  | zero => obtain rfl : i = 0 := by omega
            exact Int.le_refl _
  | succ j ih =>
    by_cases e : i = j + 1
    · subst e; exact Int.le_refl _
    · have h1 := ih (by omega)
      have h2 := (nowAt_step ps j).1
      omega
theorem nowAt_mid {ps : List Int} {j : Nat} {b : Int} (h0 : nowAt ps 0 ≤ b) (h1 : b ≤ nowAt ps j) : ∃ m, m ≤ j ∧ nowAt ps m = b := by
  induction j with
  | zero => exact ⟨0, Nat.le_refl _, by omega⟩
  | succ j ih =>
    by_cases e : b ≤ nowAt ps j
    · obtain ⟨m, hm, e⟩ := ih e
      exact ⟨m, by omega, e⟩
    · have h2 := (nowAt_step ps j).2
      exact ⟨j + 1, Nat.le_refl _, by omega⟩
theorem pressP_ix {g : ParityD} {v : Nat} (hv : v < g.prio.length) : ix (pressP g).prio v = lev (priosOf g) (ix g.prio v) := by
  show ix (pressL (priosOf g) g.prio) v = _
  simp [pressL, ix, hv]
theorem prio_spot {g : ParityD} {v : Nat} (hv : v < g.prio.length) : ∃ i, i < (priosOf g).length ∧ ix g.prio v = ix (priosOf g) i ∧ ix (pressP g).prio v = nowAt (priosOf g) i := by
  obtain ⟨i, hi, e⟩ := mem_ix.1 (mem_priosOf.2 (mem_ix.2 ⟨v, hv, rfl⟩) : ix g.prio v ∈ priosOf g)
  exact ⟨i, hi, e.symm, by rw [pressP_ix hv, ← e, lev_ix (priosOf_rising g) hi]⟩
theorem press_mod {g : ParityD} {v : Nat} (hv : v < g.prio.length) : ix (pressP g).prio v % 2 = ix g.prio v % 2 := by
  obtain ⟨i, _, e1, e2⟩ := prio_spot hv
  rw [e1, e2, nowAt_mod]
theorem press_le {g : ParityD} (hok : ParityOk g) {v : Nat} (hv : v < g.prio.length) : 0 ≤ ix (pressP g).prio v ∧ ix (pressP g).prio v ≤ ix g.prio v := by
  obtain ⟨i, hi, e1, e2⟩ := prio_spot hv
  rw [e1, e2]
  refine nowAt_bounds (priosOf_rising g) (fun x hx => ?_) hi
  obtain ⟨u, hu, rfl⟩ := mem_ix.1 (mem_priosOf.1 hx)
  exact (hok.prio u hu).1
theorem press_mono {g : ParityD} {v u : Nat} (hv : v < g.prio.length) (hu : u < g.prio.length) (h : ix g.prio v < ix g.prio u) : ix (pressP g).prio v ≤ ix (pressP g).prio u := by
  obtain ⟨i, hi, e1, e2⟩ := prio_spot hv
  obtain ⟨j, hj, e3, e4⟩ := prio_spot hu
  rw [e2, e4]
  refine nowAt_mono ?_
  rcases Nat.lt_or_ge j i with h1 | h1
  · have := pair_ix (priosOf_rising g) h1 hi
    omega
  · exact h1
theorem press_len (g : ParityD) : (pressP g).prio.length = g.prio.length := length_pressL _ _
theorem press_ok {g : ParityD} (hok : ParityOk g) : ParityOk (pressP g) :=
  ⟨hok.arena, by rw [press_len]; exact hok.len, fun v hv => by
    rw [press_len] at hv
    have h1 := press_le hok hv
    have h2 := hok.prio v hv
    omega⟩
theorem ix_prios {g : ParityD} {i : Nat} (hi : i < (priosOf g).length) : ∃ v, v < g.prio.length ∧ ix g.prio v = ix (priosOf g) i := by
  obtain ⟨v, hv, e⟩ := mem_ix.1 (mem_priosOf.1 (mem_ix.2 ⟨i, hi, rfl⟩) : ix (priosOf g) i ∈ g.prio)
  exact ⟨v, hv, e⟩
/-- The levels are the priorities of the pressed game. -/
theorem level_mem {g : ParityD} {i : Nat} (hi : i < (priosOf g).length) : nowAt (priosOf g) i ∈ priosOf (pressP g) := by
  obtain ⟨v, hv, e⟩ := ix_prios hi
  refine mem_priosOf.2 (mem_ix.2 ⟨v, by rw [press_len]; exact hv, ?_⟩)
  rw [pressP_ix hv, e, lev_ix (priosOf_rising g) hi]
theorem mem_level {g : ParityD} {x : Int} (hx : x ∈ priosOf (pressP g)) : ∃ i, i < (priosOf g).length ∧ x = nowAt (priosOf g) i := by
  obtain ⟨v, hv, rfl⟩ := mem_ix.1 (mem_priosOf.1 hx)
  rw [press_len] at hv
  obtain ⟨i, hi, _, e⟩ := prio_spot hv
  exact ⟨i, hi, e⟩
theorem press_now {g : ParityD} {k : Nat} (hk : k < (priosOf (pressP g)).length) : nowAt (priosOf (pressP g)) k = ix (priosOf (pressP g)) k := by
  have hq := priosOf_rising (pressP g)
  induction k with
  | zero =>
    obtain ⟨i, hi, e⟩ := mem_level (mem_ix.2 ⟨0, hk, rfl⟩ : ix (priosOf (pressP g)) 0 ∈ _)
    obtain ⟨j, hj, e2⟩ := mem_ix.1 (level_mem (g := g) (i := 0) (by omega))
    have h1 : nowAt (priosOf g) 0 ≤ nowAt (priosOf g) i := nowAt_mono (Nat.zero_le _)
    have h2 : ix (priosOf (pressP g)) 0 ≤ ix (priosOf (pressP g)) j := by
      rcases Nat.eq_zero_or_pos j with h | h
      · subst h; exact Int.le_refl _
      · exact Int.le_of_lt (pair_ix hq h hj)
    have h3 : nowAt (priosOf g) 0 = ix (priosOf g) 0 % 2 := rfl
    show ix (priosOf (pressP g)) 0 % 2 = _
    omega
  | succ k ih =>
    have h0 := ih (by omega)
    obtain ⟨i, hi, e⟩ := mem_level (mem_ix.2 ⟨k, by omega, rfl⟩ : ix (priosOf (pressP g)) k ∈ _)
    obtain ⟨j, hj, e2⟩ := mem_level (mem_ix.2 ⟨k + 1, hk, rfl⟩ : ix (priosOf (pressP g)) (k + 1) ∈ _)
    have h1 : ix (priosOf (pressP g)) k < ix (priosOf (pressP g)) (k + 1) := pair_ix hq (by omega) hk
    have h2 : nowAt (priosOf g) 0 ≤ nowAt (priosOf g) i := nowAt_mono (Nat.zero_le _)
    obtain ⟨m, hm, e3⟩ := nowAt_mid (ps := priosOf g) (j := j) (b := ix (priosOf (pressP g)) k + 1) (by omega) (by omega)
    obtain ⟨r, hr, e4⟩ := mem_ix.1 (level_mem (g := g) (i := m) (by omega))
    rw [e3] at e4
    have h5 : ix (priosOf (pressP g)) (k + 1) = ix (priosOf (pressP g)) k + 1 := by
      have h6 : k < r := by
        rcases Nat.lt_or_ge k r with h | h
        · exact h
        · exfalso
          rcases Nat.eq_or_lt_of_le h with h | h
          · subst h; omega
          · have := pair_ix hq h (by omega : k < _); omega
      rcases Nat.eq_or_lt_of_le h6 with h | h
      · rw [← h] at e4; exact e4
      · have h8 : ix (priosOf (pressP g)) (k + 1) < ix (priosOf (pressP g)) r := pair_ix hq h hr
        omega
    have h7 : nowAt (priosOf (pressP g)) (k + 1) = if (ix (priosOf (pressP g)) (k + 1) - ix (priosOf (pressP g)) k) % 2 = 0 then nowAt (priosOf (pressP g)) k else nowAt (priosOf (pressP g)) k + 1 := rfl
    rw [h7, if_neg (by omega), h0, h5]
theorem press_idem {g : ParityD} (hok : ParityOk g) : pressG (pressP g) = pressP g := by
  have h1 : pressG (pressP g) = pressP (pressP g) := by unfold pressG; rw [parityOkB_iff.2 (press_ok hok)]; rfl
  rw [h1]
  have h2 : (pressP (pressP g)).prio = (pressP g).prio := ints_ext (press_len _) fun v hv => by
    obtain ⟨i, hi, e1, e2⟩ := prio_spot hv
    rw [e2, e1, press_now hi]
  have h3 : (pressP (pressP g)).arena = (pressP g).arena := rfl
  generalize pressP (pressP g) = x at *
  generalize pressP g = y at *
  cases x; cases y
  simp only at h2 h3
  rw [h2, h3]
theorem press_same {g : ParityD} (hok : ParityOk g) : sameParityB (pressP g) (pressP g) = true := by
  unfold sameParityB
  rw [parityOkB_iff.2 (press_ok hok)]
  simp
end Go.Proofs.Ytpnophmanpfejaa
