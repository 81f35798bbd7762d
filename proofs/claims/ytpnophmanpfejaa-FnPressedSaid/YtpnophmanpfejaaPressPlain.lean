/- Pressed priorities: the level of each. No program in sight, no condition. -/
import Derived.Test.YtpnophmanpfejaaPriosPlain
import Derived.Test.YtpnophmanpfejaaPkB
namespace Go.Proofs.Ytpnophmanpfejaa
set_option linter.unusedSimpArgs false
set_option linter.unusedVariables false

/-- The level of the k-th of rising priorities. -/
def nowAt (ps : List Int) : Nat → Int
  | 0 => ix ps 0 % 2
  | k + 1 => if (ix ps (k + 1) - ix ps k) % 2 = 0 then nowAt ps k else nowAt ps k + 1
/-- The level of a priority. -/
def lev (ps : List Int) (p : Int) : Int := nowAt ps (spot ps p)
theorem nowAt_mod (ps : List Int) (k : Nat) : nowAt ps k % 2 = ix ps k % 2 := by
  induction k with
  | zero => unfold nowAt; omega
  | succ k ih =>
    unfold nowAt
    split <;> omega
theorem nowAt_bounds {ps : List Int} (hp : ps.Pairwise (· < ·)) (h0 : ∀ x ∈ ps, 0 ≤ x) {k : Nat} (hk : k < ps.length) : 0 ≤ nowAt ps k ∧ nowAt ps k ≤ ix ps k := by
  induction k with
  | zero =>
    have := h0 (ix ps 0) (mem_ix.2 ⟨0, hk, rfl⟩)
    unfold nowAt; omega
  | succ k ih =>
    obtain ⟨h1, h2⟩ := ih (by omega)
    have h3 : ix ps k < ix ps (k + 1) := by
      rw [ix_lt (by omega), ix_lt hk]
      exact List.pairwise_iff_getElem.1 hp k (k + 1) (by omega) hk (by omega)
    unfold nowAt
    split <;> omega
theorem pair_ix {l : List Int} (h : l.Pairwise (· < ·)) {i j : Nat} (hij : i < j) (hj : j < l.length) : ix l i < ix l j := by
  rw [ix_lt (by omega), ix_lt hj]
  exact List.pairwise_iff_getElem.1 h i j (by omega) hj hij
theorem spot_ix {ps : List Int} (hp : ps.Pairwise (· < ·)) {k : Nat} (hk : k < ps.length) : spot ps (ix ps k) = k :=
  spot_eq (Nat.le_of_lt hk) (fun _ hj => pair_ix hp hj hk) fun _ => Int.le_refl _
theorem lev_ix {ps : List Int} (hp : ps.Pairwise (· < ·)) {k : Nat} (hk : k < ps.length) : lev ps (ix ps k) = nowAt ps k := by unfold lev; rw [spot_ix hp hk]
theorem spot_mem {ps : List Int} (hp : ps.Pairwise (· < ·)) {x : Int} (hx : x ∈ ps) : spot ps x < ps.length ∧ ix ps (spot ps x) = x := by
  obtain ⟨k, hk, rfl⟩ := mem_ix.1 hx
  rw [spot_ix hp hk]
  exact ⟨hk, rfl⟩
theorem set_at {l : List Int} {k j : Nat} {x : Int} (hk : k < l.length) : ix (l.set k x) j = if j = k then x else ix l j := by
  unfold ix
  by_cases h : j = k
  · subst h; simp [hk]
  · simp [h, Ne.symm h]
/-- All levels. -/
def pressL (ps prio : List Int) : List Int := prio.map (lev ps)
@[simp] theorem length_pressL (ps prio : List Int) : (pressL ps prio).length = prio.length := by simp [pressL]
theorem pressL_take {ps prio : List Int} {k : Nat} (hk : k < prio.length) : pressL ps (prio.take (k + 1)) = pressL ps (prio.take k) ++ [lev ps (ix prio k)] := by
  unfold pressL; rw [take_ix hk, List.map_append]; rfl
/-- .. as far as the reference has come: all levels below the i-th, of the i-th those of the first t vertices. -/
def pressAt (ps prio : List Int) (i t : Nat) : List Int := (List.range prio.length).map fun v => if spot ps (ix prio v) < i ∨ (spot ps (ix prio v) = i ∧ v < t) then lev ps (ix prio v) else ix prio v
@[simp] theorem length_pressAt (ps prio : List Int) (i t : Nat) : (pressAt ps prio i t).length = prio.length := by simp [pressAt]
theorem ix_pressAt {ps prio : List Int} {i t v : Nat} (h : v < prio.length) : ix (pressAt ps prio i t) v = if spot ps (ix prio v) < i ∨ (spot ps (ix prio v) = i ∧ v < t) then lev ps (ix prio v) else ix prio v := by simp [pressAt, ix, h]
theorem ints_ext {l m : List Int} (hl : l.length = m.length) (h : ∀ j, j < m.length → ix l j = ix m j) : l = m := by
  apply List.ext_getElem hl
  intro j h1 h2
  have := h j h2
  rwa [ix_lt h1, ix_lt h2] at this
theorem pressAt_zero (ps prio : List Int) : pressAt ps prio 0 0 = prio := ints_ext (by simp) fun j hj => by
  rw [ix_pressAt hj, if_neg (by omega)]
theorem pressAt_next {ps prio : List Int} {i t : Nat} (h : prio.length ≤ t) : pressAt ps prio i t = pressAt ps prio (i + 1) 0 := ints_ext (by simp) fun j hj => by
  rw [length_pressAt] at hj
  rw [ix_pressAt hj, ix_pressAt hj]
  by_cases e : spot ps (ix prio j) < i + 1
  · rw [if_pos (by omega), if_pos (by omega)]
  · rw [if_neg (by omega), if_neg (by omega)]
theorem pressAt_all {ps prio : List Int} (hp : ps.Pairwise (· < ·)) (hm : ∀ x ∈ prio, x ∈ ps) : pressAt ps prio ps.length 0 = pressL ps prio := ints_ext (by simp) fun j hj => by
  rw [length_pressL] at hj
  have h1 := (spot_mem hp (hm (ix prio j) (mem_ix.2 ⟨j, hj, rfl⟩))).1
  rw [ix_pressAt hj, if_pos (.inl h1)]
  simp [pressL, ix, hj]
theorem pressAt_set {ps prio : List Int} (hp : ps.Pairwise (· < ·)) {i t : Nat} (hi : i < ps.length) (ht : t < prio.length) (h : ix prio t = ix ps i) : (pressAt ps prio i t).set t (nowAt ps i) = pressAt ps prio i (t + 1) := ints_ext (by simp) fun j hj => by
  rw [length_pressAt] at hj
  have hs : spot ps (ix prio t) = i := by rw [h]; exact spot_ix hp hi
  rw [set_at (by simpa using ht), ix_pressAt hj, ix_pressAt hj]
  by_cases e : j = t
  · subst e
    rw [if_pos rfl, if_pos (.inr ⟨hs, by omega⟩), h, lev_ix hp hi]
  · rw [if_neg e]
    by_cases e2 : spot ps (ix prio j) < i ∨ (spot ps (ix prio j) = i ∧ j < t)
    · rw [if_pos e2, if_pos (by omega)]
    · rw [if_neg e2, if_neg (by omega)]
theorem pressAt_skip {ps prio : List Int} (hp : ps.Pairwise (· < ·)) (hm : ∀ x ∈ prio, x ∈ ps) {i t : Nat} (ht : t < prio.length) (h : ix prio t ≠ ix ps i) : pressAt ps prio i t = pressAt ps prio i (t + 1) := ints_ext (by simp) fun j hj => by
  rw [length_pressAt] at hj
  rw [ix_pressAt hj, ix_pressAt hj]
  by_cases e : j = t
  · subst e
    have h1 := spot_mem hp (hm (ix prio j) (mem_ix.2 ⟨j, hj, rfl⟩))
    have hne : spot ps (ix prio j) ≠ i := fun e => by rw [e] at h1; exact h h1.2.symm
    by_cases e2 : spot ps (ix prio j) < i
    · rw [if_pos (.inl e2), if_pos (.inl e2)]
    · rw [if_neg (by omega), if_neg (by omega)]
  · by_cases e2 : spot ps (ix prio j) < i ∨ (spot ps (ix prio j) = i ∧ j < t)
    · rw [if_pos e2, if_pos (by omega)]
    · rw [if_neg e2, if_neg (by omega)]
/-- The priorities of a game, rising. -/
def priosOf (g : ParityD) : List Int := priosL g.prio (upFrom 0 g.prio.length)
def pressP (g : ParityD) : ParityD := ⟨g.arena, pressL (priosOf g) g.prio⟩
def pressG (g : ParityD) : ParityD := if parityOkB g then pressP g else ⟨⟨[], []⟩, []⟩
end Go.Proofs.Ytpnophmanpfejaa
