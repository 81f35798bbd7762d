/- Plain facts on lists of numbers: what a set of numbers is, and so on. No program in sight, no condition. -/
import Derived.Test.YtpnophmanpfejaaMem
namespace Go.Proofs.Ytpnophmanpfejaa
set_option linter.unusedSimpArgs false
set_option linter.unusedVariables false

/-- s rises strictly, within 0 .. n - 1. -/
def IsSet (s : List Int) (n : Int) : Prop := ∀ k, k < s.length → 0 ≤ ix s k ∧ ix s k < n ∧ (0 < k → ix s (k - 1) < ix s k)
def isSetB (s : List Int) (n : Int) : Bool := decide (∀ k, k < s.length → 0 ≤ ix s k ∧ ix s k < n ∧ (0 < k → ix s (k - 1) < ix s k))
theorem isSetB_iff {s : List Int} {n : Int} : isSetB s n = true ↔ IsSet s n := by simp [isSetB, IsSet]
theorem isSetB_false {s : List Int} {n : Int} {k : Nat} (hk : k < s.length) (h : ¬ (0 ≤ ix s k ∧ ix s k < n ∧ (0 < k → ix s (k - 1) < ix s k))) : isSetB s n = false := by
  rw [Bool.eq_false_iff]
  intro h'
  exact h (isSetB_iff.1 h' k hk)
theorem isSetB_true {s : List Int} {n : Int} (h : IsSet s n) : isSetB s n = true := isSetB_iff.2 h

/-- A set has no more than n elements: the k-th is at least k. -/
theorem IsSet.le {s : List Int} {n : Int} (h : IsSet s n) : ∀ k, k < s.length → (k : Int) ≤ ix s k := by
  intro k
  induction k with
  | zero => intro hk; simpa using (h 0 hk).1
  | succ k ih =>
    intro hk
    have h1 := ih (by omega)
    have h2 := (h (k + 1) hk).2.2 (by omega)
    simp only [Nat.add_sub_cancel] at h2
    omega
theorem IsSet.length {s : List Int} {n : Int} (h : IsSet s n) : s = [] ∨ (s.length : Int) ≤ n := by
  rcases Nat.eq_zero_or_pos s.length with h0 | h0
  · exact .inl (List.eq_nil_of_length_eq_zero h0)
  · have h1 := h.le (s.length - 1) (by omega)
    have h2 := (h (s.length - 1) (by omega)).2.1
    exact .inr (by omega)

def hasB (l : List Int) (x : Int) : Bool := decide (x ∈ l)
theorem hasB_iff {l : List Int} {x : Int} : hasB l x = true ↔ x ∈ l := by simp [hasB]
theorem mem_ix {l : List Int} {x : Int} : x ∈ l ↔ ∃ k, k < l.length ∧ ix l k = x := by
  rw [List.mem_iff_getElem]
  constructor
  · rintro ⟨k, hk, rfl⟩; exact ⟨k, hk, ix_lt hk⟩
  · rintro ⟨k, hk, rfl⟩; exact ⟨k, hk, (ix_lt hk).symm⟩
theorem hasB_ix {l : List Int} {k : Nat} (hk : k < l.length) : hasB l (ix l k) = true := hasB_iff.2 (mem_ix.2 ⟨k, hk, rfl⟩)
theorem hasB_none {l : List Int} {x : Int} (h : ∀ k, k < l.length → ix l k ≠ x) : hasB l x = false := by
  rw [Bool.eq_false_iff]
  intro h'
  obtain ⟨k, hk, e⟩ := mem_ix.1 (hasB_iff.1 h')
  exact h k hk e

theorem take_ix {l : List Int} {k : Nat} (hk : k < l.length) : l.take (k + 1) = l.take k ++ [ix l k] := by
  rw [ix_lt hk, List.take_succ_eq_append_getElem hk]
theorem filter_take {l : List Int} {k : Nat} (hk : k < l.length) (p : Int → Bool) : (l.take (k + 1)).filter p = (l.take k).filter p ++ if p (ix l k) then [ix l k] else [] := by
  rw [take_ix hk, List.filter_append]
  by_cases h : p (ix l k) <;> simp [h]

/-- Where x stands first in l; -1 where it does not. -/
def idxL (l : List Int) (x : Int) : Int := if x ∈ l then (l.idxOf x : Int) else -1
theorem idxOf_ix {l : List Int} {x : Int} {k : Nat} (hk : k < l.length) (h : ix l k = x) (hn : ∀ j, j < k → ix l j ≠ x) : l.idxOf x = k := by
  induction l generalizing k with
  | nil => simp at hk
  | cons y l ih =>
    rcases k with _ | k
    · have : y = x := by simpa [ix] using h
      simp [List.idxOf_cons, this]
    · have h0 : y ≠ x := by simpa [ix] using hn 0 (by omega)
      have := ih (k := k) (by simpa using hk) (by simpa [ix] using h) fun j hj => by simpa [ix] using hn (j + 1) (by omega)
      have hb : (y == x) = false := by simpa using h0
      simp [List.idxOf_cons, hb, this]
theorem idxL_at {l : List Int} {x : Int} {k : Nat} (hk : k < l.length) (h : ix l k = x) (hn : ∀ j, j < k → ix l j ≠ x) : idxL l x = k := by
  unfold idxL
  rw [if_pos (mem_ix.2 ⟨k, hk, h⟩), idxOf_ix hk h hn]
theorem idxL_none {l : List Int} {x : Int} (h : ∀ k, k < l.length → ix l k ≠ x) : idxL l x = -1 := by
  unfold idxL
  rw [if_neg]
  rw [mem_ix]
  rintro ⟨k, hk, e⟩
  exact h k hk e
theorem idxL_geq {l : List Int} {x : Int} : decide (0 ≤ idxL l x) = hasB l x := by
  unfold idxL hasB
  by_cases h : x ∈ l <;> simp [h]

def setOkB (s : List Int) (n : Int) : Bool := decide (0 ≤ n ∧ n ≤ 256) && isSetB s n
def allL (n : Int) : List Int := if 0 ≤ n ∧ n ≤ 256 then upFrom 0 n.toNat else []
def meetL (a b : List Int) : List Int := a.filter fun x => hasB b x
def lessL (a b : List Int) : List Int := a.filter fun x => !hasB b x
theorem upFrom_snoc (k : Int) (n : Nat) : upFrom k (n + 1) = upFrom k n ++ [k + (n : Int)] := by simp [upFrom, List.range_succ]

/-- Strictly rising. -/
def Rising (l : List Int) : Prop := ∀ i j, i < j → j < l.length → ix l i < ix l j
theorem IsSet.rising {s : List Int} {n : Int} (h : IsSet s n) : Rising s := by
  intro i j hij hj
  induction j with
  | zero => omega
  | succ j ih =>
    have h1 := (h (j + 1) hj).2.2 (by omega)
    simp only [Nat.add_sub_cancel] at h1
    by_cases e : i = j
    · subst e; exact h1
    · have := ih (by omega) (by omega); omega

theorem length_filter_take {l : List Int} {k : Nat} {p : Int → Bool} : ((l.take k).filter p).length ≤ l.length :=
  Nat.le_trans (List.length_filter_le _ _) (by simp; omega)
theorem allL_nat {m : Nat} (h : m ≤ 256) : allL (m : Int) = upFrom 0 m := by
  unfold allL; rw [if_pos (by omega)]; simp
theorem allL_out {n : Int} (h : ¬ (0 ≤ n ∧ n ≤ 256)) : allL n = [] := if_neg h
def bothOkB (a b : List Int) : Bool := isSetB a 256 && isSetB b 256
theorem setOk256 (l : List Int) : setOkB l 256 = isSetB l 256 := by simp [setOkB]

end Go.Proofs.Ytpnophmanpfejaa
