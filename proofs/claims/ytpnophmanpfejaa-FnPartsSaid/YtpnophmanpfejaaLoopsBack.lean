/- Edges seen backwards among the marked vertices. No condition but the lists' lengths. -/
import Derived.Test.YtpnophmanpfejaaPrevPlain
namespace Go.Proofs.Ytpnophmanpfejaa
set_option linter.unusedSimpArgs false
set_option linter.unusedVariables false
open Go.RowKit

/-- Of each of n vertices the predecessors below k, and k where it is among the first t successors of k: both ends marked. -/
def backAt (next : List (List Int)) (p : Nat → Bool) (n k t : Nat) : List (List Int) := (List.range n).map fun (u : Nat) => ((upFrom 0 k).filter fun v => decide ((u : Int) ∈ rx next v.toNat) && (p v.toNat && p u)) ++ if (u : Int) ∈ (rx next k).take t ∧ (p k && p u) = true then [(k : Int)] else []
def backL (next : List (List Int)) (p : Nat → Bool) (n : Nat) : List (List Int) := backAt next p n n 0
@[simp] theorem length_backAt (next : List (List Int)) (p : Nat → Bool) (n k t : Nat) : (backAt next p n k t).length = n := by simp [backAt]
@[simp] theorem length_backL (next : List (List Int)) (p : Nat → Bool) (n : Nat) : (backL next p n).length = n := length_backAt _ _ _ _ _
theorem rx_backAt {next : List (List Int)} {p : Nat → Bool} {n k t u : Nat} (h : u < n) : rx (backAt next p n k t) u = ((upFrom 0 k).filter fun v => decide ((u : Int) ∈ rx next v.toNat) && (p v.toNat && p u)) ++ if (u : Int) ∈ (rx next k).take t ∧ (p k && p u) = true then [(k : Int)] else [] := by simp [rx, backAt, h]
theorem backAt_zero (next : List (List Int)) (p : Nat → Bool) (n : Nat) : backAt next p n 0 0 = List.replicate n [] := by
  apply List.ext_getElem (by simp)
  intro j h1 h2
  simp [backAt, upFrom]
theorem backAt_next {next : List (List Int)} {p : Nat → Bool} {n k t : Nat} (h : (rx next k).length ≤ t) : backAt next p n k t = backAt next p n (k + 1) 0 := by
  apply List.ext_getElem (by simp)
  intro j h1 h2
  simp only [backAt, List.getElem_map, List.getElem_range]
  rw [List.take_of_length_le h, upFrom_snoc, List.filter_append, List.append_assoc]
  congr 1
  by_cases e : (j : Int) ∈ rx next k <;> by_cases e2 : (p k && p j) = true <;> simp_all
theorem backAt_set {next : List (List Int)} {p : Nat → Bool} {n k t j : Nat} (ht : t < (rx next k).length) (hj : ix (rx next k) t = (j : Int)) (hjn : j < n) (hs : IsSet (rx next k) n) (hk : p k = true) (hpj : p j = true) :
    (backAt next p n k t).set j (rx (backAt next p n k t) j ++ [(k : Int)]) = backAt next p n k (t + 1) := by
  have hno := hs.not_take ht
  rw [hj] at hno
  apply List.ext_getElem (by simp)
  intro i h1 h2
  rw [length_backAt] at h2
  rw [List.getElem_set]
  by_cases e : j = i
  · subst e
    rw [if_pos rfl, rx_backAt hjn]
    simp only [backAt, List.getElem_map, List.getElem_range]
    rw [take_ix ht, hj]
    simp [hno, hk, hpj]
  · rw [if_neg e]
    simp only [backAt, List.getElem_map, List.getElem_range]
    rw [take_ix ht, hj]
    have : ¬ (i : Int) = (j : Int) := by omega
    simp [this]
theorem backAt_skip {next : List (List Int)} {p : Nat → Bool} {n k t j : Nat} (ht : t < (rx next k).length) (hj : ix (rx next k) t = (j : Int)) (hp : (p k && p j) = false) :
    backAt next p n k t = backAt next p n k (t + 1) := by
  apply List.ext_getElem (by simp)
  intro i h1 h2
  simp only [backAt, List.getElem_map, List.getElem_range]
  rw [take_ix ht, hj]
  by_cases e : i = j
  · subst e
    simp only [hp, Bool.false_eq_true, and_false]
  · have : ¬ (i : Int) = (j : Int) := by omega
    simp [this]
theorem mem_backL {next : List (List Int)} {p : Nat → Bool} {n u : Nat} (hu : u < n) {x : Int} : x ∈ rx (backL next p n) u ↔ ∃ v : Nat, v < n ∧ x = (v : Int) ∧ (u : Int) ∈ rx next v ∧ p v = true ∧ p u = true := by
  unfold backL
  rw [rx_backAt hu]
  simp only [List.take_zero, List.not_mem_nil, false_and, if_false, List.append_nil, List.mem_filter, Bool.and_eq_true, decide_eq_true_eq, mem_upFrom]
  constructor
  · rintro ⟨⟨j, hj, rfl⟩, h, h2, h3⟩; exact ⟨j, hj, rfl, by simpa using h, by simpa using h2, h3⟩
  · rintro ⟨j, hj, rfl, h, h2, h3⟩; exact ⟨⟨j, hj, rfl⟩, by simpa using h, by simpa using h2, h3⟩
theorem backAt_len {next : List (List Int)} {p : Nat → Bool} {n k t u : Nat} (hu : u < n) : (rx (backAt next p n k t) u).length ≤ k + 1 := by
  rw [rx_backAt hu, List.length_append]
  have := List.length_filter_le (fun v : Int => decide ((u : Int) ∈ rx next v.toNat) && (p v.toNat && p u)) (upFrom 0 k)
  rw [length_upFrom] at this
  split <;> simp <;> omega
theorem backL_len {next : List (List Int)} {p : Nat → Bool} {n u : Nat} (hu : u < n) : (rx (backL next p n) u).length ≤ n + 1 := backAt_len hu
theorem backL_vert {next : List (List Int)} {p : Nat → Bool} {n u t : Nat} (hu : u < n) (ht : t < (rx (backL next p n) u).length) : ∃ j : Nat, ix (rx (backL next p n) u) t = (j : Int) ∧ j < n := by
  obtain ⟨v, h1, h2, _⟩ := (mem_backL hu).1 (mem_ix.2 ⟨t, ht, rfl⟩)
  exact ⟨v, h2, h1⟩
end Go.Proofs.Ytpnophmanpfejaa
