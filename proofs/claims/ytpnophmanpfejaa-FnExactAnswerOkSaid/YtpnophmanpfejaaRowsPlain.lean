/- Lists of lists of numbers: their sizes, the numbers that the laws write into them. No program in sight. -/
import Derived.Test.YtpnophmanpfejaaMem
namespace Go.Proofs.Ytpnophmanpfejaa
set_option linter.unusedSimpArgs false
set_option linter.unusedVariables false

def vx (vs : List Value) (k : Nat) : Value := vs.getD k undef
theorem vx_lt {vs : List Value} {k : Nat} (h : k < vs.length) : vx vs k = vs[k] := by simp [vx, h]
theorem vx_set {vs : List Value} {k j : Nat} {x : Value} (hk : k < vs.length) : vx (vs.set k x) j = if j = k then x else vx vs j := by
  unfold vx
  by_cases h : j = k
  · subst h; simp [hk]
  · simp [h, Ne.symm h]
theorem rx_set {ll : List (List Int)} {k j : Nat} {x : List Int} (hk : k < ll.length) : rx (ll.set k x) j = if j = k then x else rx ll j := by
  unfold rx
  by_cases h : j = k
  · subst h; simp [hk]
  · simp [h, Ne.symm h]
theorem rows_ext {l m : List (List Int)} (hl : l.length = m.length) (h : ∀ j, j < m.length → rx l j = rx m j) : l = m := by
  apply List.ext_getElem hl
  intro j h1 h2
  have := h j h2
  rwa [rx_lt h1, rx_lt h2] at this
theorem vals_ext {l m : List Value} (hl : l.length = m.length) (h : ∀ j, j < m.length → vx l j = vx m j) : l = m := by
  apply List.ext_getElem hl
  intro j h1 h2
  have := h j h2
  rwa [vx_lt h1, vx_lt h2] at this

/-- How many numbers stand in the first k rows. -/
def offR (ll : List (List Int)) (k : Nat) : Nat := ((ll.take k).map List.length).sum
def sizeR (ll : List (List Int)) : Nat := offR ll ll.length
@[simp] theorem offR_zero (ll : List (List Int)) : offR ll 0 = 0 := by simp [offR]
theorem offR_succ {ll : List (List Int)} {k : Nat} (hk : k < ll.length) : offR ll (k + 1) = offR ll k + (rx ll k).length := by
  unfold offR
  rw [List.take_succ_eq_append_getElem hk, rx_lt hk, List.map_append, List.sum_append]
  simp
theorem offR_le {ll : List (List Int)} {j k : Nat} (h : j ≤ k) (hk : k ≤ ll.length) : offR ll j ≤ offR ll k := by
  induction k with
  | zero => have : j = 0 := by omega
            subst this; exact Nat.le_refl _
  | succ k ih =>
    by_cases e : j = k + 1
    · subst e; exact Nat.le_refl _
    · have := ih (by omega) (by omega)
      rw [offR_succ (by omega)]; omega
theorem len_le_sizeR {ll : List (List Int)} {k : Nat} (hk : k < ll.length) : (rx ll k).length ≤ sizeR ll := by
  have h1 := offR_succ hk
  have h2 : offR ll (k + 1) ≤ sizeR ll := offR_le (by omega) (Nat.le_refl _)
  omega
theorem offR_mul {ll : List (List Int)} {M : Nat} (h : ∀ k, k < ll.length → (rx ll k).length ≤ M) {k : Nat} (hk : k ≤ ll.length) : offR ll k ≤ k * M := by
  induction k with
  | zero => simp
  | succ k ih =>
    have h1 := ih (by omega)
    have h2 := h k (by omega)
    rw [offR_succ (by omega), Nat.add_mul]
    omega
/-- The rows of the same lengths that hold k0, k0 + 1, .. -/
def markR (k0 : Int) (ll : List (List Int)) : List (List Int) := (List.range ll.length).map fun j => upFrom (k0 + (offR ll j : Nat)) (rx ll j).length
@[simp] theorem length_markR (k0 : Int) (ll : List (List Int)) : (markR k0 ll).length = ll.length := by simp [markR]
theorem rx_markR {k0 : Int} {ll : List (List Int)} {j : Nat} (h : j < ll.length) : rx (markR k0 ll) j = upFrom (k0 + (offR ll j : Nat)) (rx ll j).length := by simp [rx, markR, h]
end Go.Proofs.Ytpnophmanpfejaa
