/- What the arena induced by a set is. No program in sight. -/
import Derived.Test.YtogfpalgnjlfcaaPkB
import Derived.Test.YtogfpalgnjlfcaaPkA
namespace Go.Proofs.Ytogfpalgnjlfcaa
set_option linter.unusedSimpArgs false
set_option linter.unusedVariables false

theorem idxL_snoc {l : List Int} {x v : Int} (hx : x ∉ l) : idxL (l ++ [x]) v = if v = x then (l.length : Int) else idxL l v := by
  unfold idxL
  by_cases h : v = x
  · subst h
    rw [if_pos (by simp), if_pos rfl, List.idxOf_append, if_neg hx]
    simp
  · rw [if_neg h]
    by_cases hv : v ∈ l
    · rw [if_pos (by simp [hv]), if_pos hv, List.idxOf_append, if_pos hv]
    · rw [if_neg (by simp [hv, h]), if_neg hv]
theorem idxL_range {l : List Int} {v : Int} : -1 ≤ idxL l v ∧ idxL l v ≤ l.length := by
  unfold idxL
  split
  · have := List.idxOf_le_length (a := v) (l := l); omega
  · omega
/-- The successors of v in s, by their places there. -/
def rowTo (a : ArenaD) (s : List Int) (v t : Nat) : List Int := (((rx a.next v).take t).map (idxL s)).filter fun x => decide (0 ≤ x)
def rowIn (a : ArenaD) (s : List Int) (v : Nat) : List Int := rowTo a s v (rx a.next v).length
theorem rowTo_succ {a : ArenaD} {s : List Int} {v t : Nat} (h : t < (rx a.next v).length) : rowTo a s v (t + 1) = rowTo a s v t ++ if decide (0 ≤ idxL s (ix (rx a.next v) t)) = true then [idxL s (ix (rx a.next v) t)] else [] := by
  unfold rowTo
  rw [take_ix h, List.map_append, List.filter_append]
  congr 1
  by_cases e : 0 ≤ idxL s (ix (rx a.next v) t) <;> simp [e]
theorem rowTo_len {a : ArenaD} {s : List Int} {v t : Nat} : (rowTo a s v t).length ≤ t := by
  unfold rowTo
  refine Nat.le_trans (List.length_filter_le _ _) ?_
  simp; omega
theorem rowIn_len {a : ArenaD} {s : List Int} {v : Nat} : (rowIn a s v).length ≤ (rx a.next v).length := rowTo_len
/-- Each vertex of s has a successor in s. -/
def insB (a : ArenaD) (s : List Int) : Bool := s.all fun v => decide (rowIn a s v.toNat ≠ [])
def insP (a : ArenaD) (s : List Int) : ArenaD := ⟨s.map fun v => ix a.owner v.toNat, s.map fun v => rowIn a s v.toNat⟩
def insA (a : ArenaD) (s : List Int) : ArenaD := if insB a s then insP a s else ⟨[], []⟩
theorem insB_bad {a : ArenaD} {s : List Int} {k : Nat} (hk : k < s.length) (h : rowIn a s (ix s k).toNat = []) : insB a s = false := by
  unfold insB
  rw [List.all_eq_false]
  exact ⟨ix s k, mem_ix.2 ⟨k, hk, rfl⟩, by simp [h]⟩
theorem insB_all {a : ArenaD} {s : List Int} (h : ∀ k, k < s.length → rowIn a s (ix s k).toNat ≠ []) : insB a s = true := by
  unfold insB
  rw [List.all_eq_true]
  intro x hx
  obtain ⟨k, hk, e⟩ := mem_ix.1 hx
  rw [← e]
  simpa using h k hk
def insOkB (a : ArenaD) (s : List Int) : Bool := arenaOkB a && (isSetB s a.owner.length && (decide (s ≠ []) && insB a s))
def insG (a : ArenaD) (s : List Int) : ArenaD := if insOkB a s then insP a s else ⟨[], []⟩
theorem map_take_succ {s : List Int} {k : Nat} (f : Int → Int) (hk : k < s.length) : (s.take (k + 1)).map f = (s.take k).map f ++ [f (ix s k)] := by rw [take_ix hk, List.map_append]; rfl
theorem mapr_take_succ {s : List Int} {k : Nat} (f : Int → List Int) (hk : k < s.length) : (s.take (k + 1)).map f = (s.take k).map f ++ [f (ix s k)] := by rw [take_ix hk, List.map_append]; rfl
theorem not_mem_take {s : List Int} {n : Int} {k : Nat} (h : IsSet s n) (hk : k < s.length) : ix s k ∉ s.take k := fun hm => by
  obtain ⟨i, hi, e⟩ := mem_ix.1 hm
  have hi' : i < k := by rw [List.length_take] at hi; omega
  have h1 := h.rising i k hi' hk
  have h2 : ix (s.take k) i = ix s i := by simp [ix, List.getElem?_take, hi']
  omega
end Go.Proofs.Ytogfpalgnjlfcaa
