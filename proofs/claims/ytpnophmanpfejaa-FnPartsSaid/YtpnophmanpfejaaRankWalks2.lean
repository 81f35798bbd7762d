/- The walks of the program's Attract and PullIn and what they call. Conditions: the arena is valid. Printed by gen_rank2.py. -/
import Derived.Test.YtpnophmanpfejaaRankWalks
namespace Go.Proofs.Ytpnophmanpfejaa
set_option linter.unusedSimpArgs false
set_option linter.unusedVariables false
open Go.RowKit

theorem rank_i64 {a : ArenaD} {who : Int} {m : List Bool} {goal : List Int} {k v : Nat} (h : v < a.owner.length) (hk : k ≤ 256) : -1 ≤ ix (rankAt a who m goal k) v ∧ ix (rankAt a who m goal k) v ≤ 256 :=
  ⟨(rankAt_bounds h).1, by have := (rankAt_bounds (who := who) (m := m) (goal := goal) (k := k) h).2.1; omega⟩
theorem find_first {l : List Int} {p : Int → Bool} {t : Nat} (h : ∀ j, j < t → p (ix l j) = false) (ht : t < l.length) (hp : p (ix l t) = true) : l.find? p = some (ix l t) := by
  induction l generalizing t with
  | nil => simp at ht
  | cons x l ih =>
    rcases t with _ | t
    · have : p x = true := by simpa [ix] using hp
      simp [List.find?_cons, this, ix]
    · have h0 : p x = false := by simpa [ix] using h 0 (by omega)
      have := ih (t := t) (fun j hj => by simpa [ix] using h (j + 1) (by omega)) (by simpa using ht) (by simpa [ix] using hp)
      simp only [List.find?_cons, h0]
      rw [this]; simp [ix]
theorem find_none {l : List Int} {p : Int → Bool} (h : ∀ j, j < l.length → p (ix l j) = false) : l.find? p = none := by
  rw [List.find?_eq_none]
  intro x hx
  obtain ⟨k, hk, e⟩ := mem_ix.1 hx
  rw [← e, h k hk]; simp

theorem OI.under {w w' : World} {B C : Nat} {v : Value} {l : List Int} (h : OI w B C v l) (hb : Below C w w') : OI w' B C v l := h.heap fun b hb2 => hb.block b (h.2 b hb2)
/-- A row of the call's own, when another one has grown. -/
theorem OI.grown {w w' : World} {B C : Nat} {v : Value} {l : List Int} {row : Option Nat} (h : OI w B C v l) (hg : w.grownBy w' row) (hne : ∀ b, row = some b → b < B ∨ C ≤ b) : OI w' B C v l :=
  h.heap fun b hb => hg.block b (h.1.lt b hb).2 fun e => by
    have h1 := hne b e.symm
    have h2 := (h.1.lt b hb).1
    have h3 := h.2 b hb
    omega

theorem canB_parts {a : ArenaD} {who : Int} {s goal : List Int} (h : canB a who s goal = true) : ArenaOk a ∧ IsSet s a.owner.length ∧ IsSet goal a.owner.length := by
  unfold canB at h
  simp only [Bool.and_eq_true] at h
  exact ⟨arenaOkB_iff.1 h.1, isSetB_iff.1 h.2.2.1, isSetB_iff.1 h.2.2.2⟩

end Go.Proofs.Ytpnophmanpfejaa
