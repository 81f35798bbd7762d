/- The order of rows, number by number. No program in sight. -/
import Derived.Test.YtpnophmanpfejaaPkA
import Derived.Sort.Statements
namespace Go.Proofs.Ytpnophmanpfejaa
set_option linter.unusedSimpArgs false
set_option linter.unusedVariables false

def cmpI (x y : Int) : Int := if x < y then -1 else if y < x then 1 else 0
def cmpL : List Int → List Int → Int
  | [], [] => 0
  | [], _ :: _ => -1
  | _ :: _, [] => 1
  | x :: l, y :: m => if cmpI x y = 0 then cmpL l m else cmpI x y
theorem cmpI_zero {x y : Int} : cmpI x y = 0 ↔ x = y := by unfold cmpI; split <;> (try split) <;> omega
theorem cmpI_neg {x y : Int} : cmpI x y < 0 ↔ x < y := by unfold cmpI; split <;> (try split) <;> omega
theorem cmpI_range (x y : Int) : cmpI x y = -1 ∨ cmpI x y = 0 ∨ cmpI x y = 1 := by unfold cmpI; split <;> (try split) <;> omega
/-- Less, as a relation. -/
def lexLt : List Int → List Int → Prop
  | _, [] => False
  | [], _ :: _ => True
  | x :: l, y :: m => x < y ∨ (x = y ∧ lexLt l m)
theorem cmpL_neg : ∀ {l m : List Int}, cmpL l m < 0 ↔ lexLt l m
  | [], [] => by simp [cmpL, lexLt]
  | [], _ :: _ => by simp [cmpL, lexLt]
  | _ :: _, [] => by simp [cmpL, lexLt]
  | x :: l, y :: m => by
    unfold cmpL lexLt
    split
    · rename_i h
      have h1 := cmpI_zero.1 h
      rw [cmpL_neg (l := l) (m := m)]
      constructor
      · intro h2; exact .inr ⟨h1, h2⟩
      · rintro (h2 | h2)
        · omega
        · exact h2.2
    · rename_i h
      rw [cmpI_neg]
      constructor
      · exact .inl
      · rintro (h2 | ⟨h2, _⟩)
        · exact h2
        · exact absurd (cmpI_zero.2 h2) h
theorem lexLt_irrefl : ∀ l : List Int, ¬ lexLt l l
  | [] => by simp [lexLt]
  | x :: l => by
    unfold lexLt
    rintro (h | ⟨_, h⟩)
    · omega
    · exact lexLt_irrefl l h
theorem lexLt_trans : ∀ {a b c : List Int}, lexLt a b → lexLt b c → lexLt a c
  | a, b, [], _, h => by cases b <;> simp [lexLt] at h
  | a, [], _ :: _, h, _ => by cases a <;> simp [lexLt] at h
  | [], _ :: _, _ :: _, _, _ => by simp [lexLt]
  | x :: a, y :: b, z :: c, h1, h2 => by
    unfold lexLt at h1 h2 ⊢
    rcases h1 with h1 | ⟨h1, h3⟩ <;> rcases h2 with h2 | ⟨h2, h4⟩
    · left; omega
    · left; omega
    · left; omega
    · right; exact ⟨by omega, lexLt_trans h3 h4⟩
theorem lexLt_total : ∀ a b : List Int, lexLt a b ∨ a = b ∨ lexLt b a
  | [], [] => .inr (.inl rfl)
  | [], _ :: _ => .inl (by simp [lexLt])
  | _ :: _, [] => .inr (.inr (by simp [lexLt]))
  | x :: a, y :: b => by
    unfold lexLt
    rcases Int.lt_trichotomy x y with h | h | h
    · exact .inl (.inl h)
    · rcases lexLt_total a b with h2 | h2 | h2
      · exact .inl (.inr ⟨h, h2⟩)
      · exact .inr (.inl (by rw [h, h2]))
      · exact .inr (.inr (.inr ⟨h.symm, h2⟩))
    · exact .inr (.inr (.inl h))
theorem lexLt_heads {a b : List Int} (ha : a ≠ []) (hb : b ≠ []) (h : ¬ lexLt b a) (hne : a.headD 0 ≠ b.headD 0) : a.headD 0 < b.headD 0 := by
  cases a with
  | nil => exact absurd rfl ha
  | cons x a =>
    cases b with
    | nil => exact absurd rfl hb
    | cons y b =>
      have hne' : x ≠ y := hne
      show x < y
      unfold lexLt at h
      have h1 : ¬ y < x := fun h2 => h (.inl h2)
      omega
/-- The order, under any names of rows. -/
theorem lex_swo {α : Type} (f : α → List Int) : Go.Sort.SWO fun x y : α => decide (cmpL (f x) (f y) < 0) := by
  refine ⟨fun x => ?_, fun x y z h1 h2 => ?_, fun x y z h1 h2 => ?_⟩
  · rw [decide_eq_false_iff_not, cmpL_neg]
    exact lexLt_irrefl _
  · rw [decide_eq_true_iff, cmpL_neg] at *
    exact lexLt_trans h1 h2
  · rw [decide_eq_false_iff_not, cmpL_neg] at *
    intro h
    rcases lexLt_total (f x) (f y) with h3 | h3 | h3
    · exact h1 h3
    · rw [h3] at h
      exact h2 h
    · exact h2 (lexLt_trans h3 h)
theorem cmpL_step {l m : List Int} {k : Nat} (hl : k < l.length) (hm : k < m.length) : cmpL (l.drop k) (m.drop k) = if cmpI (ix l k) (ix m k) = 0 then cmpL (l.drop (k + 1)) (m.drop (k + 1)) else cmpI (ix l k) (ix m k) := by
  rw [List.drop_eq_getElem_cons hl, List.drop_eq_getElem_cons hm, ix_lt hl, ix_lt hm]
  rfl
theorem cmpL_end {l m : List Int} {k : Nat} (hl : k < l.length) (hm : m.length ≤ k) : cmpL (l.drop k) (m.drop k) = 1 := by
  rw [List.drop_eq_getElem_cons hl, List.drop_of_length_le hm]
  rfl
theorem cmpL_out {l m : List Int} (hm : l.length < m.length) : cmpL (l.drop l.length) (m.drop l.length) = -1 := by
  rw [List.drop_of_length_le (Nat.le_refl _), List.drop_eq_getElem_cons hm]
  rfl
theorem cmpL_same {l m : List Int} (hm : m.length = l.length) : cmpL (l.drop l.length) (m.drop l.length) = 0 := by
  rw [List.drop_of_length_le (Nat.le_refl _), List.drop_of_length_le (by omega)]
  rfl
end Go.Proofs.Ytpnophmanpfejaa
