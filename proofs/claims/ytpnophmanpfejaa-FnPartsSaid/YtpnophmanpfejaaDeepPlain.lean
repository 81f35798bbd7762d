/- Depth-first searches: what the order of leaving tells, and how the second search finds the classes. No program in sight, no condition. -/
import Derived.Test.YtpnophmanpfejaaPkC
namespace Go.Proofs.Ytpnophmanpfejaa
set_option linter.unusedSimpArgs false
set_option linter.unusedVariables false

/-- A way by R. -/
inductive Star (R : Nat → Nat → Prop) : Nat → Nat → Prop
  | refl (u : Nat) : Star R u u
  | tail {u v x : Nat} : Star R u v → R v x → Star R u x
theorem Star.trans {R : Nat → Nat → Prop} {u v x : Nat} (h : Star R u v) (k : Star R v x) : Star R u x := by
  induction k with
  | refl => exact h
  | tail _ s ih => exact .tail ih s
theorem Star.head {R : Nat → Nat → Prop} {u v x : Nat} (h : R u v) (k : Star R v x) : Star R u x := Star.trans (.tail (.refl _) h) k
theorem Star.mono {R Q : Nat → Nat → Prop} {u v : Nat} (h : Star R u v) (hRQ : ∀ a b, R a b → Q a b) : Star Q u v := by
  induction h with
  | refl => exact .refl _
  | tail _ s ih => exact .tail ih (hRQ _ _ s)
theorem Star.turn {R : Nat → Nat → Prop} {u v : Nat} (h : Star R u v) : Star (fun a b => R b a) v u := by
  induction h with
  | refl => exact .refl _
  | tail _ s ih => exact .head s ih
/-- A way of at least one step. -/
def Plusw (R : Nat → Nat → Prop) (u x : Nat) : Prop := ∃ v, R u v ∧ Star R v x
theorem Star.plus {R : Nat → Nat → Prop} {u v : Nat} (h : Star R u v) : u = v ∨ Plusw R u v := by
  induction h with
  | refl => exact .inl rfl
  | tail h s ih =>
    rcases ih with rfl | ⟨y, h1, h2⟩
    · exact .inr ⟨_, s, .refl _⟩
    · exact .inr ⟨y, h1, .tail h2 s⟩
theorem Plusw.star {R : Nat → Nat → Prop} {u v : Nat} (h : Plusw R u v) : Star R u v := by
  obtain ⟨y, h1, h2⟩ := h
  exact .head h1 h2

/-- Each of a list was left when all that it had opened had been left: what stands ahead of that leads nowhere into it. -/
def Left (R : Nat → Nat → Prop) (C : List Nat) : Prop := ∀ A x B, C = A ++ x :: B → ∃ A1 A2, A = A1 ++ A2 ∧ (∀ y ∈ A2, Star R x y) ∧ ∀ z ∈ A1, ∀ y, y = x ∨ y ∈ A2 → ¬ R z y
theorem Left.nil (R : Nat → Nat → Prop) : Left R [] := fun A x B h => by simp at h
/-- A search from v, before which D had been marked: it marks and leaves C. -/
structure Found (R : Nat → Nat → Prop) (D : Nat → Prop) (v : Nat) (C : List Nat) : Prop where
  nodup : C.Nodup
  new : ∀ x ∈ C, ¬ D x
  last : ∃ C', C = C' ++ [v]
  reach : ∀ x ∈ C, Star (fun a b => R a b ∧ ¬ D b) v x
  shut : ∀ z ∈ C, ∀ y, R z y → D y ∨ y ∈ C
  left : Left R C
/-- .. on its way, when the targets T of v have been looked at. -/
structure Finding (R : Nat → Nat → Prop) (D : Nat → Prop) (v : Nat) (T : Nat → Prop) (C : List Nat) : Prop where
  nodup : C.Nodup
  new : ∀ x ∈ C, ¬ D x ∧ x ≠ v
  reach : ∀ x ∈ C, Star (fun a b => R a b ∧ ¬ D b) v x
  shut : ∀ z ∈ C, ∀ y, R z y → D y ∨ y = v ∨ y ∈ C
  left : Left R C
  seen : ∀ y, T y → R v y → D y ∨ y = v ∨ y ∈ C
section
variable {R : Nat → Nat → Prop} {D T T' : Nat → Prop} {v u : Nat} {C C2 : List Nat}
theorem Left.append (h : Left R C) (h2 : Left R C2) (hx : ∀ z ∈ C, ∀ y ∈ C2, ¬ R z y) : Left R (C ++ C2) := fun A x B e => by
  rcases List.append_eq_append_iff.1 e with ⟨E, h3, h4⟩ | ⟨E, h3, h4⟩
  · -- A = C ++ E, C2 = E ++ x :: B
    obtain ⟨A1, A2, rfl, ha, hb⟩ := h2 E x B h4
    refine ⟨C ++ A1, A2, by rw [h3, List.append_assoc], ha, fun z hz y hy => ?_⟩
    rcases List.mem_append.1 hz with hz | hz
    · refine hx z hz y ?_
      rw [h4]
      rcases hy with rfl | hy
      · simp
      · simp [hy]
    · exact hb z hz y hy
  · -- C = A ++ E, E ++ C2 = x :: B
    rcases E with _ | ⟨e0, E⟩
    · simp at h3 h4
      subst h3
      obtain ⟨A1, A2, h5, ha, hb⟩ := h2 [] x B (by simp [← h4])
      rw [List.nil_eq, List.append_eq_nil_iff] at h5
      obtain ⟨rfl, rfl⟩ := h5
      refine ⟨C, [], by simp, by simp, fun z hz y hy => ?_⟩
      rcases hy with rfl | hy
      · exact hx z hz y (by rw [← h4]; simp)
      · cases hy
    · simp only [List.cons_append, List.cons.injEq] at h4
      obtain ⟨rfl, h4⟩ := h4
      exact h A x E h3
theorem Finding.start (hD : ¬ D v) : Finding R D v (fun _ => False) [] := ⟨List.nodup_nil, fun x hx => (by cases hx), fun x hx => (by cases hx), fun x hx => (by cases hx), Left.nil R, fun y h => h.elim⟩
theorem Finding.skip (h : Finding R D v T C) (hu : R v u → D u ∨ u = v ∨ u ∈ C) (hT : ∀ y, T' y → T y ∨ y = u) : Finding R D v T' C :=
  ⟨h.nodup, h.new, h.reach, h.shut, h.left, fun y hy hR => by
    rcases hT y hy with h1 | rfl
    · exact h.seen y h1 hR
    · exact hu hR⟩
theorem Finding.more (hv : ¬ D v) (h : Finding R D v T C) (hR : R v u) (h2 : Found R (fun x => D x ∨ x = v ∨ x ∈ C) u C2) (hT : ∀ y, T' y → T y ∨ y = u) : Finding R D v T' (C ++ C2) := by
  have hu : u ∈ C2 := by obtain ⟨C', e⟩ := h2.last; rw [e]; simp
  refine ⟨List.nodup_append.2 ⟨h.nodup, h2.nodup, fun a ha b hb e => h2.new b hb (.inr (.inr (e ▸ ha)))⟩, fun x hx => ?_, fun x hx => ?_, fun z hz y hzy => ?_, h.left.append h2.left fun z hz y hy hzy => h2.new y hy (h.shut z hz y hzy), fun y hy hRy => ?_⟩
  · rcases List.mem_append.1 hx with hx | hx
    · exact h.new x hx
    · exact ⟨fun h' => h2.new x hx (.inl h'), fun h' => h2.new x hx (.inr (.inl h'))⟩
  · rcases List.mem_append.1 hx with hx | hx
    · exact h.reach x hx
    · refine .head ⟨hR, fun h' => h2.new u hu (.inl h')⟩ ((h2.reach x hx).mono fun a b hab => ⟨hab.1, fun h' => hab.2 (.inl h')⟩)
  · rcases List.mem_append.1 hz with hz | hz
    · rcases h.shut z hz y hzy with h' | h' | h'
      · exact .inl h'
      · exact .inr (.inl h')
      · exact .inr (.inr (List.mem_append_left _ h'))
    · rcases h2.shut z hz y hzy with (h' | h' | h') | h'
      · exact .inl h'
      · exact .inr (.inl h')
      · exact .inr (.inr (List.mem_append_left _ h'))
      · exact .inr (.inr (List.mem_append_right _ h'))
  · rcases hT y hy with h1 | rfl
    · rcases h.seen y h1 hRy with h' | h' | h'
      · exact .inl h'
      · exact .inr (.inl h')
      · exact .inr (.inr (List.mem_append_left _ h'))
    · exact .inr (.inr (List.mem_append_right _ hu))
theorem Finding.done (hv : ¬ D v) (h : Finding R D v T C) (hT : ∀ y, R v y → T y) : Found R D v (C ++ [v]) := by
  refine ⟨List.nodup_append.2 ⟨h.nodup, by simp, fun a ha b hb e => by simp at hb; subst hb; exact (h.new a ha).2 e⟩, fun x hx => ?_, ⟨C, rfl⟩, fun x hx => ?_, fun z hz y hzy => ?_, fun A x B e => ?_⟩
  · rcases List.mem_append.1 hx with hx | hx
    · exact (h.new x hx).1
    · simp at hx; subst hx; exact hv
  · rcases List.mem_append.1 hx with hx | hx
    · exact h.reach x hx
    · simp at hx; subst hx; exact .refl _
  · have hin : D y ∨ y = v ∨ y ∈ C := by
      rcases List.mem_append.1 hz with hz | hz
      · exact h.shut z hz y hzy
      · simp at hz; subst hz; exact h.seen y (hT y hzy) hzy
    rcases hin with h' | rfl | h'
    · exact .inl h'
    · exact .inr (by simp)
    · exact .inr (by simp [h'])
  · rcases List.append_eq_append_iff.1 e with ⟨E, h3, h4⟩ | ⟨E, h3, h4⟩
    · rcases E with _ | ⟨e0, E⟩
      · simp at h3 h4
        obtain ⟨rfl, rfl⟩ := h4
        subst h3
        exact ⟨[], A, rfl, fun y hy => (h.reach y hy).mono fun a b hab => hab.1, fun z hz => by cases hz⟩
      · simp at h4
    · rcases E with _ | ⟨e0, E⟩
      · simp at h3 h4
        obtain ⟨rfl, rfl⟩ := h4
        subst h3
        exact ⟨[], C, rfl, fun y hy => (h.reach y hy).mono fun a b hab => hab.1, fun z hz => by cases hz⟩
      · simp only [List.cons_append, List.cons.injEq] at h4
        obtain ⟨rfl, h4⟩ := h4
        exact h.left A x E h3
/-- All searches so far: L is closed, and in the order of leaving. -/
structure Founds (R : Nat → Nat → Prop) (L : List Nat) : Prop where
  nodup : L.Nodup
  shut : ∀ z ∈ L, ∀ y, R z y → y ∈ L
  left : Left R L
theorem Founds.nil (R : Nat → Nat → Prop) : Founds R [] := ⟨List.nodup_nil, fun _ h => (by cases h), Left.nil R⟩
theorem Founds.more {L : List Nat} (h : Founds R L) (h2 : Found R (fun x => x ∈ L) v C) : Founds R (L ++ C) := by
  refine ⟨List.nodup_append.2 ⟨h.nodup, h2.nodup, fun a ha b hb e => h2.new b hb (e ▸ ha)⟩, fun z hz y hzy => ?_, h.left.append h2.left fun z hz y hy hzy => h2.new y hy (h.shut z hz y hzy)⟩
  rcases List.mem_append.1 hz with hz | hz
  · exact List.mem_append_left _ (h.shut z hz y hzy)
  · rcases h2.shut z hz y hzy with h' | h'
    · exact List.mem_append_left _ h'
    · exact List.mem_append_right _ h'

/-- v and x lead to each other. -/
def Both (R : Nat → Nat → Prop) (v x : Nat) : Prop := Star R v x ∧ Star R x v
theorem Both.symm {v x : Nat} (h : Both R v x) : Both R x v := ⟨h.2, h.1⟩
theorem Both.trans {v x y : Nat} (h : Both R v x) (k : Both R x y) : Both R v y := ⟨h.1.trans k.1, k.2.trans h.2⟩
theorem Both.refl (v : Nat) : Both R v v := ⟨.refl _, .refl _⟩
/-- The second search, from the last of those that are not marked yet, against the edges: it marks just v's class. -/
theorem Founds.second {L A B : List Nat} {v : Nat} (h : Founds R L) (hL : L = A ++ v :: B) (hB : ∀ x ∈ B, D x) (hDL : ∀ x, D x → x ∈ L) (hD : ∀ x y, D x → Both R x y → D y) (hv : ¬ D v)
    (h2 : Found (fun a b => R b a ∧ b ∈ L) D v C) (x : Nat) : x ∈ C ↔ Both R v x := by
  obtain ⟨A1, A2, rfl, ha, hb⟩ := h.left A v B hL
  constructor
  · intro hx
    have key : ∀ y, Star (fun a b => (R b a ∧ b ∈ L) ∧ ¬ D b) v y → y = v ∨ y ∈ A2 := fun y hy => by
      induction hy with
      | refl => exact .inl rfl
      | tail hva s ih =>
        rename_i a b
        have hin := s.1.2
        rw [hL] at hin
        rcases List.mem_append.1 hin with hin | hin
        · rcases List.mem_append.1 hin with hin | hin
          · exact absurd s.1.1 (hb b hin a ih)
          · exact .inr hin
        · rcases List.mem_cons.1 hin with rfl | hin
          · exact .inl rfl
          · exact absurd (hB b hin) s.2
    have h3 := h2.reach x hx
    refine ⟨?_, (h3.turn.mono fun a b hab => hab.1.1)⟩
    rcases key x h3 with rfl | h4
    · exact .refl _
    · exact ha x h4
  · rintro ⟨h3, h4⟩
    have key : ∀ y, Star (fun a b => R b a) v y → Star R v y → y ∈ C ∧ y ∈ L := fun y hy => by
      induction hy with
      | refl =>
        intro _
        obtain ⟨C', e⟩ := h2.last
        exact ⟨by rw [e]; simp, by rw [hL]; simp⟩
      | tail hva s ih =>
        rename_i a b
        intro hvb
        have h5 := ih (hvb.tail s)
        have hbL : b ∈ L := by
          have hvL : v ∈ L := by rw [hL]; simp
          clear ih h5 s hva
          induction hvb with
          | refl => exact hvL
          | tail _ s ih => exact h.shut _ ih _ s
        refine ⟨?_, hbL⟩
        rcases h2.shut a h5.1 b ⟨s, hbL⟩ with h6 | h6
        · exact absurd (hD b v h6 ⟨.head s hva.turn, hvb⟩) hv
        · exact h6
    exact (key x h4.turn h3).1
end
end Go.Proofs.Ytpnophmanpfejaa
