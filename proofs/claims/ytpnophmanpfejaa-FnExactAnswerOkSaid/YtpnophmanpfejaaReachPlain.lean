/- Which vertices are reached from which, and what a search knows on its way. No program in sight, no condition. -/
import Derived.Test.YtpnophmanpfejaaBools
namespace Go.Proofs.Ytpnophmanpfejaa
set_option linter.unusedSimpArgs false
set_option linter.unusedVariables false

/-- u has the successor v, which is inside. -/
def StepIn (next : List (List Int)) (inside : Nat → Bool) (u v : Nat) : Prop := (v : Int) ∈ rx next u ∧ inside v = true
inductive Ways (next : List (List Int)) (inside : Nat → Bool) : Nat → Nat → Prop
  | refl (u : Nat) : Ways next inside u u
  | tail {u v x : Nat} : Ways next inside u v → StepIn next inside v x → Ways next inside u x
/-- From S leads a way to v. -/
def Reached (next : List (List Int)) (inside : Nat → Bool) (S : Nat → Prop) (v : Nat) : Prop := ∃ u, S u ∧ Ways next inside u v
/-- .. of at least one step. -/
def Beyond (next : List (List Int)) (inside : Nat → Bool) (S : Nat → Prop) (v : Nat) : Prop := ∃ u x, S u ∧ StepIn next inside u x ∧ Ways next inside x v

theorem Ways.trans {next : List (List Int)} {inside : Nat → Bool} {u v x : Nat} (h : Ways next inside u v) (k : Ways next inside v x) : Ways next inside u x := by
  induction k with
  | refl => exact h
  | tail _ s ih => exact .tail ih s
theorem Ways.head {next : List (List Int)} {inside : Nat → Bool} {u v x : Nat} (h : StepIn next inside u v) (k : Ways next inside v x) : Ways next inside u x := Ways.trans (.tail (.refl _) h) k
theorem Ways.mono {next : List (List Int)} {i j : Nat → Bool} {u v : Nat} (h : Ways next i u v) (hij : ∀ a b, StepIn next i a b → StepIn next j a b) : Ways next j u v := by
  induction h with
  | refl => exact .refl _
  | tail _ s ih => exact .tail ih (hij _ _ s)
theorem Reached.step {next : List (List Int)} {inside : Nat → Bool} {S : Nat → Prop} {v x : Nat} (h : Reached next inside S v) (s : StepIn next inside v x) : Reached next inside S x := by
  obtain ⟨u, hu, hw⟩ := h
  exact ⟨u, hu, .tail hw s⟩
theorem Beyond.step {next : List (List Int)} {inside : Nat → Bool} {S : Nat → Prop} {v x : Nat} (h : S v ∨ Beyond next inside S v) (s : StepIn next inside v x) : Beyond next inside S x := by
  rcases h with h | ⟨u, y, hu, h1, h2⟩
  · exact ⟨v, x, h, s, .refl _⟩
  · exact ⟨u, y, hu, h1, .tail h2 s⟩

/-- What a search knows: out is what has been marked, q what it has still to look at. Of B all is marked from the start, T is what may be marked at all. -/
structure Look (next : List (List Int)) (inside : Nat → Bool) (n : Nat) (B S T : Nat → Prop) (out : List Bool) (q : List Int) : Prop where
  len : out.length = n
  base : ∀ x, B x → bx out x = true
  sub : ∀ x, bx out x = true → T x
  pend : ∀ x, (S x ∨ bx out x = true) → (x : Int) ∈ q ∨ ∀ y, StepIn next inside x y → bx out y = true
  qv : ∀ k, k < q.length → ∃ j : Nat, ix q k = (j : Int) ∧ j < n ∧ (S j ∨ bx out j = true)
/-- .. while it looks at vertex v, of whose successors the first t have been seen. -/
structure LookAt (next : List (List Int)) (inside : Nat → Bool) (n : Nat) (B S T : Nat → Prop) (v t : Nat) (out : List Bool) (q : List Int) : Prop where
  len : out.length = n
  base : ∀ x, B x → bx out x = true
  sub : ∀ x, bx out x = true → T x
  pend : ∀ x, (S x ∨ bx out x = true) → (x : Int) ∈ q ∨ x = v ∨ ∀ y, StepIn next inside x y → bx out y = true
  qv : ∀ k, k < q.length → ∃ j : Nat, ix q k = (j : Int) ∧ j < n ∧ (S j ∨ bx out j = true)
  at_ : S v ∨ bx out v = true
  got : ∀ i, i < t → ∀ y : Nat, ix (rx next v) i = (y : Int) → inside y = true → bx out y = true

variable {next : List (List Int)} {inside : Nat → Bool} {n : Nat} {B S T : Nat → Prop} {out : List Bool} {q : List Int} {v t : Nat}
theorem Look.pop {q' : List Int} (h : Look next inside n B S T out q) (hv : S v ∨ bx out v = true) (hm : ∀ x ∈ q, x ∈ q' ∨ x = (v : Int)) (hs : ∀ k, k < q'.length → ∃ j, j < q.length ∧ ix q' k = ix q j) : LookAt next inside n B S T v 0 out q' := by
  refine ⟨h.len, h.base, h.sub, fun x hx => ?_, fun k hk => ?_, hv, fun i hi => by omega⟩
  · rcases h.pend x hx with h1 | h1
    · rcases hm _ h1 with h2 | h2
      · exact .inl h2
      · exact .inr (.inl (by omega))
    · exact .inr (.inr h1)
  · obtain ⟨j, hj, e⟩ := hs k hk
    rw [e]; exact h.qv j hj
theorem LookAt.skip {u : Nat} (h : LookAt next inside n B S T v t out q) (hu : ix (rx next v) t = (u : Int)) (hno : inside u = false ∨ bx out u = true) : LookAt next inside n B S T v (t + 1) out q := by
  refine ⟨h.len, h.base, h.sub, h.pend, h.qv, h.at_, fun i hi y hy hin => ?_⟩
  by_cases e : i = t
  · subst e
    have : u = y := by omega
    subst this
    rcases hno with h1 | h1
    · rw [h1] at hin; cases hin
    · exact h1
  · exact h.got i (by omega) y hy hin
theorem LookAt.take {u : Nat} (h : LookAt next inside n B S T v t out q) (ht : t < (rx next v).length) (hu : ix (rx next v) t = (u : Int)) (hun : u < n) (hin : inside u = true) (hT : ∀ x y, (S x ∨ T x) → StepIn next inside x y → T y) :
    LookAt next inside n B S T v (t + 1) (out.set u true) (q ++ [(u : Int)]) := by
  have hl := h.len
  have hset : ∀ x, bx (out.set u true) x = true ↔ x = u ∨ bx out x = true := fun x => by
    rw [bx_set (by omega)]
    by_cases e : x = u <;> simp [e]
  have hmem : StepIn next inside v u := ⟨mem_ix.2 ⟨t, ht, hu⟩, hin⟩
  have hgr : ∀ x, bx out x = true → bx (out.set u true) x = true := fun x hx => (hset x).2 (.inr hx)
  refine ⟨by simpa using hl, fun x hx => hgr x (h.base x hx), fun x hx => ?_, fun x hx => ?_, fun k hk => ?_, h.at_.imp id (hgr v), fun i hi y hy hin => ?_⟩
  · rcases (hset x).1 hx with e | hx
    · subst e
      exact hT v x (h.at_.imp id (h.sub v)) hmem
    · exact h.sub x hx
  · rcases hx with hx | hx
    · rcases h.pend x (.inl hx) with h1 | h1 | h1
      · exact .inl (by simp [h1])
      · exact .inr (.inl h1)
      · exact .inr (.inr fun y hy => hgr y (h1 y hy))
    · rcases (hset x).1 hx with e | hx
      · subst e
        exact .inl (by simp)
      · rcases h.pend x (.inr hx) with h1 | h1 | h1
        · exact .inl (by simp [h1])
        · exact .inr (.inl h1)
        · exact .inr (.inr fun y hy => hgr y (h1 y hy))
  · by_cases e : k < q.length
    · obtain ⟨j, h1, h2, h3⟩ := h.qv k e
      refine ⟨j, ?_, h2, h3.imp id (hgr j)⟩
      rw [← h1]; simp [ix, e, List.getElem?_append_left e]
    · have : k = q.length := by simp at hk; omega
      subst this
      exact ⟨u, by simp [ix], hun, .inr ((hset u).2 (.inl rfl))⟩
  · by_cases e : i = t
    · subst e
      have : u = y := by omega
      subst this
      exact (hset u).2 (.inl rfl)
    · exact hgr y (h.got i (by omega) y hy hin)
theorem LookAt.done (h : LookAt next inside n B S T v t out q) (ht : t = (rx next v).length) : Look next inside n B S T out q := by
  refine ⟨h.len, h.base, h.sub, fun x hx => ?_, h.qv⟩
  rcases h.pend x hx with h1 | h1 | h1
  · exact .inl h1
  · subst h1
    refine .inr fun y hy => ?_
    obtain ⟨k, hk, e⟩ := mem_ix.1 hy.1
    exact h.got k (by omega) y e hy.2
  · exact .inr h1
theorem Look.reached (h : Look next inside n S S (Reached next inside S) out []) (x : Nat) : bx out x = true ↔ Reached next inside S x := by
  refine ⟨h.sub x, ?_⟩
  rintro ⟨u, hu, hw⟩
  induction hw with
  | refl => exact h.base _ hu
  | tail _ s ih =>
    rcases h.pend _ (.inr ih) with h1 | h1
    · cases h1
    · exact h1 _ s
theorem Look.beyond (h : Look next inside n (fun _ => False) S (Beyond next inside S) out []) (x : Nat) : bx out x = true ↔ Beyond next inside S x := by
  refine ⟨h.sub x, ?_⟩
  rintro ⟨u, y, hu, hs, hw⟩
  have hy : bx out y = true := by
    rcases h.pend u (.inl hu) with h1 | h1
    · cases h1
    · exact h1 y hs
  clear hs hu
  induction hw with
  | refl => exact hy
  | tail _ s ih =>
    rcases h.pend _ (.inr ih) with h1 | h1
    · cases h1
    · exact h1 _ s

/-- How much a search has still to do, at most. -/
def toDo (out : List Bool) (q : List Int) : Nat := 2 * out.count false + q.length
theorem toDo_take {u : Nat} (hu : u < out.length) (h : bx out u = false) : toDo (out.set u true) (q ++ [(u : Int)]) + 1 ≤ toDo out q := by
  have h1 : out[u] = false := by rw [bx_lt hu] at h; exact h
  have hc : (out.set u true).count false + 1 = out.count false := by
    have := List.count_set (l := out) (i := u) (a := true) (b := false) hu
    have hpos : 0 < out.count false := List.count_pos_iff.2 (h1 ▸ List.getElem_mem hu)
    rw [this, h1]
    simp
    omega
  unfold toDo
  simp only [List.length_append, List.length_singleton]
  omega
theorem toDo_le : toDo out q ≤ 2 * out.length + q.length := by
  have := List.count_le_length (a := false) (l := out)
  unfold toDo; omega

open Classical in
noncomputable def reachL (next : List (List Int)) (inside : Nat → Bool) (n : Nat) (S : Nat → Prop) : List Bool := (List.range n).map fun v => decide (Reached next inside S v)
open Classical in
noncomputable def beyondL (next : List (List Int)) (inside : Nat → Bool) (n : Nat) (S : Nat → Prop) : List Bool := (List.range n).map fun v => decide (Beyond next inside S v)
@[simp] theorem length_reachL : (reachL next inside n S).length = n := by simp [reachL]
@[simp] theorem length_beyondL : (beyondL next inside n S).length = n := by simp [beyondL]
theorem bx_reachL {x : Nat} (h : x < n) : bx (reachL next inside n S) x = true ↔ Reached next inside S x := by simp [bx, reachL, h]
theorem bx_beyondL {x : Nat} (h : x < n) : bx (beyondL next inside n S) x = true ↔ Beyond next inside S x := by simp [bx, beyondL, h]
theorem bools_ext' {l m : List Bool} (hl : l.length = m.length) (h : ∀ j, j < m.length → (bx l j = true ↔ bx m j = true)) : l = m :=
  bools_ext hl fun j hj => by
    have := h j hj
    cases h1 : bx l j <;> cases h2 : bx m j <;> simp_all
theorem Look.is_reachL (h : Look next inside n S S (Reached next inside S) out []) : out = reachL next inside n S :=
  bools_ext' (by simp [h.len]) fun j hj => by
    rw [h.reached, bx_reachL (by simpa using hj)]
theorem Look.is_beyondL (h : Look next inside n (fun _ => False) S (Beyond next inside S) out []) : out = beyondL next inside n S :=
  bools_ext' (by simp [h.len]) fun j hj => by
    rw [h.beyond, bx_beyondL (by simpa using hj)]

/-- The marked vertices, rising. -/
def markedL (m : List Bool) : List Int := (upFrom 0 m.length).filter fun v => bx m v.toNat
def markedTo (m : List Bool) (k : Nat) : List Int := (upFrom 0 k).filter fun v => bx m v.toNat
theorem markedTo_succ (m : List Bool) (k : Nat) : markedTo m (k + 1) = markedTo m k ++ if bx m k = true then [(k : Int)] else [] := by
  unfold markedTo
  rw [upFrom_snoc, List.filter_append]
  congr 1
  by_cases h : bx m k = true <;> simp [h]
theorem markedTo_len (m : List Bool) (k : Nat) : (markedTo m k).length ≤ k := by
  have := List.length_filter_le (fun v => bx m v.toNat) (upFrom 0 k)
  rw [length_upFrom] at this
  exact this
theorem mem_upFrom {x : Int} {k : Nat} : x ∈ upFrom 0 k ↔ ∃ j : Nat, j < k ∧ x = (j : Int) := by
  simp only [upFrom, List.mem_map, List.mem_range]
  constructor
  · rintro ⟨j, hj, rfl⟩; exact ⟨j, hj, by omega⟩
  · rintro ⟨j, hj, rfl⟩; exact ⟨j, hj, by omega⟩
theorem mem_markedL {m : List Bool} {x : Int} : x ∈ markedL m ↔ ∃ j : Nat, j < m.length ∧ x = (j : Int) ∧ bx m j = true := by
  unfold markedL
  rw [List.mem_filter, mem_upFrom]
  constructor
  · rintro ⟨⟨j, hj, rfl⟩, h⟩; exact ⟨j, hj, rfl, by simpa using h⟩
  · rintro ⟨j, hj, rfl, h⟩; exact ⟨⟨j, hj, rfl⟩, by simpa using h⟩
end Go.Proofs.Ytpnophmanpfejaa
