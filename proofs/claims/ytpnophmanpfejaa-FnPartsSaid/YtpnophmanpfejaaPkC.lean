/- Texts of this claim that go together: Duel, ReachPlain, PullPlain, WinPlain, PullPlain2, WonPlain, EvenPlain, L7WinPlain, RankPlain. Conditions: those that each theorem names. -/
import Derived.Test.YtpnophmanpfejaaPkA
import Derived.Test.YtpnophmanpfejaaPkB
/- Which vertices are reached from which, and what a search knows on its way. No program in sight, no condition. -/
namespace Go.Proofs.Ytpnophmanpfejaa
set_option linter.unusedSimpArgs false
set_option linter.unusedVariables false

/-- u has the successor v, which is inside. -/
def StepIn (next : List (List Int)) (inside : Nat → Bool) (u v : Nat) : Prop := (v : Int) ∈ rx next u ∧ inside v = true
inductive Ways (next : List (List Int)) (inside : Nat → Bool) : Nat → Nat → Prop
  | refl (u : Nat) : Ways next inside u u
  | tail {u v x : Nat} : Ways next inside u v → StepIn next inside v x → Ways next inside u x
/-- From S leads a way to v. -/
def Reached (next : List (List Int)) (inside : Nat → Bool) (S : Nat → Prop) (v : Nat) : Prop := ∃ u, S u ∧ Ways next inside u v
/-- .. of at least one step. -/
def Beyond (next : List (List Int)) (inside : Nat → Bool) (S : Nat → Prop) (v : Nat) : Prop := ∃ u x, S u ∧ StepIn next inside u x ∧ Ways next inside x v

theorem Ways.trans {next : List (List Int)} {inside : Nat → Bool} {u v x : Nat} (h : Ways next inside u v) (k : Ways next inside v x) : Ways next inside u x := by
  induction k with
  | refl => exact h
  | tail _ s ih => exact .tail ih s
theorem Ways.head {next : List (List Int)} {inside : Nat → Bool} {u v x : Nat} (h : StepIn next inside u v) (k : Ways next inside v x) : Ways next inside u x := Ways.trans (.tail (.refl _) h) k
theorem Ways.mono {next : List (List Int)} {i j : Nat → Bool} {u v : Nat} (h : Ways next i u v) (hij : ∀ a b, StepIn next i a b → StepIn next j a b) : Ways next j u v := by
  induction h with
  | refl => exact .refl _
  | tail _ s ih => exact .tail ih (hij _ _ s)
theorem Reached.step {next : List (List Int)} {inside : Nat → Bool} {S : Nat → Prop} {v x : Nat} (h : Reached next inside S v) (s : StepIn next inside v x) : Reached next inside S x := by
  obtain ⟨u, hu, hw⟩ := h
  exact ⟨u, hu, .tail hw s⟩
theorem Beyond.step {next : List (List Int)} {inside : Nat → Bool} {S : Nat → Prop} {v x : Nat} (h : S v ∨ Beyond next inside S v) (s : StepIn next inside v x) : Beyond next inside S x := by
  rcases h with h | ⟨u, y, hu, h1, h2⟩
  · exact ⟨v, x, h, s, .refl _⟩
  · exact ⟨u, y, hu, h1, .tail h2 s⟩

/-- What a search knows: out is what has been marked, q what it has still to look at. Of B all is marked from the start, T is what may be marked at all. -/
structure Look (next : List (List Int)) (inside : Nat → Bool) (n : Nat) (B S T : Nat → Prop) (out : List Bool) (q : List Int) : Prop where
  len : out.length = n
  base : ∀ x, B x → bx out x = true
  sub : ∀ x, bx out x = true → T x
  pend : ∀ x, (S x ∨ bx out x = true) → (x : Int) ∈ q ∨ ∀ y, StepIn next inside x y → bx out y = true
  qv : ∀ k, k < q.length → ∃ j : Nat, ix q k = (j : Int) ∧ j < n ∧ (S j ∨ bx out j = true)
/-- .. while it looks at vertex v, of whose successors the first t have been seen. -/
structure LookAt (next : List (List Int)) (inside : Nat → Bool) (n : Nat) (B S T : Nat → Prop) (v t : Nat) (out : List Bool) (q : List Int) : Prop where
  len : out.length = n
  base : ∀ x, B x → bx out x = true
  sub : ∀ x, bx out x = true → T x
  pend : ∀ x, (S x ∨ bx out x = true) → (x : Int) ∈ q ∨ x = v ∨ ∀ y, StepIn next inside x y → bx out y = true
  qv : ∀ k, k < q.length → ∃ j : Nat, ix q k = (j : Int) ∧ j < n ∧ (S j ∨ bx out j = true)
  at_ : S v ∨ bx out v = true
  got : ∀ i, i < t → ∀ y : Nat, ix (rx next v) i = (y : Int) → inside y = true → bx out y = true

variable {next : List (List Int)} {inside : Nat → Bool} {n : Nat} {B S T : Nat → Prop} {out : List Bool} {q : List Int} {v t : Nat}
theorem Look.pop {q' : List Int} (h : Look next inside n B S T out q) (hv : S v ∨ bx out v = true) (hm : ∀ x ∈ q, x ∈ q' ∨ x = (v : Int)) (hs : ∀ k, k < q'.length → ∃ j, j < q.length ∧ ix q' k = ix q j) : LookAt next inside n B S T v 0 out q' := by
  refine ⟨h.len, h.base, h.sub, fun x hx => ?_, fun k hk => ?_, hv, fun i hi => by omega⟩
  · rcases h.pend x hx with h1 | h1
    · rcases hm _ h1 with h2 | h2
      · exact .inl h2
      · exact .inr (.inl (by omega))
    · exact .inr (.inr h1)
  · obtain ⟨j, hj, e⟩ := hs k hk
    rw [e]; exact h.qv j hj
theorem LookAt.skip {u : Nat} (h : LookAt next inside n B S T v t out q) (hu : ix (rx next v) t = (u : Int)) (hno : inside u = false ∨ bx out u = true) : LookAt next inside n B S T v (t + 1) out q := by
  refine ⟨h.len, h.base, h.sub, h.pend, h.qv, h.at_, fun i hi y hy hin => ?_⟩
  by_cases e : i = t
  · subst e
    have : u = y := by omega
    subst this
    rcases hno with h1 | h1
    · rw [h1] at hin; cases hin
    · exact h1
  · exact h.got i (by omega) y hy hin
theorem LookAt.take {u : Nat} (h : LookAt next inside n B S T v t out q) (ht : t < (rx next v).length) (hu : ix (rx next v) t = (u : Int)) (hun : u < n) (hin : inside u = true) (hT : ∀ x y, (S x ∨ T x) → StepIn next inside x y → T y) :
    LookAt next inside n B S T v (t + 1) (out.set u true) (q ++ [(u : Int)]) := by
  have hl := h.len
  have hset : ∀ x, bx (out.set u true) x = true ↔ x = u ∨ bx out x = true := fun x => by
    rw [bx_set (by omega)]
    by_cases e : x = u <;> simp [e]
  have hmem : StepIn next inside v u := ⟨mem_ix.2 ⟨t, ht, hu⟩, hin⟩
  have hgr : ∀ x, bx out x = true → bx (out.set u true) x = true := fun x hx => (hset x).2 (.inr hx)
  refine ⟨by simpa using hl, fun x hx => hgr x (h.base x hx), fun x hx => ?_, fun x hx => ?_, fun k hk => ?_, h.at_.imp id (hgr v), fun i hi y hy hin => ?_⟩
  · rcases (hset x).1 hx with e | hx
    · subst e
      exact hT v x (h.at_.imp id (h.sub v)) hmem
    · exact h.sub x hx
  · rcases hx with hx | hx
    · rcases h.pend x (.inl hx) with h1 | h1 | h1
      · exact .inl (by simp [h1])
      · exact .inr (.inl h1)
      · exact .inr (.inr fun y hy => hgr y (h1 y hy))
    · rcases (hset x).1 hx with e | hx
      · subst e
        exact .inl (by simp)
      · rcases h.pend x (.inr hx) with h1 | h1 | h1
        · exact .inl (by simp [h1])
        · exact .inr (.inl h1)
        · exact .inr (.inr fun y hy => hgr y (h1 y hy))
  · by_cases e : k < q.length
    · obtain ⟨j, h1, h2, h3⟩ := h.qv k e
      refine ⟨j, ?_, h2, h3.imp id (hgr j)⟩
      rw [← h1]; simp [ix, e, List.getElem?_append_left e]
    · have : k = q.length := by simp at hk; omega
      subst this
      exact ⟨u, by simp [ix], hun, .inr ((hset u).2 (.inl rfl))⟩
  · by_cases e : i = t
    · subst e
      have : u = y := by omega
      subst this
      exact (hset u).2 (.inl rfl)
    · exact hgr y (h.got i (by omega) y hy hin)
theorem LookAt.done (h : LookAt next inside n B S T v t out q) (ht : t = (rx next v).length) : Look next inside n B S T out q := by
  refine ⟨h.len, h.base, h.sub, fun x hx => ?_, h.qv⟩
  rcases h.pend x hx with h1 | h1 | h1
  · exact .inl h1
  · subst h1
    refine .inr fun y hy => ?_
    obtain ⟨k, hk, e⟩ := mem_ix.1 hy.1
    exact h.got k (by omega) y e hy.2
  · exact .inr h1
theorem Look.reached (h : Look next inside n S S (Reached next inside S) out []) (x : Nat) : bx out x = true ↔ Reached next inside S x := by
  refine ⟨h.sub x, ?_⟩
  rintro ⟨u, hu, hw⟩
  induction hw with
  | refl => exact h.base _ hu
  | tail _ s ih =>
    rcases h.pend _ (.inr ih) with h1 | h1
    · cases h1
    · exact h1 _ s
theorem Look.beyond (h : Look next inside n (fun _ => False) S (Beyond next inside S) out []) (x : Nat) : bx out x = true ↔ Beyond next inside S x := by
  refine ⟨h.sub x, ?_⟩
  rintro ⟨u, y, hu, hs, hw⟩
  have hy : bx out y = true := by
    rcases h.pend u (.inl hu) with h1 | h1
    · cases h1
    · exact h1 y hs
  clear hs hu
  induction hw with
  | refl => exact hy
  | tail _ s ih =>
    rcases h.pend _ (.inr ih) with h1 | h1
    · cases h1
    · exact h1 _ s

/-- How much a search has still to do, at most. -/
def toDo (out : List Bool) (q : List Int) : Nat := 2 * out.count false + q.length
theorem toDo_take {u : Nat} (hu : u < out.length) (h : bx out u = false) : toDo (out.set u true) (q ++ [(u : Int)]) + 1 ≤ toDo out q := by
  have h1 : out[u] = false := by rw [bx_lt hu] at h; exact h
  have hc : (out.set u true).count false + 1 = out.count false := by
    have := List.count_set (l := out) (i := u) (a := true) (b := false) hu
    have hpos : 0 < out.count false := List.count_pos_iff.2 (h1 ▸ List.getElem_mem hu)
    rw [this, h1]
    simp
    omega
  unfold toDo
  simp only [List.length_append, List.length_singleton]
  omega
theorem toDo_le : toDo out q ≤ 2 * out.length + q.length := by
  have := List.count_le_length (a := false) (l := out)
  unfold toDo; omega

open Classical in
noncomputable def reachL (next : List (List Int)) (inside : Nat → Bool) (n : Nat) (S : Nat → Prop) : List Bool := (List.range n).map fun v => decide (Reached next inside S v)
open Classical in
noncomputable def beyondL (next : List (List Int)) (inside : Nat → Bool) (n : Nat) (S : Nat → Prop) : List Bool := (List.range n).map fun v => decide (Beyond next inside S v)
@[simp] theorem length_reachL : (reachL next inside n S).length = n := by simp [reachL]
@[simp] theorem length_beyondL : (beyondL next inside n S).length = n := by simp [beyondL]
theorem bx_reachL {x : Nat} (h : x < n) : bx (reachL next inside n S) x = true ↔ Reached next inside S x := by simp [bx, reachL, h]
theorem bx_beyondL {x : Nat} (h : x < n) : bx (beyondL next inside n S) x = true ↔ Beyond next inside S x := by simp [bx, beyondL, h]
theorem bools_ext' {l m : List Bool} (hl : l.length = m.length) (h : ∀ j, j < m.length → (bx l j = true ↔ bx m j = true)) : l = m :=
  bools_ext hl fun j hj => by
    have := h j hj
    cases h1 : bx l j <;> cases h2 : bx m j <;> simp_all
theorem Look.is_reachL (h : Look next inside n S S (Reached next inside S) out []) : out = reachL next inside n S :=
  bools_ext' (by simp [h.len]) fun j hj => by
    rw [h.reached, bx_reachL (by simpa using hj)]
theorem Look.is_beyondL (h : Look next inside n (fun _ => False) S (Beyond next inside S) out []) : out = beyondL next inside n S :=
  bools_ext' (by simp [h.len]) fun j hj => by
    rw [h.beyond, bx_beyondL (by simpa using hj)]

/-- The marked vertices, rising. -/
def markedL (m : List Bool) : List Int := (upFrom 0 m.length).filter fun v => bx m v.toNat
def markedTo (m : List Bool) (k : Nat) : List Int := (upFrom 0 k).filter fun v => bx m v.toNat
theorem markedTo_succ (m : List Bool) (k : Nat) : markedTo m (k + 1) = markedTo m k ++ if bx m k = true then [(k : Int)] else [] := by
  unfold markedTo
  rw [upFrom_snoc, List.filter_append]
  congr 1
  by_cases h : bx m k = true <;> simp [h]
theorem markedTo_len (m : List Bool) (k : Nat) : (markedTo m k).length ≤ k := by
  have := List.length_filter_le (fun v => bx m v.toNat) (upFrom 0 k)
  rw [length_upFrom] at this
  exact this
theorem mem_upFrom {x : Int} {k : Nat} : x ∈ upFrom 0 k ↔ ∃ j : Nat, j < k ∧ x = (j : Int) := by
  simp only [upFrom, List.mem_map, List.mem_range]
  constructor
  · rintro ⟨j, hj, rfl⟩; exact ⟨j, hj, by omega⟩
  · rintro ⟨j, hj, rfl⟩; exact ⟨j, hj, by omega⟩
theorem mem_markedL {m : List Bool} {x : Int} : x ∈ markedL m ↔ ∃ j : Nat, j < m.length ∧ x = (j : Int) ∧ bx m j = true := by
  unfold markedL
  rw [List.mem_filter, mem_upFrom]
  constructor
  · rintro ⟨⟨j, hj, rfl⟩, h⟩; exact ⟨j, hj, rfl, by simpa using h⟩
  · rintro ⟨j, hj, rfl, h⟩; exact ⟨⟨j, hj, rfl⟩, by simpa using h⟩
end Go.Proofs.Ytpnophmanpfejaa

/- Ranks towards a goal: how they come about round by round. No program in sight. -/
namespace Go.Proofs.Ytpnophmanpfejaa
set_option linter.unusedSimpArgs false
set_option linter.unusedVariables false

/-- A vertex must go, or can go, to vertices with ranks. -/
def pulledB (a : ArenaD) (who : Int) (m : List Bool) (r : List Int) (v : Nat) : Bool :=
  if ix a.owner v = who then (rx a.next v).any fun u => bx m u.toNat && decide (0 ≤ ix r u.toNat)
  else ((rx a.next v).any fun u => bx m u.toNat) && ((rx a.next v).all fun u => !bx m u.toNat || decide (0 ≤ ix r u.toNat))
def rank0 (n : Nat) (m : List Bool) (goal : List Int) : List Int := (List.range n).map fun v => if bx m v && decide ((v : Int) ∈ goal) then 0 else -1
/-- v gets a rank now. -/
def newB (a : ArenaD) (who : Int) (m : List Bool) (r : List Int) (v : Nat) : Bool := decide (ix r v < 0) && (bx m v && pulledB a who m r v)
def rankUp (a : ArenaD) (who : Int) (m : List Bool) (k : Int) (r : List Int) : List Int := (List.range r.length).map fun v => if newB a who m r v then k else ix r v
def rankAt (a : ArenaD) (who : Int) (m : List Bool) (goal : List Int) : Nat → List Int
  | 0 => rank0 a.owner.length m goal
  | k + 1 => rankUp a who m ((k : Int) + 1) (rankAt a who m goal k)
def ranksL (a : ArenaD) (who : Int) (s goal : List Int) : List Int := rankAt a who (marksL a.owner.length s) goal a.owner.length

variable {a : ArenaD} {who : Int} {m : List Bool} {goal r s : List Int} {k n v : Nat}
@[simp] theorem length_rank0 : (rank0 n m goal).length = n := by simp [rank0]
@[simp] theorem length_rankUp {x : Int} : (rankUp a who m x r).length = r.length := by simp [rankUp]
@[simp] theorem length_rankAt : (rankAt a who m goal k).length = a.owner.length := by
  induction k with
  | zero => simp [rankAt]
  | succ k ih => simp [rankAt, ih]
@[simp] theorem length_ranksL : (ranksL a who s goal).length = a.owner.length := by simp [ranksL]
theorem ix_rank0 (h : v < n) : ix (rank0 n m goal) v = if bx m v && decide ((v : Int) ∈ goal) then 0 else -1 := by simp [ix, rank0, h]
theorem ix_rankUp {x : Int} (h : v < r.length) : ix (rankUp a who m x r) v = if newB a who m r v then x else ix r v := by
  show (List.getD _ v 0) = _
  simp [rankUp, h]
theorem ix_rankAt_succ (h : v < a.owner.length) : ix (rankAt a who m goal (k + 1)) v = if newB a who m (rankAt a who m goal k) v then (k : Int) + 1 else ix (rankAt a who m goal k) v := by
  show ix (rankUp a who m ((k : Int) + 1) (rankAt a who m goal k)) v = _
  rw [ix_rankUp (by simpa using h)]
theorem ix_out {l : List Int} (h : l.length ≤ v) : ix l v = 0 := by simp [ix, h]

/-- Ranks are -1 or a round's number; who has one is inside. -/
theorem rankAt_bounds (h : v < a.owner.length) : -1 ≤ ix (rankAt a who m goal k) v ∧ ix (rankAt a who m goal k) v ≤ k ∧ (0 ≤ ix (rankAt a who m goal k) v → bx m v = true) := by
  induction k with
  | zero =>
    show -1 ≤ ix (rank0 _ _ _) v ∧ _
    simp only [rankAt]
    rw [ix_rank0 h]
    by_cases hc : bx m v = true ∧ (v : Int) ∈ goal
    · simp [hc.1, hc.2]
    · have : (bx m v && decide ((v : Int) ∈ goal)) = false := by
        cases h1 : bx m v <;> simp_all
      simp [this]
  | succ k ih =>
    rw [ix_rankAt_succ h]
    by_cases hn : newB a who m (rankAt a who m goal k) v = true
    · rw [if_pos hn]
      unfold newB at hn
      simp only [Bool.and_eq_true] at hn
      exact ⟨by omega, by omega, fun _ => hn.2.1⟩
    · rw [if_neg hn]
      exact ⟨ih.1, by omega, ih.2.2⟩
/-- Once given, a rank stays. -/
theorem rankAt_stays (h : v < a.owner.length) (h0 : 0 ≤ ix (rankAt a who m goal k) v) : ix (rankAt a who m goal (k + 1)) v = ix (rankAt a who m goal k) v := by
  rw [ix_rankAt_succ h, if_neg]
  unfold newB
  simp; intro h1; omega
/-- A rank below the round's number was there the round before. -/
theorem rankAt_before (h : v < a.owner.length) (h0 : 0 ≤ ix (rankAt a who m goal (k + 1)) v) (h1 : ix (rankAt a who m goal (k + 1)) v < (k : Int) + 1) : ix (rankAt a who m goal k) v = ix (rankAt a who m goal (k + 1)) v := by
  rw [ix_rankAt_succ h] at *
  by_cases hn : newB a who m (rankAt a who m goal k) v = true
  · rw [if_pos hn] at h1; omega
  · rw [if_neg hn]
/-- Who has none yet was not pulled the round before. -/
theorem rankAt_unpulled (h : v < a.owner.length) (hm : bx m v = true) (h0 : ix (rankAt a who m goal (k + 1)) v < 0) : pulledB a who m (rankAt a who m goal k) v = false := by
  rw [ix_rankAt_succ h] at h0
  by_cases hn : newB a who m (rankAt a who m goal k) v = true
  · rw [if_pos hn] at h0; omega
  · rw [if_neg hn] at h0
    cases hp : pulledB a who m (rankAt a who m goal k) v
    · rfl
    · exact absurd (by unfold newB; simp [h0, hm, hp]) hn
theorem rank_stable {x : Int} (h : ∀ v, v < r.length → newB a who m r v = false) : rankUp a who m x r = r :=
  int_range_ext (by simp) fun v hv => by rw [ix_rankUp hv, h v hv]; rfl
theorem rankAt_stable (h : ∀ v, v < a.owner.length → newB a who m (rankAt a who m goal k) v = false) {j : Nat} (hj : k ≤ j) : rankAt a who m goal j = rankAt a who m goal k := by
  induction hj with
  | refl => rfl
  | step _ ih =>
    show rankUp _ _ _ _ (rankAt _ _ _ _ _) = _
    rw [ih]
    exact rank_stable (by simpa using h)

/-- The vertices of s that get a rank now. -/
def foundL (a : ArenaD) (who : Int) (m : List Bool) (r s : List Int) : List Int := s.filter fun v => decide (ix r v.toNat < 0) && pulledB a who m r v.toNat
theorem found_new (hs : IsSet s n) (hv : v < n) : (v : Int) ∈ foundL a who (marksL n s) r s ↔ newB a who (marksL n s) r v = true := by
  unfold foundL newB
  rw [List.mem_filter, bx_marksL hv]
  simp only [Int.toNat_natCast, Bool.and_eq_true, decide_eq_true_eq]
  constructor
  · rintro ⟨h1, h2, h3⟩; exact ⟨h2, h1, h3⟩
  · rintro ⟨h2, h1, h3⟩; exact ⟨h1, h2, h3⟩
theorem found_none (hs : IsSet s n) (h : foundL a who (marksL n s) r s = []) : ∀ v, v < n → newB a who (marksL n s) r v = false := fun v hv => by
  cases e : newB a who (marksL n s) r v
  · rfl
  · have := (found_new hs hv).2 e
    rw [h] at this
    cases this

/-- How many of the first k numbers are below 0. -/
def negTo (l : List Int) : Nat → Nat
  | 0 => 0
  | k + 1 => negTo l k + if ix l k < 0 then 1 else 0
theorem negTo_le (l : List Int) (k : Nat) : negTo l k ≤ k := by
  induction k with
  | zero => exact Nat.le_refl _
  | succ k ih => unfold negTo; split <;> omega
theorem negTo_mono {l l' : List Int} {k : Nat} (h : ∀ v, v < k → ix l' v < 0 → ix l v < 0) : negTo l' k ≤ negTo l k := by
  induction k with
  | zero => exact Nat.le_refl _
  | succ k ih =>
    have h1 := ih fun v hv => h v (by omega)
    have h2 := h k (by omega)
    unfold negTo
    split <;> split <;> first | omega | (rename_i a b; exact absurd (h2 a) b)
theorem negTo_lt {l l' : List Int} {k x : Nat} (h : ∀ v, v < k → ix l' v < 0 → ix l v < 0) (hx : x < k) (h1 : ix l x < 0) (h2 : 0 ≤ ix l' x) : negTo l' k < negTo l k := by
  induction k with
  | zero => omega
  | succ k ih =>
    have h3 := h k (by omega)
    by_cases e : x = k
    · subst e
      have h4 := negTo_mono (k := x) fun v hv => h v (by omega)
      unfold negTo
      rw [if_pos h1, if_neg (by omega)]
      omega
    · have h4 := ih (fun v hv => h v (by omega)) (by omega)
      unfold negTo
      split <;> split <;> first | omega | (rename_i a b; exact absurd (h3 a) b)
theorem rankAt_falls (h : v < a.owner.length) (hn : newB a who m (rankAt a who m goal k) v = true) : negTo (rankAt a who m goal (k + 1)) a.owner.length < negTo (rankAt a who m goal k) a.owner.length := by
  refine negTo_lt (x := v) (fun u hu h1 => ?_) h ?_ ?_
  · rcases Int.lt_or_le (ix (rankAt a who m goal k) u) 0 with h2 | h2
    · exact h2
    · rw [rankAt_stays hu h2] at h1; exact h1
  · unfold newB at hn
    simp only [Bool.and_eq_true, decide_eq_true_eq] at hn
    exact hn.1
  · rw [ix_rankAt_succ h, if_pos hn]; omega

theorem rev_ind {α : Type} {motive : List α → Prop} (nil : motive []) (append : ∀ l x, motive l → motive (l ++ [x])) (l : List α) : motive l := by
  obtain ⟨n, hn⟩ : ∃ n, l.length = n := ⟨_, rfl⟩
  induction n generalizing l with
  | zero => rw [List.eq_nil_of_length_eq_zero hn]; exact nil
  | succ n ih =>
    rcases List.eq_nil_or_concat l with h | ⟨L, b, h⟩
    · subst h; exact nil
    · rw [h, List.concat_eq_append]
      exact append _ _ (ih L (by rw [h] at hn; simpa using hn))
/-! The reference's rank of a vertex. -/
def lowS (m : List Bool) (r : List Int) (acc u : Int) : Int := if bx m u.toNat && decide (0 ≤ ix r u.toNat) then (if acc < 0 ∨ ix r u.toNat < acc then ix r u.toNat else acc) else acc
def topS (m : List Bool) (r : List Int) (acc u : Int) : Int := if bx m u.toNat && decide (0 ≤ ix r u.toNat) then max acc (ix r u.toNat) else acc
def lowOf (m : List Bool) (r l : List Int) : Int := l.foldl (lowS m r) (-1)
def topOf (m : List Bool) (r l : List Int) : Int := l.foldl (topS m r) (-1)
theorem lowOf_take {l : List Int} {t : Nat} (h : t < l.length) : lowOf m r (l.take (t + 1)) = lowS m r (lowOf m r (l.take t)) (ix l t) := by unfold lowOf; rw [take_ix h, List.foldl_append]; rfl
theorem topOf_take {l : List Int} {t : Nat} (h : t < l.length) : topOf m r (l.take (t + 1)) = topS m r (topOf m r (l.take t)) (ix l t) := by unfold topOf; rw [take_ix h, List.foldl_append]; rfl
def good (m : List Bool) (r : List Int) (u : Int) : Bool := bx m u.toNat && decide (0 ≤ ix r u.toNat)
theorem low_spec (m : List Bool) (r l : List Int) : (lowOf m r l = -1 ∧ ∀ u ∈ l, good m r u = false) ∨ ((∃ u ∈ l, good m r u = true ∧ lowOf m r l = ix r u.toNat) ∧ ∀ u ∈ l, good m r u = true → lowOf m r l ≤ ix r u.toNat) := by
  induction l using rev_ind with
  | nil => exact .inl ⟨rfl, fun u hu => by cases hu⟩
  | append l x ih =>
    have e : lowOf m r (l ++ [x]) = lowS m r (lowOf m r l) x := by unfold lowOf; rw [List.foldl_append]; rfl
    rw [e]
    unfold lowS
    rcases hg : good m r x with _ | _
    · have hg' : (bx m x.toNat && decide (0 ≤ ix r x.toNat)) = false := hg
      rw [hg']
      simp only [Bool.false_eq_true, if_false]
      rcases ih with ⟨h1, h2⟩ | ⟨⟨u, hu, h1, h2⟩, h3⟩
      · refine .inl ⟨h1, fun u hu => ?_⟩
        rcases List.mem_append.1 hu with hu | hu
        · exact h2 u hu
        · rw [List.mem_singleton.1 hu]; exact hg
      · refine .inr ⟨⟨u, List.mem_append_left _ hu, h1, h2⟩, fun y hy hgy => ?_⟩
        rcases List.mem_append.1 hy with hy | hy
        · exact h3 y hy hgy
        · rw [List.mem_singleton.1 hy, hg] at hgy; cases hgy
    · have hg' : (bx m x.toNat && decide (0 ≤ ix r x.toNat)) = true := hg
      have hx0 : 0 ≤ ix r x.toNat := by simp only [Bool.and_eq_true, decide_eq_true_eq] at hg'; exact hg'.2
      rw [hg']
      simp only [if_true]
      rcases ih with ⟨h1, h2⟩ | ⟨⟨u, hu, h1, h2⟩, h3⟩
      · rw [h1, if_pos (.inl (by omega))]
        refine .inr ⟨⟨x, by simp, hg, rfl⟩, fun y hy hgy => ?_⟩
        rcases List.mem_append.1 hy with hy | hy
        · rw [h2 y hy] at hgy; cases hgy
        · rw [List.mem_singleton.1 hy]; exact Int.le_refl _
      · have hu0 : 0 ≤ ix r u.toNat := by unfold good at h1; simp only [Bool.and_eq_true, decide_eq_true_eq] at h1; exact h1.2
        by_cases hc : lowOf m r l < 0 ∨ ix r x.toNat < lowOf m r l
        · rw [if_pos hc]
          refine .inr ⟨⟨x, by simp, hg, rfl⟩, fun y hy hgy => ?_⟩
          rcases List.mem_append.1 hy with hy | hy
          · have := h3 y hy hgy; omega
          · rw [List.mem_singleton.1 hy]; exact Int.le_refl _
        · rw [if_neg hc]
          refine .inr ⟨⟨u, List.mem_append_left _ hu, h1, h2⟩, fun y hy hgy => ?_⟩
          rcases List.mem_append.1 hy with hy | hy
          · exact h3 y hy hgy
          · rw [List.mem_singleton.1 hy]; omega
theorem top_spec (m : List Bool) (r l : List Int) : (topOf m r l = -1 ∧ ∀ u ∈ l, good m r u = false) ∨ ((∃ u ∈ l, good m r u = true ∧ topOf m r l = ix r u.toNat) ∧ ∀ u ∈ l, good m r u = true → ix r u.toNat ≤ topOf m r l) := by
  induction l using rev_ind with
  | nil => exact .inl ⟨rfl, fun u hu => by cases hu⟩
  | append l x ih =>
    have e : topOf m r (l ++ [x]) = topS m r (topOf m r l) x := by unfold topOf; rw [List.foldl_append]; rfl
    rw [e]
    unfold topS
    rcases hg : good m r x with _ | _
    · have hg' : (bx m x.toNat && decide (0 ≤ ix r x.toNat)) = false := hg
      rw [hg']
      simp only [Bool.false_eq_true, if_false]
      rcases ih with ⟨h1, h2⟩ | ⟨⟨u, hu, h1, h2⟩, h3⟩
      · refine .inl ⟨h1, fun u hu => ?_⟩
        rcases List.mem_append.1 hu with hu | hu
        · exact h2 u hu
        · rw [List.mem_singleton.1 hu]; exact hg
      · refine .inr ⟨⟨u, List.mem_append_left _ hu, h1, h2⟩, fun y hy hgy => ?_⟩
        rcases List.mem_append.1 hy with hy | hy
        · exact h3 y hy hgy
        · rw [List.mem_singleton.1 hy, hg] at hgy; cases hgy
    · have hg' : (bx m x.toNat && decide (0 ≤ ix r x.toNat)) = true := hg
      have hx0 : 0 ≤ ix r x.toNat := by simp only [Bool.and_eq_true, decide_eq_true_eq] at hg'; exact hg'.2
      rw [hg']
      simp only [if_true]
      rcases ih with ⟨h1, h2⟩ | ⟨⟨u, hu, h1, h2⟩, h3⟩
      · rw [h1]
        refine .inr ⟨⟨x, by simp, hg, by omega⟩, fun y hy hgy => ?_⟩
        rcases List.mem_append.1 hy with hy | hy
        · rw [h2 y hy] at hgy; cases hgy
        · rw [List.mem_singleton.1 hy]; omega
      · by_cases hc : topOf m r l ≤ ix r x.toNat
        · refine .inr ⟨⟨x, by simp, hg, by omega⟩, fun y hy hgy => ?_⟩
          rcases List.mem_append.1 hy with hy | hy
          · have := h3 y hy hgy; omega
          · rw [List.mem_singleton.1 hy]; omega
        · refine .inr ⟨⟨u, List.mem_append_left _ hu, h1, by omega⟩, fun y hy hgy => ?_⟩
          rcases List.mem_append.1 hy with hy | hy
          · have := h3 y hy hgy; omega
          · rw [List.mem_singleton.1 hy]; omega

/-- A successor inside that has no rank: what lets the other player's vertex wait. -/
def waitB (m : List Bool) (r : List Int) (u : Int) : Bool := bx m u.toNat && decide (ix r u.toNat < 0)
def rankV (a : ArenaD) (who : Int) (m : List Bool) (r : List Int) (v : Nat) : Int :=
  if ix a.owner v ≠ who ∧ (rx a.next v).any (waitB m r) = true then -1
  else if lowOf m r (rx a.next v) < 0 then -1
  else if ix a.owner v = who then lowOf m r (rx a.next v) + 1 else topOf m r (rx a.next v) + 1
theorem rankV_pulled (hv : ∀ u ∈ rx a.next v, u.toNat < a.owner.length) (hvn : v < a.owner.length) (hm : bx m v = true) (h0 : ix (rankAt a who m goal k) v < 0) :
    decide (rankV a who m (rankAt a who m goal k) v = (k : Int) + 1) = pulledB a who m (rankAt a who m goal k) v := by
  have hb := fun u (hu : u ∈ rx a.next v) => rankAt_bounds (who := who) (m := m) (goal := goal) (k := k) (hv u hu)
  have hgood : ∀ u, good m (rankAt a who m goal k) u = true ↔ bx m u.toNat = true ∧ 0 ≤ ix (rankAt a who m goal k) u.toNat := fun u => by unfold good; simp
  by_cases ho : ix a.owner v = who
  · -- the player's own vertex
    have hp : pulledB a who m (rankAt a who m goal k) v = (rx a.next v).any fun u => good m (rankAt a who m goal k) u := by unfold pulledB; rw [if_pos ho]; rfl
    have hr : rankV a who m (rankAt a who m goal k) v = if lowOf m (rankAt a who m goal k) (rx a.next v) < 0 then -1 else lowOf m (rankAt a who m goal k) (rx a.next v) + 1 := by
      unfold rankV; rw [if_neg (fun h => h.1 ho), if_pos ho]
    rw [hp, hr]
    rcases low_spec m (rankAt a who m goal k) (rx a.next v) with ⟨h1, h2⟩ | ⟨⟨u, hu, h1, h2⟩, h3⟩
    · have : ((rx a.next v).any fun u => good m (rankAt a who m goal k) u) = false := by
        rw [List.any_eq_false]; intro u hu; rw [h2 u hu]; simp
      rw [this, h1, if_pos (by omega)]
      simp; omega
    · have : ((rx a.next v).any fun u => good m (rankAt a who m goal k) u) = true := List.any_eq_true.2 ⟨u, hu, h1⟩
      have hu0 := ((hgood u).1 h1).2
      rw [this, if_neg (by omega)]
      simp only [decide_eq_true_eq]
      rcases k with _ | k
      · have := (hb u hu).2.1; rw [h2]; simp at *; omega
      · have hle := (hb u hu).2.1
        by_cases hlt : ix (rankAt a who m goal (k + 1)) u.toNat < (k : Int) + 1
        · have h4 := rankAt_before (hv u hu) hu0 hlt
          have h5 := rankAt_unpulled hvn hm h0
          unfold pulledB at h5
          rw [if_pos ho, List.any_eq_false] at h5
          exact absurd (by simp [((hgood u).1 h1).1]; omega) (h5 u hu)
        · rw [h2]; push_cast at *; omega
  · have hp : pulledB a who m (rankAt a who m goal k) v = (((rx a.next v).any fun u => bx m u.toNat) && ((rx a.next v).all fun u => !bx m u.toNat || decide (0 ≤ ix (rankAt a who m goal k) u.toNat))) := by unfold pulledB; rw [if_neg ho]
    by_cases hw : (rx a.next v).any (waitB m (rankAt a who m goal k)) = true
    · have hr : rankV a who m (rankAt a who m goal k) v = -1 := by unfold rankV; rw [if_pos ⟨ho, hw⟩]
      obtain ⟨u, hu, h1⟩ := List.any_eq_true.1 hw
      unfold waitB at h1
      simp only [Bool.and_eq_true, decide_eq_true_eq] at h1
      have : ((rx a.next v).all fun u => !bx m u.toNat || decide (0 ≤ ix (rankAt a who m goal k) u.toNat)) = false := by
        rw [List.all_eq_false]; exact ⟨u, hu, by simp [h1.1]; omega⟩
      rw [hp, this, hr]
      simp; omega
    · have hr : rankV a who m (rankAt a who m goal k) v = if lowOf m (rankAt a who m goal k) (rx a.next v) < 0 then -1 else topOf m (rankAt a who m goal k) (rx a.next v) + 1 := by
        unfold rankV; rw [if_neg (fun h => hw h.2), if_neg ho]
      have hnw : ∀ u ∈ rx a.next v, bx m u.toNat = true → 0 ≤ ix (rankAt a who m goal k) u.toNat := fun u hu hmu => by
        rcases Int.lt_or_le (ix (rankAt a who m goal k) u.toNat) 0 with h | h
        · exact absurd (List.any_eq_true.2 ⟨u, hu, by unfold waitB; simp [hmu, h]⟩) hw
        · exact h
      have hall : ((rx a.next v).all fun u => !bx m u.toNat || decide (0 ≤ ix (rankAt a who m goal k) u.toNat)) = true := by
        rw [List.all_eq_true]; intro u hu
        cases hmu : bx m u.toNat
        · rfl
        · simpa using hnw u hu hmu
      rw [hp, hall, hr, Bool.and_true]
      rcases low_spec m (rankAt a who m goal k) (rx a.next v) with ⟨h1, h2⟩ | ⟨⟨u, hu, h1, h2⟩, h3⟩
      · have : ((rx a.next v).any fun u => bx m u.toNat) = false := by
          rw [List.any_eq_false]; intro u hu hmu
          have := h2 u hu
          rw [Bool.eq_false_iff] at this
          exact this ((hgood u).2 ⟨hmu, hnw u hu hmu⟩)
        rw [this, h1, if_pos (by omega)]
        simp; omega
      · have hu0 := (hgood u).1 h1
        have : ((rx a.next v).any fun u => bx m u.toNat) = true := List.any_eq_true.2 ⟨u, hu, hu0.1⟩
        rw [this, if_neg (by omega)]
        simp only [decide_eq_true_eq]
        rcases top_spec m (rankAt a who m goal k) (rx a.next v) with ⟨_, h5⟩ | ⟨⟨y, hy, h4, h5⟩, h6⟩
        · rw [h5 u hu] at h1; cases h1
        · have hle := (hb y hy).2.1
          have hy0 := (hgood y).1 h4
          rcases k with _ | k
          · rw [h5]; simp at *; omega
          · by_cases hlt : ix (rankAt a who m goal (k + 1)) y.toNat < (k : Int) + 1
            · have h7 := rankAt_unpulled hvn hm h0
              unfold pulledB at h7
              rw [if_neg ho] at h7
              have h8 : ((rx a.next v).all fun u => !bx m u.toNat || decide (0 ≤ ix (rankAt a who m goal k) u.toNat)) = true := by
                rw [List.all_eq_true]; intro x hx
                cases hmx : bx m x.toNat
                · rfl
                · have h9 := hnw x hx hmx
                  have h10 := h6 x hx ((hgood x).2 ⟨hmx, h9⟩)
                  have h11 := rankAt_before (hv x hx) h9 (by omega)
                  simp; omega
              rw [this, h8] at h7
              cases h7
            · rw [h5]; push_cast at *; omega

/-- The smallest successor with the next lower rank. -/
def pullV (a : ArenaD) (who : Int) (r : List Int) (v : Nat) : Int := if ix a.owner v = who ∧ 0 < ix r v then ((rx a.next v).find? fun u => decide (ix r u.toNat = ix r v - 1)).getD (-1) else -1
def pullL (a : ArenaD) (who : Int) (s goal : List Int) : List Int := (List.range a.owner.length).map fun v => pullV a who (ranksL a who s goal) v
@[simp] theorem length_pullL : (pullL a who s goal).length = a.owner.length := by simp [pullL]
theorem ix_pullL (h : v < a.owner.length) : ix (pullL a who s goal) v = pullV a who (ranksL a who s goal) v := by simp [ix, pullL, h]
def attrTo (r : List Int) (k : Nat) : List Int := (upFrom 0 k).filter fun v => decide (0 ≤ ix r v.toNat)
theorem attrTo_succ (r : List Int) (k : Nat) : attrTo r (k + 1) = attrTo r k ++ if decide (0 ≤ ix r k) = true then [(k : Int)] else [] := by
  unfold attrTo
  rw [upFrom_snoc, List.filter_append]
  congr 1
  by_cases h : 0 ≤ ix r k <;> simp [h]
theorem attrTo_len (r : List Int) (k : Nat) : (attrTo r k).length ≤ k := by
  have := List.length_filter_le (fun v => decide (0 ≤ ix r v.toNat)) (upFrom 0 k)
  rw [length_upFrom] at this
  exact this
def attrL (a : ArenaD) (who : Int) (s goal : List Int) : List Int := attrTo (ranksL a who s goal) a.owner.length
def canRankB (a : ArenaD) (who : Int) (s goal : List Int) : Bool := canB a who s goal
def ranksG (a : ArenaD) (who : Int) (s goal : List Int) : List Int := if canB a who s goal then ranksL a who s goal else []
def attrG (a : ArenaD) (who : Int) (s goal : List Int) : List Int := if canB a who s goal then attrL a who s goal else []
def pullG (a : ArenaD) (who : Int) (s goal : List Int) : List Int := if canB a who s goal then pullL a who s goal else []
end Go.Proofs.Ytpnophmanpfejaa

/- Parity games: who wins where, by strategies that look at the place alone. No program in sight, no condition. -/
namespace Go.Proofs.Ytpnophmanpfejaa
set_option linter.unusedSimpArgs false
set_option linter.unusedVariables false

/-- A game: who owns a vertex, its number, its successors. -/
structure Duel where
  own : Nat → Int
  pr : Nat → Int
  next : Nat → List Nat

/-- A walk of at least one step by R from v to u; m is the greatest number of the vertices that it leaves. -/
inductive WalkM (pr : Nat → Int) (R : Nat → Nat → Prop) : Nat → Nat → Int → Prop
  | one {v u : Nat} : R v u → WalkM pr R v u (pr v)
  | cons {v x u : Nat} {m : Int} : R v x → WalkM pr R x u m → WalkM pr R v u (max (pr v) m)

theorem WalkM.mono {pr : Nat → Int} {R Q : Nat → Nat → Prop} {v u : Nat} {m : Int} (h : WalkM pr R v u m) (hRQ : ∀ a b, R a b → Q a b) : WalkM pr Q v u m := by
  induction h with
  | one h => exact .one (hRQ _ _ h)
  | cons h _ ih => exact .cons (hRQ _ _ h) ih
theorem WalkM.trans {pr : Nat → Int} {R : Nat → Nat → Prop} {v x u : Nat} {m k : Int} (h : WalkM pr R v x m) (g : WalkM pr R x u k) : WalkM pr R v u (max m k) := by
  induction h with
  | one h => exact .cons h g
  | cons h _ ih =>
    have := WalkM.cons h (ih g)
    rwa [show max _ (max _ k) = max (max _ _) k from by rw [Int.max_assoc]] at this
/-- A walk that starts in a closed set stays there. -/
theorem WalkM.stay {pr : Nat → Int} {R : Nat → Nat → Prop} {S : Nat → Prop} {v u : Nat} {m : Int} (h : WalkM pr R v u m) (hS : ∀ a b, S a → R a b → S b) (hv : S v) : S u ∧ WalkM pr (fun a b => R a b ∧ S a ∧ S b) v u m := by
  induction h with
  | one h => exact ⟨hS _ _ hv h, .one ⟨h, hv, hS _ _ hv h⟩⟩
  | cons h _ ih => exact ⟨(ih (hS _ _ hv h)).1, .cons ⟨h, hv, hS _ _ hv h⟩ (ih (hS _ _ hv h)).2⟩
/-- A walk has a first step. -/
theorem WalkM.first {pr : Nat → Int} {R : Nat → Nat → Prop} {v u : Nat} {m : Int} (h : WalkM pr R v u m) : (R v u ∧ m = pr v) ∨ ∃ x k, R v x ∧ WalkM pr R x u k ∧ m = max (pr v) k := by
  cases h with
  | one h => exact .inl ⟨h, rfl⟩
  | cons h g => exact .inr ⟨_, _, h, g, rfl⟩
/-- A round trip can be begun at its second vertex. -/
theorem WalkM.turn {pr : Nat → Int} {R : Nat → Nat → Prop} {v : Nat} {m : Int} (h : WalkM pr R v v m) : ∃ x, R v x ∧ WalkM pr R x x m := by
  rcases h.first with ⟨h1, rfl⟩ | ⟨x, k, h1, h2, rfl⟩
  · exact ⟨v, h1, .one h1⟩
  · refine ⟨x, h1, ?_⟩
    have := h2.trans (.one h1)
    rwa [Int.max_comm] at this

/-- The moves within S of one who plays by σ for i, in part P. -/
def Moves (g : Duel) (i : Int) (P S : Nat → Prop) (σ : Nat → Nat) (v u : Nat) : Prop := S v ∧ S u ∧ u ∈ g.next v ∧ P u ∧ (g.own v = i → u = σ v)
/-- In part P of g, i wins from all of S by σ. -/
structure WinsWith (g : Duel) (i : Int) (P S : Nat → Prop) (σ : Nat → Nat) : Prop where
  sub : ∀ v, S v → P v
  mine : ∀ v, S v → g.own v = i → σ v ∈ g.next v ∧ S (σ v)
  theirs : ∀ v u, S v → g.own v ≠ i → u ∈ g.next v → P u → S u
  good : ∀ v m, WalkM g.pr (Moves g i P S σ) v v m → m % 2 = i
def Dom (g : Duel) (i : Int) (P S : Nat → Prop) : Prop := ∃ σ, WinsWith g i P S σ

/-- k steps at most bring i into the goal. -/
def AttN (g : Duel) (i : Int) (P G : Nat → Prop) : Nat → Nat → Prop
  | 0, v => P v ∧ G v
  | k + 1, v => AttN g i P G k v ∨ (P v ∧ ((g.own v = i ∧ ∃ u, u ∈ g.next v ∧ P u ∧ AttN g i P G k u) ∨ (g.own v ≠ i ∧ (∃ u, u ∈ g.next v ∧ P u) ∧ ∀ u, u ∈ g.next v → P u → AttN g i P G k u)))
def Att (g : Duel) (i : Int) (P G : Nat → Prop) (v : Nat) : Prop := ∃ k, AttN g i P G k v

theorem AttN.up {g : Duel} {i : Int} {P G : Nat → Prop} {k l v : Nat} (h : AttN g i P G k v) (hkl : k ≤ l) : AttN g i P G l v := by
  induction hkl with
  | refl => exact h
  | step _ ih => exact .inl ih
theorem AttN.sub {g : Duel} {i : Int} {P G : Nat → Prop} {k v : Nat} (h : AttN g i P G k v) : P v := by
  induction k generalizing v with
  | zero => exact h.1
  | succ k ih =>
    rcases h with h | h
    · exact ih h
    · exact h.1
theorem Att.sub {g : Duel} {i : Int} {P G : Nat → Prop} {v : Nat} (h : Att g i P G v) : P v := h.elim fun _ h => h.sub
theorem Att.goal {g : Duel} {i : Int} {P G : Nat → Prop} {v : Nat} (hP : P v) (h : G v) : Att g i P G v := ⟨0, hP, h⟩
theorem Att.mine {g : Duel} {i : Int} {P G : Nat → Prop} {v u : Nat} (hP : P v) (ho : g.own v = i) (hu : u ∈ g.next v) (h : Att g i P G u) : Att g i P G v := by
  obtain ⟨k, h⟩ := h
  exact ⟨k + 1, .inr ⟨hP, .inl ⟨ho, u, hu, h.sub, h⟩⟩⟩
theorem att_all {g : Duel} {i : Int} {P G : Nat → Prop} (l : List Nat) (h : ∀ u ∈ l, P u → Att g i P G u) : ∃ k, ∀ u ∈ l, P u → AttN g i P G k u := by
  induction l with
  | nil => exact ⟨0, fun u hu => by cases hu⟩
  | cons x l ih =>
    obtain ⟨k, hk⟩ := ih fun u hu => h u (List.mem_cons_of_mem _ hu)
    by_cases hx : P x
    · obtain ⟨k', hk'⟩ := h x (List.mem_cons_self ..) hx
      refine ⟨max k k', fun u hu hP => ?_⟩
      rcases List.mem_cons.1 hu with rfl | hu
      · exact hk'.up (Nat.le_max_right _ _)
      · exact (hk u hu hP).up (Nat.le_max_left _ _)
    · refine ⟨k, fun u hu hP => ?_⟩
      rcases List.mem_cons.1 hu with rfl | hu
      · exact absurd hP hx
      · exact hk u hu hP
theorem Att.theirs {g : Duel} {i : Int} {P G : Nat → Prop} {v : Nat} (hP : P v) (ho : g.own v ≠ i) (he : ∃ u, u ∈ g.next v ∧ P u) (h : ∀ u, u ∈ g.next v → P u → Att g i P G u) : Att g i P G v := by
  obtain ⟨k, hk⟩ := att_all (g.next v) h
  exact ⟨k + 1, .inr ⟨hP, .inr ⟨ho, he, hk⟩⟩⟩
/-- What is closed holds the attractor. -/
theorem Att.least {g : Duel} {i : Int} {P G A : Nat → Prop} (h0 : ∀ v, P v → G v → A v) (h1 : ∀ v u, P v → g.own v = i → u ∈ g.next v → P u → A u → A v)
    (h2 : ∀ v, P v → g.own v ≠ i → (∃ u, u ∈ g.next v ∧ P u) → (∀ u, u ∈ g.next v → P u → A u) → A v) {v : Nat} (h : Att g i P G v) : A v := by
  obtain ⟨k, h⟩ := h
  induction k generalizing v with
  | zero => exact h0 v h.1 h.2
  | succ k ih =>
    rcases h with h | ⟨hP, ⟨ho, u, hu, hPu, h⟩ | ⟨ho, he, h⟩⟩
    · exact ih h
    · exact h1 v u hP ho hu hPu (ih h)
    · exact h2 v hP ho he fun u hu hPu => ih (h u hu hPu)
/-- Outside of the attractor: i's moves stay outside .. -/
theorem Att.out_mine {g : Duel} {i : Int} {P G : Nat → Prop} {v u : Nat} (hv : P v ∧ ¬ Att g i P G v) (ho : g.own v = i) (hu : u ∈ g.next v) : ¬ Att g i P G u := fun h => hv.2 (.mine hv.1 ho hu h)
/-- .. and the other one has such a move. -/
theorem Att.out_theirs {g : Duel} {i : Int} {P G : Nat → Prop} {v : Nat} (hv : P v ∧ ¬ Att g i P G v) (ho : g.own v ≠ i) (he : ∃ u, u ∈ g.next v ∧ P u) : ∃ u, u ∈ g.next v ∧ P u ∧ ¬ Att g i P G u :=
  Classical.byContradiction fun h => hv.2 (.theirs hv.1 ho he fun u hu hP => Classical.byContradiction fun h' => h ⟨u, hu, hP, h'⟩)

theorem least_of {p : Nat → Prop} (h : ∃ k, p k) : ∃ k, p k ∧ ∀ j, j < k → ¬ p j := by
  obtain ⟨k, hk⟩ := h
  induction k using Nat.strongRecOn with
  | _ k ih =>
    by_cases hj : ∃ j, j < k ∧ p j
    · obtain ⟨j, hlt, hp⟩ := hj
      exact ih j hlt hp
    · exact ⟨k, hk, fun j hlt hp => hj ⟨j, hlt, hp⟩⟩
/-- A number for each vertex of the attractor, and a move that lowers it. -/
theorem Att.ranked {g : Duel} {i : Int} {P G : Nat → Prop} : ∃ (rk : Nat → Nat) (σ : Nat → Nat), ∀ v, Att g i P G v → ¬ G v →
    (g.own v = i → σ v ∈ g.next v ∧ Att g i P G (σ v) ∧ rk (σ v) < rk v) ∧ (g.own v ≠ i → ∀ u, u ∈ g.next v → P u → Att g i P G u ∧ rk u < rk v) := by
  have h0 : ∀ v, ∃ k, Att g i P G v → AttN g i P G k v ∧ ∀ j, j < k → ¬ AttN g i P G j v := fun v => by
    by_cases h : Att g i P G v
    · obtain ⟨k, h1, h2⟩ := least_of h
      exact ⟨k, fun _ => ⟨h1, h2⟩⟩
    · exact ⟨0, fun h' => absurd h' h⟩
  let rk := fun v => Classical.choose (h0 v)
  have hrk : ∀ v, Att g i P G v → AttN g i P G (rk v) v ∧ ∀ j, j < rk v → ¬ AttN g i P G j v := fun v => Classical.choose_spec (h0 v)
  have hle : ∀ v k, AttN g i P G k v → rk v ≤ k := fun v k h => Nat.le_of_not_lt fun hlt => (hrk v ⟨k, h⟩).2 k hlt h
  have key : ∀ v, Att g i P G v → ¬ G v → (g.own v = i → ∃ u, u ∈ g.next v ∧ Att g i P G u ∧ rk u < rk v) ∧ (g.own v ≠ i → ∀ u, u ∈ g.next v → P u → Att g i P G u ∧ rk u < rk v) := by
    intro v hv hG
    obtain ⟨h1, h2⟩ := hrk v hv
    rcases hk : rk v with _ | k
    · rw [hk] at h1
      exact absurd h1.2 hG
    · rw [hk] at h1 h2
      rcases h1 with h1 | ⟨hP, ⟨ho, u, hu, hPu, h⟩ | ⟨ho, he, h⟩⟩
      · exact absurd h1 (h2 k (Nat.lt_succ_self _))
      · exact ⟨fun _ => ⟨u, hu, ⟨k, h⟩, Nat.lt_succ_of_le (hle u k h)⟩, fun h' => absurd ho h'⟩
      · exact ⟨fun h' => absurd h' ho, fun _ u hu hPu => ⟨⟨k, h u hu hPu⟩, Nat.lt_succ_of_le (hle u k (h u hu hPu))⟩⟩
  have h3 : ∀ v, ∃ u, Att g i P G v → ¬ G v → g.own v = i → u ∈ g.next v ∧ Att g i P G u ∧ rk u < rk v := fun v => by
    by_cases h : Att g i P G v ∧ ¬ G v ∧ g.own v = i
    · obtain ⟨u, hu⟩ := (key v h.1 h.2.1).1 h.2.2
      exact ⟨u, fun _ _ _ => hu⟩
    · exact ⟨0, fun a b c => absurd ⟨a, b, c⟩ h⟩
  exact ⟨rk, fun v => Classical.choose (h3 v), fun v hv hG => ⟨fun ho => Classical.choose_spec (h3 v) hv hG ho, (key v hv hG).2⟩⟩

/-- A walk that touches A can be parted there. -/
theorem WalkM.part {pr : Nat → Int} {R : Nat → Nat → Prop} (A : Nat → Prop) {v u : Nat} {m : Int} (h : WalkM pr R v u m) :
    (∃ x m1 m2, A x ∧ WalkM pr R v x m1 ∧ WalkM pr R x u m2 ∧ m = max m1 m2) ∨ A v ∨ A u ∨ WalkM pr (fun a b => R a b ∧ ¬ A a ∧ ¬ A b) v u m := by
  induction h with
  | one h =>
    rename_i v u
    by_cases hv : A v
    · exact .inr (.inl hv)
    · by_cases hu : A u
      · exact .inr (.inr (.inl hu))
      · exact .inr (.inr (.inr (.one ⟨h, hv, hu⟩)))
  | cons h g ih =>
    rename_i v x u m
    by_cases hv : A v
    · exact .inr (.inl hv)
    · by_cases hx : A x
      · exact .inl ⟨x, _, _, hx, .one h, g, rfl⟩
      · rcases ih with ⟨y, m1, m2, hy, g1, g2, rfl⟩ | h1 | h1 | h1
        · exact .inl ⟨y, _, _, hy, .cons h g1, g2, by rw [Int.max_assoc]⟩
        · exact absurd h1 hx
        · exact .inr (.inr (.inl h1))
        · exact .inr (.inr (.inr (.cons ⟨h, hv, hx⟩ h1)))
theorem WalkM.cycle {pr : Nat → Int} {R : Nat → Nat → Prop} (A : Nat → Prop) {v : Nat} {m : Int} (h : WalkM pr R v v m) :
    (∃ x, A x ∧ WalkM pr R x x m) ∨ WalkM pr (fun a b => R a b ∧ ¬ A a ∧ ¬ A b) v v m := by
  rcases h.part A with ⟨x, m1, m2, hx, h1, h2, rfl⟩ | h1 | h1 | h1
  · refine .inl ⟨x, hx, ?_⟩
    have := h2.trans h1
    rwa [Int.max_comm] at this
  · exact .inl ⟨v, h1, h⟩
  · exact .inl ⟨v, h1, h⟩
  · exact .inr h1
/-- Along a walk whose every step lowers a number it falls. -/
theorem WalkM.falls {pr : Nat → Int} {R : Nat → Nat → Prop} {rk : Nat → Nat} {v u : Nat} {m : Int} (h : WalkM pr R v u m) (hR : ∀ a b, R a b → rk b < rk a) : rk u < rk v := by
  induction h with
  | one h => exact hR _ _ h
  | cons h _ ih => exact Nat.lt_trans ih (hR _ _ h)
theorem WalkM.le {pr : Nat → Int} {R : Nat → Nat → Prop} {t : Int} {v u : Nat} {m : Int} (h : WalkM pr R v u m) (hR : ∀ a b, R a b → pr a ≤ t) : m ≤ t := by
  induction h with
  | one h => exact hR _ _ h
  | cons h _ ih => exact Int.max_le.2 ⟨hR _ _ h, ih⟩

/-- What i wins in P, and what i wins in the rest of P. -/
theorem Dom.layer {g : Duel} {i : Int} {P D W : Nat → Prop} (hD : Dom g i P D) (hW : Dom g i (fun v => P v ∧ ¬ D v) W) : Dom g i P (fun v => D v ∨ W v) := by
  classical
  obtain ⟨σ, hD⟩ := hD
  obtain ⟨τ, hW⟩ := hW
  have hWD : ∀ v, W v → ¬ D v := fun v hv => (hW.sub v hv).2
  refine ⟨fun v => if D v then σ v else τ v, ⟨fun v hv => hv.elim (hD.sub v) fun h => (hW.sub v h).1, fun v hv ho => ?_, fun v u hv ho hu hP => ?_, fun v m hc => ?_⟩⟩
  · rcases hv with h | h
    · simp only [if_pos h]
      exact ⟨(hD.mine v h ho).1, .inl (hD.mine v h ho).2⟩
    · simp only [if_neg (hWD v h)]
      exact ⟨(hW.mine v h ho).1, .inr (hW.mine v h ho).2⟩
  · rcases hv with h | h
    · exact .inl (hD.theirs v u h ho hu hP)
    · by_cases hu' : D u
      · exact .inl hu'
      · exact .inr (hW.theirs v u h ho hu ⟨hP, hu'⟩)
  · rcases hc.cycle D with ⟨x, hx, hc⟩ | hc
    · refine hD.good x m ((hc.stay (S := D) (fun a b ha hab => ?_) hx).2.mono fun a b hab => ?_)
      · by_cases ho : g.own a = i
        · have := hab.2.2.2.2 ho
          dsimp only at this
          rw [if_pos ha] at this
          rw [this]; exact (hD.mine a ha ho).2
        · exact hD.theirs a b ha ho hab.2.2.1 hab.2.2.2.1
      · refine ⟨hab.2.1, hab.2.2, hab.1.2.2.1, hab.1.2.2.2.1, fun ho => ?_⟩
        have := hab.1.2.2.2.2 ho
        dsimp only at this
        rwa [if_pos hab.2.1] at this
    · refine hW.good v m (hc.mono fun a b hab => ?_)
      obtain ⟨⟨h1, h2, h3, h4, h5⟩, ha, hb⟩ := hab
      refine ⟨h1.resolve_left ha, h2.resolve_left hb, h3, ⟨h4, hb⟩, fun ho => ?_⟩
      have := h5 ho
      dsimp only at this
      rwa [if_neg ha] at this

/-- What is attracted to what i wins. -/
theorem Dom.attract {g : Duel} {i : Int} {P D : Nat → Prop} (hD : Dom g i P D) : Dom g i P (Att g i P D) := by
  classical
  obtain ⟨σ, hD⟩ := hD
  obtain ⟨rk, τ, hr⟩ := Att.ranked (g := g) (i := i) (P := P) (G := D)
  refine ⟨fun v => if D v then σ v else τ v, ⟨fun v hv => hv.sub, fun v hv ho => ?_, fun v u hv ho hu hP => ?_, fun v m hc => ?_⟩⟩
  · by_cases h : D v
    · simp only [if_pos h]
      have := hD.mine v h ho
      exact ⟨this.1, .goal (hD.sub _ this.2) this.2⟩
    · simp only [if_neg h]
      have := (hr v hv h).1 ho
      exact ⟨this.1, this.2.1⟩
  · by_cases h : D v
    · exact .goal hP (hD.theirs v u h ho hu hP)
    · exact ((hr v hv h).2 ho u hu hP).1
  · rcases hc.cycle D with ⟨x, hx, hc⟩ | hc
    · refine hD.good x m ((hc.stay (S := D) (fun a b ha hab => ?_) hx).2.mono fun a b hab => ?_)
      · by_cases ho : g.own a = i
        · have := hab.2.2.2.2 ho
          dsimp only at this
          rw [if_pos ha] at this
          rw [this]; exact (hD.mine a ha ho).2
        · exact hD.theirs a b ha ho hab.2.2.1 hab.2.2.2.1
      · refine ⟨hab.2.1, hab.2.2, hab.1.2.2.1, hab.1.2.2.2.1, fun ho => ?_⟩
        have := hab.1.2.2.2.2 ho
        dsimp only at this
        rwa [if_pos hab.2.1] at this
    · have := hc.falls (rk := rk) fun a b ⟨⟨h1, h2, h3, h4, h5⟩, ha, hb⟩ => by
        by_cases ho : g.own a = i
        · have h6 := h5 ho
          dsimp only at h6
          rw [if_neg ha] at h6
          rw [h6]; exact ((hr a h1 ha).1 ho).2.2
        · exact ((hr a h1 ha).2 ho b h3 h4).2
      omega

/-- i wins where it is attracted to its own greatest number, and where it wins all the rest. -/
theorem Dom.top {g : Duel} {i t : Int} {P : Nat → Prop} (hP : ∀ v, P v → ∃ u, u ∈ g.next v ∧ P u) (ht : ∀ v, P v → g.pr v ≤ t) (hi : t % 2 = i)
    (hR : Dom g i (fun v => P v ∧ ¬ Att g i P (fun v => g.pr v = t) v) (fun v => P v ∧ ¬ Att g i P (fun v => g.pr v = t) v)) : Dom g i P P := by
  classical
  obtain ⟨σ, hR⟩ := hR
  obtain ⟨rk, τ, hr⟩ := Att.ranked (g := g) (i := i) (P := P) (G := fun v => g.pr v = t)
  have h3 : ∀ v, ∃ u, P v → u ∈ g.next v ∧ P u := fun v => by
    by_cases h : P v
    · obtain ⟨u, hu⟩ := hP v h
      exact ⟨u, fun _ => hu⟩
    · exact ⟨0, fun a => absurd a h⟩
  let ρ := fun v => Classical.choose (h3 v)
  have hρ : ∀ v, P v → ρ v ∈ g.next v ∧ P (ρ v) := fun v => Classical.choose_spec (h3 v)
  refine ⟨fun v => if Att g i P (fun v => g.pr v = t) v then (if g.pr v = t then ρ v else τ v) else σ v, ⟨fun v hv => hv, fun v hv ho => ?_, fun v u _ _ _ h => h, fun v m hc => ?_⟩⟩
  · by_cases hA : Att g i P (fun v => g.pr v = t) v
    · simp only [if_pos hA]
      by_cases hG : g.pr v = t
      · simp only [if_pos hG]; exact hρ v hv
      · simp only [if_neg hG]
        have := (hr v hA hG).1 ho
        exact ⟨this.1, this.2.1.sub⟩
    · simp only [if_neg hA]
      have := hR.mine v ⟨hv, hA⟩ ho
      exact ⟨this.1, this.2.1⟩
  · rcases hc.cycle (Att g i P (fun v => g.pr v = t)) with ⟨x, hx, hc⟩ | hc
    · have key : ∀ {a b : Nat} {k : Int}, WalkM g.pr (Moves g i P P (fun v => if Att g i P (fun v => g.pr v = t) v then (if g.pr v = t then ρ v else τ v) else σ v)) a b k → Att g i P (fun v => g.pr v = t) a → k = t ∨ (Att g i P (fun v => g.pr v = t) b ∧ rk b < rk a) := by
        intro a b k h
        have step : ∀ {a b : Nat}, Moves g i P P (fun v => if Att g i P (fun v => g.pr v = t) v then (if g.pr v = t then ρ v else τ v) else σ v) a b → Att g i P (fun v => g.pr v = t) a → ¬ g.pr a = t → Att g i P (fun v => g.pr v = t) b ∧ rk b < rk a := by
          intro a b ⟨h1, h2, h3, h4, h5⟩ hA hG
          by_cases ho : g.own a = i
          · have h6 := h5 ho
            dsimp only at h6
            rw [if_pos hA, if_neg hG] at h6
            rw [h6]; exact ((hr a hA hG).1 ho).2
          · exact (hr a hA hG).2 ho b h3 h4
        induction h with
        | one h =>
          rename_i a b
          intro hA
          by_cases hG : g.pr a = t
          · exact .inl hG
          · exact .inr (step h hA hG)
        | cons h w ih =>
          rename_i a x b k
          intro hA
          have hk : k ≤ t := w.le fun a b h => ht a h.1
          have ha := ht a h.1
          by_cases hG : g.pr a = t
          · left; omega
          · obtain ⟨h1, h2⟩ := step h hA hG
            rcases ih h1 with e | ⟨h3, h4⟩
            · left; omega
            · exact .inr ⟨h3, Nat.lt_trans h4 h2⟩
      rcases key hc hx with e | ⟨_, h⟩
      · rw [e]; exact hi
      · omega
    · refine hR.good v m (hc.mono fun a b hab => ?_)
      obtain ⟨⟨h1, h2, h3, h4, h5⟩, ha, hb⟩ := hab
      refine ⟨⟨h1, ha⟩, ⟨h2, hb⟩, h3, ⟨h4, hb⟩, fun ho => ?_⟩
      have := h5 ho
      dsimp only at this
      rwa [if_neg ha] at this

/-- What i wins in a part that the other one cannot leave. -/
theorem Dom.trap {g : Duel} {i : Int} {P Q S : Nat → Prop} (hQ : ∀ v, Q v → P v) (hT : ∀ v u, Q v → g.own v ≠ i → u ∈ g.next v → P u → Q u) (h : Dom g i Q S) : Dom g i P S := by
  obtain ⟨σ, h⟩ := h
  refine ⟨σ, ⟨fun v hv => hQ v (h.sub v hv), h.mine, fun v u hv ho hu hP => h.theirs v u hv ho hu (hT v u (h.sub v hv) ho hu hP), fun v m hc => h.good v m (hc.mono fun a b hab => ?_)⟩⟩
  exact ⟨hab.1, hab.2.1, hab.2.2.1, h.sub _ hab.2.1, hab.2.2.2.2⟩
/-- .. and seen from a smaller part. -/
theorem Dom.less {g : Duel} {i : Int} {P Q S : Nat → Prop} (hQ : ∀ v, Q v → P v) (hS : ∀ v, S v → Q v) (h : Dom g i P S) : Dom g i Q S := by
  obtain ⟨σ, h⟩ := h
  exact ⟨σ, ⟨hS, h.mine, fun v u hv ho hu hP => h.theirs v u hv ho hu (hQ u hP), fun v m hc => h.good v m (hc.mono fun a b hab => ⟨hab.1, hab.2.1, hab.2.2.1, hQ _ hab.2.2.2.1, hab.2.2.2.2⟩)⟩⟩
theorem Dom.congr {g : Duel} {i : Int} {P S T : Nat → Prop} (h : Dom g i P S) (hST : ∀ v, S v ↔ T v) : Dom g i P T := by
  have : S = T := funext fun v => propext (hST v)
  rwa [this] at h
theorem Dom.congrP {g : Duel} {i : Int} {P Q S : Nat → Prop} (h : Dom g i P S) (hPQ : ∀ v, P v ↔ Q v) : Dom g i Q S := by
  have : P = Q := funext fun v => propext (hPQ v)
  rwa [this] at h
theorem Dom.none (g : Duel) (i : Int) (P : Nat → Prop) : Dom g i P (fun _ => False) := ⟨fun v => v, ⟨fun _ h => h.elim, fun _ h => h.elim, fun _ _ h => h.elim, fun v m h => by
  rcases h.first with ⟨h1, _⟩ | ⟨x, k, h1, _⟩
  · exact h1.1.elim
  · exact h1.1.elim⟩⟩

/-- Among more than n numbers below n two are equal. -/
theorem two_equal (n : Nat) (f : Nat → Nat) (h : ∀ k, k ≤ n → f k < n) : ∃ a b, a < b ∧ b ≤ n ∧ f a = f b := by
  induction n generalizing f with
  | zero => exact absurd (h 0 (Nat.le_refl _)) (Nat.not_lt_zero _)
  | succ n ih =>
    by_cases hl : ∃ a, a ≤ n ∧ f a = f (n + 1)
    · obtain ⟨a, ha, e⟩ := hl
      exact ⟨a, n + 1, by omega, Nat.le_refl _, e⟩
    · -- the numbers but the last: those equal to n are set to the last one's
      have hne : ∀ a, a ≤ n → f a ≠ f (n + 1) := fun a ha e => hl ⟨a, ha, e⟩
      have hlast := h (n + 1) (Nat.le_refl _)
      obtain ⟨a, b, hab, hbn, e⟩ := ih (fun k => if f k = n then f (n + 1) else f k) fun k hk => by
        have h1 := h k (by omega)
        have h2 := hne k hk
        by_cases e : f k = n
        · simp only [e, if_true]; omega
        · simp only [e, if_false]; omega
      refine ⟨a, b, hab, by omega, ?_⟩
      have ha := hne a (by omega)
      have hb := hne b (by omega)
      by_cases ea : f a = n
      · by_cases eb : f b = n
        · omega
        · simp only [ea, eb, if_true, if_false] at e; omega
      · by_cases eb : f b = n
        · simp only [ea, eb, if_true, if_false] at e; omega
        · simp only [ea, eb, if_false] at e; exact e

def iter (f : Nat → Nat) : Nat → Nat → Nat
  | 0, v => v
  | k + 1, v => f (iter f k v)
theorem iter_walk {pr : Nat → Int} {R : Nat → Nat → Prop} {f : Nat → Nat} {v : Nat} (h : ∀ k, R (iter f k v) (iter f (k + 1) v)) (a d : Nat) : ∃ m, WalkM pr R (iter f a v) (iter f (a + d + 1) v) m := by
  induction d generalizing a with
  | zero => exact ⟨_, .one (h a)⟩
  | succ d ih =>
    obtain ⟨m, hm⟩ := ih (a + 1)
    have := WalkM.cons (h a) hm
    rw [show a + 1 + d + 1 = a + (d + 1) + 1 by omega] at this
    exact ⟨_, this⟩
/-- Nobody wins where the other one wins. -/
theorem Dom.apart {g : Duel} {n : Nat} {P S T : Nat → Prop} {i j : Int} (hij : i ≠ j) (hown : ∀ v, P v → g.own v = i ∨ g.own v = j) (hn : ∀ v, P v → v < n) (hS : Dom g i P S) (hT : Dom g j P T) {v : Nat} (h1 : S v) (h2 : T v) : False := by
  obtain ⟨σ, hS⟩ := hS
  obtain ⟨τ, hT⟩ := hT
  let f := fun v => if g.own v = i then σ v else τ v
  have inv : ∀ k, S (iter f k v) ∧ T (iter f k v) := by
    intro k
    induction k with
    | zero => exact ⟨h1, h2⟩
    | succ k ih =>
      obtain ⟨a, b⟩ := ih
      show S (f (iter f k v)) ∧ T (f (iter f k v))
      have hP := hS.sub _ a
      by_cases ho : g.own (iter f k v) = i
      · have e : f (iter f k v) = σ (iter f k v) := if_pos ho
        rw [e]
        have := hS.mine _ a ho
        exact ⟨this.2, hT.theirs _ _ b (by rw [ho]; exact hij) this.1 (hS.sub _ this.2)⟩
      · have e : f (iter f k v) = τ (iter f k v) := if_neg ho
        rw [e]
        have := hT.mine _ b ((hown _ hP).resolve_left ho)
        exact ⟨hS.theirs _ _ a ho this.1 (hT.sub _ this.2), this.2⟩
  have mv : ∀ k, (Moves g i P S σ (iter f k v) (iter f (k + 1) v)) ∧ (Moves g j P T τ (iter f k v) (iter f (k + 1) v)) := by
    intro k
    obtain ⟨a, b⟩ := inv k
    obtain ⟨a', b'⟩ := inv (k + 1)
    have hP := hS.sub _ a
    have hE : iter f (k + 1) v ∈ g.next (iter f k v) := by
      show f (iter f k v) ∈ _
      by_cases ho : g.own (iter f k v) = i
      · rw [show f (iter f k v) = σ (iter f k v) from if_pos ho]; exact (hS.mine _ a ho).1
      · rw [show f (iter f k v) = τ (iter f k v) from if_neg ho]; exact (hT.mine _ b ((hown _ hP).resolve_left ho)).1
    refine ⟨⟨a, a', hE, hS.sub _ a', fun ho => if_pos ho⟩, ⟨b, b', hE, hT.sub _ b', fun ho => if_neg (by rw [ho]; exact fun e => hij e.symm)⟩⟩
  obtain ⟨a, b, hab, _, e⟩ := two_equal n (fun k => iter f k v) fun k _ => hn _ (hS.sub _ (inv k).1)
  obtain ⟨m, hm⟩ := iter_walk (pr := g.pr) (R := fun x y => Moves g i P S σ x y ∧ Moves g j P T τ x y) (f := f) (v := v) mv a (b - a - 1)
  rw [show a + (b - a - 1) + 1 = b by omega, ← show iter f a v = iter f b v from e] at hm
  have e1 := hS.good _ _ (hm.mono fun _ _ h => h.1)
  have e2 := hT.good _ _ (hm.mono fun _ _ h => h.2)
  exact hij (e1.symm.trans e2)

/-- W0 and W1 are what the two players win in P. -/
structure Sol (g : Duel) (P W0 W1 : Nat → Prop) : Prop where
  even : Dom g 0 P W0
  odd : Dom g 1 P W1
  all : ∀ v, P v → W0 v ∨ W1 v
theorem Sol.unique {g : Duel} {n : Nat} {P W0 W1 V0 V1 : Nat → Prop} (hown : ∀ v, P v → g.own v = 0 ∨ g.own v = 1) (hn : ∀ v, P v → v < n) (h : Sol g P W0 W1) (k : Sol g P V0 V1) (v : Nat) : (W0 v ↔ V0 v) ∧ (W1 v ↔ V1 v) := by
  have h01 : ∀ {A B : Nat → Prop}, Dom g 0 P A → Dom g 1 P B → A v → B v → False := fun hA hB => Dom.apart (by decide) hown hn hA hB
  have hP0 : ∀ {A : Nat → Prop} {i : Int}, Dom g i P A → A v → P v := fun ⟨_, h⟩ => h.sub v
  refine ⟨⟨fun a => ?_, fun a => ?_⟩, ⟨fun a => ?_, fun a => ?_⟩⟩
  · exact (k.all v (hP0 h.even a)).resolve_right fun b => h01 h.even k.odd a b
  · exact (h.all v (hP0 k.even a)).resolve_right fun b => h01 k.even h.odd a b
  · exact (k.all v (hP0 h.odd a)).resolve_left fun b => h01 k.even h.odd b a
  · exact (h.all v (hP0 k.odd a)).resolve_left fun b => h01 h.even k.odd b a
end Go.Proofs.Ytpnophmanpfejaa

/- What the search of an attractor knows on its way: edges seen, edges still to see. No program in sight, no condition. -/
namespace Go.Proofs.Ytpnophmanpfejaa
set_option linter.unusedSimpArgs false
set_option linter.unusedVariables false

/-- The game of owners, numbers and successors. -/
def duel (o p : List Int) (next : List (List Int)) : Duel := ⟨fun v => ix o v, fun v => ix p v, fun v => (rx next v).map Int.toNat⟩

theorem countP_but {p q : Nat → Bool} {k : Nat} {l : List Nat} (hn : l.Nodup) (hk : k ∈ l) (hp : p k = true) (hq : q k = false) (he : ∀ u, u ≠ k → q u = p u) : l.countP q + 1 = l.countP p := by
  induction l with
  | nil => cases hk
  | cons y l ih =>
    rw [List.nodup_cons] at hn
    by_cases e : y = k
    · subst e
      rw [List.countP_cons, List.countP_cons, hp, hq]
      have : l.countP q = l.countP p := List.countP_congr fun u hu => by rw [he u (fun e => hn.1 (e ▸ hu))]
      simp [this]
    · have := ih hn.2 ((List.mem_cons.1 hk).resolve_left (Ne.symm e))
      rw [List.countP_cons, List.countP_cons, he y e]
      omega
theorem nodup_toNat {l : List Int} {n : Int} (h : IsSet l n) : (l.map Int.toNat).Nodup := by
  have key : ∀ i j, i < j → j < l.length → ix l i < ix l j := by
    intro i j hij hj
    induction j with
    | zero => omega
    | succ j ih =>
      have h1 := (h (j + 1) hj).2.2 (by omega)
      simp only [Nat.add_sub_cancel] at h1
      by_cases e : i = j
      · subst e; exact h1
      · have := ih (by omega) (by omega); omega
  rw [List.nodup_iff_pairwise_ne, List.pairwise_iff_getElem]
  intro i j hi hj hij
  simp only [List.length_map] at hi hj
  simp only [List.getElem_map, ne_eq]
  have h1 := key i j hij hj
  have h2 := (h i hi).1
  rw [ix_lt hi] at h1 h2
  rw [ix_lt hj] at h1
  omega
theorem mem_toNat {l : List Int} {n : Int} (h : IsSet l n) {u : Nat} : u ∈ l.map Int.toNat ↔ (u : Int) ∈ l := by
  rw [List.mem_map]
  constructor
  · rintro ⟨x, hx, rfl⟩
    obtain ⟨k, hk, rfl⟩ := mem_ix.1 hx
    have := (h k hk).1
    rwa [show ((ix l k).toNat : Int) = ix l k by omega]
  · intro hu
    exact ⟨u, hu, by simp⟩

open Classical in
/-- How many successors of v within P lie behind edges not seen. -/
noncomputable def leftN (g : Duel) (P : Nat → Prop) (E : Nat → Nat → Prop) (v : Nat) : Nat := (g.next v).countP fun u => decide (P u ∧ ¬ E v u)

/-- E with the edge from x to k. -/
def Plus (E : Nat → Nat → Prop) (x k : Nat) (v u : Nat) : Prop := E v u ∨ (v = x ∧ u = k)
open Classical in
theorem leftN_plus {g : Duel} {P : Nat → Prop} {E : Nat → Nat → Prop} {x k : Nat} (hn : (g.next x).Nodup) (hk : k ∈ g.next x) (hP : P k) (hE : ¬ E x k) : leftN g P (Plus E x k) x + 1 = leftN g P E x := by
  unfold leftN
  refine countP_but hn hk (decide_eq_true ⟨hP, hE⟩) (decide_eq_false fun h => h.2 (.inr ⟨rfl, rfl⟩)) fun u hu => decide_eq_decide.2 ?_
  simp [Plus, hu]
open Classical in
theorem leftN_other {g : Duel} {P : Nat → Prop} {E : Nat → Nat → Prop} {x k v : Nat} (hv : v ≠ x) : leftN g P (Plus E x k) v = leftN g P E v := by
  unfold leftN
  refine List.countP_congr fun u _ => ?_
  rw [decide_eq_true_iff, decide_eq_true_iff]
  simp [Plus, hv]
open Classical in
theorem leftN_pos {g : Duel} {P : Nat → Prop} {E : Nat → Nat → Prop} {v : Nat} (h : 0 < leftN g P E v) : ∃ u, u ∈ g.next v ∧ P u ∧ ¬ E v u := by
  obtain ⟨u, hu, h2⟩ := List.countP_pos_iff.1 h
  have h3 := decide_eq_true_iff.1 h2
  exact ⟨u, hu, h3.1, h3.2⟩
open Classical in
theorem leftN_zero {g : Duel} {P : Nat → Prop} {E : Nat → Nat → Prop} {v : Nat} (h : leftN g P E v = 0) : ∀ u, u ∈ g.next v → P u → E v u := fun u hu hP => Classical.byContradiction fun hE => by
  have := List.countP_eq_zero.1 h u hu
  simp [hP, hE] at this
theorem leftN_le {g : Duel} {P : Nat → Prop} {E : Nat → Nat → Prop} {v : Nat} : leftN g P E v ≤ (g.next v).length := List.countP_le_length
open Classical in
theorem leftN_none {g : Duel} {m : List Bool} {E : Nat → Nat → Prop} {v : Nat} (h : ∀ u, u ∈ g.next v → ¬ E v u) : leftN g (fun u => bx m u = true) E v = (g.next v).countP fun u => bx m u := by
  unfold leftN
  refine List.countP_congr fun u hu => ?_
  simp [h u hu]

/-- What the search knows: out has been marked, q is still to be looked at, E are the edges seen. -/
structure Pull (g : Duel) (i : Int) (n : Nat) (P G : Nat → Prop) (E : Nat → Nat → Prop) (out : List Bool) (q : List Int) : Prop where
  len : out.length = n
  base : ∀ x, P x → G x → bx out x = true
  sub : ∀ x, bx out x = true → Att g i P G x
  seen : ∀ v u, E v u → bx out u = true
  mine : ∀ v u, P v → bx out v = false → g.own v = i → u ∈ g.next v → ¬ E v u
  theirs : ∀ v, P v → bx out v = false → g.own v ≠ i → (∃ u, u ∈ g.next v ∧ E v u) → ∃ u, u ∈ g.next v ∧ P u ∧ ¬ E v u
  qv : ∀ k, k < q.length → ∃ j : Nat, ix q k = (j : Int) ∧ j < n ∧ bx out j = true
  fresh : ∀ (u v : Nat), (u : Int) ∈ q → ¬ E v u
  nd : q.Nodup
/-- .. between two vertices .. -/
structure PullQ (g : Duel) (i : Int) (n : Nat) (P G : Nat → Prop) (E : Nat → Nat → Prop) (out : List Bool) (q : List Int) : Prop extends Pull g i n P G E out q where
  pend : ∀ u, bx out u = true → (u : Int) ∈ q ∨ ∀ v, P v → u ∈ g.next v → E v u
/-- .. and at vertex k, of whose predecessors the first t have been looked at. -/
structure PullK (g : Duel) (i : Int) (n : Nat) (P G : Nat → Prop) (k t : Nat) (row : List Int) (E : Nat → Nat → Prop) (out : List Bool) (q : List Int) : Prop extends Pull g i n P G E out q where
  pend : ∀ u, bx out u = true → (u : Int) ∈ q ∨ u = k ∨ ∀ v, P v → u ∈ g.next v → E v u
  at_ : bx out k = true
  kq : (k : Int) ∉ q
  got : ∀ j, j < t → ∀ v : Nat, ix row j = (v : Int) → P v → E v k
  yet : ∀ j, t ≤ j → j < row.length → ∀ v : Nat, ix row j = (v : Int) → ¬ E v k

variable {g : Duel} {i : Int} {n : Nat} {P G : Nat → Prop} {E : Nat → Nat → Prop} {out : List Bool} {q : List Int} {k t : Nat} {row : List Int}

theorem PullQ.pop (h : PullQ g i n P G E out ((k : Int) :: q)) (hk : bx out k = true) (row : List Int) : PullK g i n P G k 0 row E out q := by
  have hnd := h.nd
  rw [List.nodup_cons] at hnd
  refine ⟨⟨h.len, h.base, h.sub, h.seen, h.mine, h.theirs, fun j hj => ?_, fun u v hu => h.fresh u v (List.mem_cons_of_mem _ hu), hnd.2⟩, fun u hu => ?_, hk, hnd.1, fun j hj => absurd hj (Nat.not_lt_zero _), fun j _ _ v _ => h.fresh k v (List.mem_cons_self ..)⟩
  · have := h.qv (j + 1) (by simpa using hj)
    simpa [ix] using this
  · rcases h.pend u hu with h1 | h1
    · rcases List.mem_cons.1 h1 with e | e
      · exact .inr (.inl (by omega))
      · exact .inl e
    · exact .inr (.inr h1)
/-- The edge from x leads from nowhere of weight. -/
theorem PullK.skip {x : Nat} (h : PullK g i n P G k t row E out q) (hx : ix row t = (x : Int)) (hno : ¬ P x ∨ bx out x = true) (hnd : ∀ j, t < j → j < row.length → ix row j ≠ ix row t) : PullK g i n P G k (t + 1) row (Plus E x k) out q := by
  have hx' : ∀ v, P v → bx out v = false → v ≠ x := fun v hP hb e => by
    subst e
    rcases hno with h1 | h1
    · exact h1 hP
    · rw [h1] at hb; cases hb
  refine ⟨⟨h.len, h.base, h.sub, fun v u hE => ?_, fun v u hP hb ho hu hE => ?_, fun v hP hb ho ⟨u, hu, hE⟩ => ?_, h.qv, fun u v hu hE => ?_, h.nd⟩, fun u hu => ?_, h.at_, h.kq, fun j hj v hv hP => ?_, fun j hj hjl v hv hE => ?_⟩
  · rcases hE with hE | ⟨_, rfl⟩
    · exact h.seen v u hE
    · exact h.at_
  · rcases hE with hE | ⟨e, _⟩
    · exact h.mine v u hP hb ho hu hE
    · exact hx' v hP hb e
  · obtain ⟨y, h1, h2, h3⟩ := h.theirs v hP hb ho ⟨u, hu, hE.resolve_right fun e => hx' v hP hb e.1⟩
    exact ⟨y, h1, h2, fun hE => hE.elim h3 fun e => hx' v hP hb e.1⟩
  · rcases hE with hE | ⟨_, rfl⟩
    · exact h.fresh u v hu hE
    · exact h.kq hu
  · rcases h.pend u hu with h1 | h1 | h1
    · exact .inl h1
    · exact .inr (.inl h1)
    · exact .inr (.inr fun v hP hu => .inl (h1 v hP hu))
  · by_cases e : j = t
    · subst e
      exact .inr ⟨by omega, rfl⟩
    · exact .inl (h.got j (by omega) v hv hP)
  · rcases hE with hE | ⟨e, _⟩
    · exact h.yet j (by omega) hjl v hv hE
    · exact hnd j (by omega) hjl (by rw [hv, hx, e])
/-- The other one at x has still another way. -/
theorem PullK.dec {x : Nat} (h : PullK g i n P G k t row E out q) (hx : ix row t = (x : Int)) (ho : g.own x ≠ i) (hP : P x) (hmore : 0 < leftN g P (Plus E x k) x) (hnd : ∀ j, t < j → j < row.length → ix row j ≠ ix row t) : PullK g i n P G k (t + 1) row (Plus E x k) out q := by
  refine ⟨⟨h.len, h.base, h.sub, fun v u hE => ?_, fun v u hP hb ho' hu hE => ?_, fun v hP hb ho' ⟨u, hu, hE⟩ => ?_, h.qv, fun u v hu hE => ?_, h.nd⟩, fun u hu => ?_, h.at_, h.kq, fun j hj v hv hP => ?_, fun j hj hjl v hv hE => ?_⟩
  · rcases hE with hE | ⟨_, rfl⟩
    · exact h.seen v u hE
    · exact h.at_
  · rcases hE with hE | ⟨e, _⟩
    · exact h.mine v u hP hb ho' hu hE
    · exact ho (e ▸ ho')
  · by_cases e : v = x
    · subst e
      exact leftN_pos hmore
    · obtain ⟨y, h1, h2, h3⟩ := h.theirs v hP hb ho' ⟨u, hu, hE.resolve_right fun e' => e e'.1⟩
      exact ⟨y, h1, h2, fun hE => hE.elim h3 fun e' => e e'.1⟩
  · rcases hE with hE | ⟨_, rfl⟩
    · exact h.fresh u v hu hE
    · exact h.kq hu
  · rcases h.pend u hu with h1 | h1 | h1
    · exact .inl h1
    · exact .inr (.inl h1)
    · exact .inr (.inr fun v hP hu => .inl (h1 v hP hu))
  · by_cases e : j = t
    · subst e
      exact .inr ⟨by omega, rfl⟩
    · exact .inl (h.got j (by omega) v hv hP)
  · rcases hE with hE | ⟨e, _⟩
    · exact h.yet j (by omega) hjl v hv hE
    · exact hnd j (by omega) hjl (by rw [hv, hx, e])
/-- x is attracted. -/
theorem PullK.add {x : Nat} (h : PullK g i n P G k t row E out q) (hx : ix row t = (x : Int)) (hxn : x < n) (hP : P x) (hb : bx out x = false) (hk : k ∈ g.next x) (hwhy : g.own x = i ∨ (g.own x ≠ i ∧ leftN g P (Plus E x k) x = 0)) (hnd : ∀ j, t < j → j < row.length → ix row j ≠ ix row t) :
    PullK g i n P G k (t + 1) row (Plus E x k) (out.set x true) (q ++ [(x : Int)]) := by
  have hl := h.len
  have hset : ∀ y, bx (out.set x true) y = true ↔ y = x ∨ bx out y = true := fun y => by
    rw [bx_set (by omega)]
    by_cases e : y = x <;> simp [e]
  have hsetf : ∀ y, bx (out.set x true) y = false → y ≠ x ∧ bx out y = false := fun y hy => by
    rw [bx_set (by omega)] at hy
    by_cases e : y = x
    · simp [e] at hy
    · rw [if_neg e] at hy; exact ⟨e, hy⟩
  have hgr : ∀ y, bx out y = true → bx (out.set x true) y = true := fun y hy => (hset y).2 (.inr hy)
  have hkx : k ≠ x := fun e => by have := h.at_; rw [e, hb] at this; cases this
  have hatt : Att g i P G x := by
    have hAk := h.sub k h.at_
    rcases hwhy with ho | ⟨ho, hz⟩
    · exact .mine hP ho hk hAk
    · refine .theirs hP ho ⟨k, hk, hAk.sub⟩ fun u hu hPu => h.sub u ?_
      rcases leftN_zero hz u hu hPu with hE | ⟨_, rfl⟩
      · exact h.seen x u hE
      · exact h.at_
  refine ⟨⟨by simpa using hl, fun y h1 h2 => hgr y (h.base y h1 h2), fun y hy => ?_, fun v u hE => ?_, fun v u hPv hbv ho hu hE => ?_, fun v hPv hbv ho ⟨u, hu, hE⟩ => ?_, fun j hj => ?_, fun u v hu hE => ?_, ?_⟩, fun u hu => ?_, hgr k h.at_, fun hm => ?_, fun j hj v hv hPv => ?_, fun j hj hjl v hv hE => ?_⟩
  · rcases (hset y).1 hy with rfl | hy
    · exact hatt
    · exact h.sub y hy
  · rcases hE with hE | ⟨_, rfl⟩
    · exact hgr u (h.seen v u hE)
    · exact hgr u h.at_
  · obtain ⟨e, hbv⟩ := hsetf v hbv
    rcases hE with hE | ⟨e', _⟩
    · exact h.mine v u hPv hbv ho hu hE
    · exact e e'
  · obtain ⟨e, hbv⟩ := hsetf v hbv
    obtain ⟨y, h1, h2, h3⟩ := h.theirs v hPv hbv ho ⟨u, hu, hE.resolve_right fun e' => e e'.1⟩
    exact ⟨y, h1, h2, fun hE => hE.elim h3 fun e' => e e'.1⟩
  · by_cases e : j < q.length
    · obtain ⟨y, h1, h2, h3⟩ := h.qv j e
      refine ⟨y, ?_, h2, hgr y h3⟩
      rw [← h1]; simp [ix, e, List.getElem?_append_left e]
    · have : j = q.length := by simp at hj; omega
      subst this
      exact ⟨x, by simp [ix], hxn, (hset x).2 (.inl rfl)⟩
  · rcases List.mem_append.1 hu with hu | hu
    · rcases hE with hE | ⟨_, rfl⟩
      · exact h.fresh u v hu hE
      · exact h.kq hu
    · have : u = x := by simp at hu; omega
      subst this
      rcases hE with hE | ⟨_, e⟩
      · have := h.seen v u hE
        rw [hb] at this; cases this
      · exact hkx e.symm
  · rw [List.nodup_append]
    refine ⟨h.nd, by simp, fun a ha b hb' => ?_⟩
    have hb2 : b = (x : Int) := by simpa using hb'
    subst hb2
    rintro rfl
    obtain ⟨j, hj, e⟩ := mem_ix.1 ha
    obtain ⟨y, h1, h2, h3⟩ := h.qv j hj
    have : y = x := by omega
    subst this
    rw [hb] at h3; cases h3
  · rcases (hset u).1 hu with rfl | hu
    · exact .inl (by simp)
    · rcases h.pend u hu with h1 | h1 | h1
      · exact .inl (by simp [h1])
      · exact .inr (.inl h1)
      · exact .inr (.inr fun v hP hu => .inl (h1 v hP hu))
  · rcases List.mem_append.1 hm with hm | hm
    · exact h.kq hm
    · exact hkx (by simp at hm; omega)
  · by_cases e : j = t
    · subst e
      exact .inr ⟨by omega, rfl⟩
    · exact .inl (h.got j (by omega) v hv hPv)
  · rcases hE with hE | ⟨e, _⟩
    · exact h.yet j (by omega) hjl v hv hE
    · exact hnd j (by omega) hjl (by rw [hv, hx, e])
theorem PullK.done (h : PullK g i n P G k t row E out q) (ht : row.length ≤ t) (hrow : ∀ v, P v → k ∈ g.next v → (v : Int) ∈ row) : PullQ g i n P G E out q := by
  refine ⟨h.toPull, fun u hu => ?_⟩
  rcases h.pend u hu with h1 | h1 | h1
  · exact .inl h1
  · subst h1
    refine .inr fun v hP hv => ?_
    obtain ⟨j, hj, e⟩ := mem_ix.1 (hrow v hP hv)
    exact h.got j (by omega) v e hP
  · exact .inr h1
theorem PullQ.att (h : PullQ g i n P G E out []) (x : Nat) : bx out x = true ↔ Att g i P G x := by
  refine ⟨h.sub x, fun hx => ?_⟩
  have hall : ∀ u, bx out u = true → ∀ v, P v → u ∈ g.next v → E v u := fun u hu => (h.pend u hu).resolve_left (by simp)
  have hneg : ∀ {v : Nat}, ¬ bx out v = true → bx out v = false := fun hv => by simpa using hv
  refine Att.least (A := fun x => bx out x = true) h.base (fun v u hP ho hu _ hA => ?_) (fun v hP ho he hA => ?_) hx
  · exact Classical.byContradiction fun hb => h.mine v u hP (hneg hb) ho hu (hall u hA v hP hu)
  · refine Classical.byContradiction fun hb => ?_
    obtain ⟨u, hu, hPu⟩ := he
    obtain ⟨y, h1, h2, h3⟩ := h.theirs v hP (hneg hb) ho ⟨u, hu, hall u (hA u hu hPu) v hP hu⟩
    exact h3 (hall y (hA y h1 h2) v hP h1)
theorem PullQ.start {m : List Bool} (hm : m.length = n) (hb : ∀ x, bx m x = true ↔ P x ∧ G x) (hq : ∀ x : Int, x ∈ q ↔ ∃ j : Nat, j < m.length ∧ x = (j : Int) ∧ bx m j = true) (hn : q.Nodup) : PullQ g i n P G (fun _ _ => False) m q := by
  refine ⟨⟨hm, fun x h1 h2 => (hb x).2 ⟨h1, h2⟩, fun x hx => .goal ((hb x).1 hx).1 ((hb x).1 hx).2, fun _ _ h => h.elim, fun _ _ _ _ _ _ h => h, fun _ _ _ _ h => h.elim fun _ h => h.2.elim, fun k hk => ?_, fun _ _ _ h => h, hn⟩, fun u hu => .inl ((hq u).2 ⟨u, ?_, rfl, hu⟩)⟩
  · obtain ⟨j, h1, h2, h3⟩ := (hq _).1 (mem_ix.2 ⟨k, hk, rfl⟩)
    exact ⟨j, h2, by omega, h3⟩
  · by_cases hlt : u < m.length
    · exact hlt
    · simp [bx, hlt] at hu

open Classical in
/-- The attractor, marked. -/
noncomputable def attL (g : Duel) (i : Int) (n : Nat) (P G : Nat → Prop) : List Bool := (List.range n).map fun v => decide (Att g i P G v)
@[simp] theorem length_attL : (attL g i n P G).length = n := by simp [attL]
theorem bx_attL {x : Nat} (h : x < n) : bx (attL g i n P G) x = true ↔ Att g i P G x := by simp [bx, attL, h]
theorem bx_attL' (hP : ∀ x, P x → x < n) {x : Nat} : bx (attL g i n P G) x = true ↔ Att g i P G x := by
  by_cases h : x < n
  · exact bx_attL h
  · refine ⟨fun hb => ?_, fun ha => absurd (hP x ha.sub) h⟩
    simp [bx, attL, h] at hb
theorem PullQ.is_attL (h : PullQ g i n P G E out []) : out = attL g i n P G :=
  bools_ext' (by simp [h.len]) fun j hj => by
    rw [h.att, bx_attL (by simpa using hj)]
end Go.Proofs.Ytpnophmanpfejaa

/- How a parity game is solved layer by layer: what is kept from round to round. No program in sight, no condition. -/
namespace Go.Proofs.Ytpnophmanpfejaa
set_option linter.unusedSimpArgs false
set_option linter.unusedVariables false

/-- Every vertex of P has a successor within P. -/
def Tot (g : Duel) (P : Nat → Prop) : Prop := ∀ v, P v → ∃ u, u ∈ g.next v ∧ P u
theorem Tot.out {g : Duel} {i : Int} {P G : Nat → Prop} (h : Tot g P) : Tot g (fun v => P v ∧ ¬ Att g i P G v) := by
  intro v hv
  by_cases ho : g.own v = i
  · obtain ⟨u, hu, hP⟩ := h v hv.1
    exact ⟨u, hu, hP, Att.out_mine hv ho hu⟩
  · obtain ⟨u, hu, hP, hA⟩ := Att.out_theirs hv ho (h v hv.1)
    exact ⟨u, hu, hP, hA⟩

/-- Rounds: N of P is still open, j wins the rest of P. -/
structure Rounds (g : Duel) (j : Int) (P N : Nat → Prop) : Prop where
  sub : ∀ v, N v → P v
  tot : Tot g N
  trap : ∀ v u, N v → g.own v = j → u ∈ g.next v → P u → N u
  dom : Dom g j P (fun v => P v ∧ ¬ N v)
theorem Rounds.start {g : Duel} {j : Int} {P : Nat → Prop} (h : Tot g P) : Rounds g j P P :=
  ⟨fun _ h => h, h, fun _ _ _ _ _ h => h, (Dom.none g j P).congr fun v => ⟨fun h => h.elim, fun h => h.2 h.1⟩⟩
theorem Rounds.step {g : Duel} {i j : Int} {P N G L : Nat → Prop} (hown : ∀ v, P v → g.own v = i ∨ g.own v = j) (h : Rounds g j P N) (hL : Dom g j (fun v => N v ∧ ¬ Att g i N G v) L) : Rounds g j P (fun v => N v ∧ ¬ Att g j N L v) := by
  have h1 : Dom g j N L := hL.trap (fun v hv => hv.1) fun v u hv ho hu hN => ⟨hN, Att.out_mine hv ((hown v (h.sub v hv.1)).resolve_right ho) hu⟩
  have h2 : Dom g j (fun v => P v ∧ ¬ (P v ∧ ¬ N v)) (Att g j N L) := h1.attract.congrP fun v => ⟨fun hN => ⟨h.sub v hN, fun h' => h'.2 hN⟩, fun hv => Classical.byContradiction fun hN => hv.2 ⟨hv.1, hN⟩⟩
  refine ⟨fun v hv => h.sub v hv.1, h.tot.out, fun v u hv ho hu hP => ⟨h.trap v u hv.1 ho hu hP, Att.out_mine hv ho hu⟩, (h.dom.layer h2).congr fun v => ⟨fun hv => ?_, fun hv => ?_⟩⟩
  · rcases hv with hv | hv
    · exact ⟨hv.1, fun h' => hv.2 h'.1⟩
    · exact ⟨h.sub v hv.sub, fun h' => h'.2 hv⟩
  · by_cases hN : N v
    · exact .inr (Classical.byContradiction fun hA => hv.2 ⟨hN, hA⟩)
    · exact .inl ⟨hv.1, hN⟩
theorem Rounds.fin {g : Duel} {i j t : Int} {P N : Nat → Prop} (hown : ∀ v, P v → g.own v = i ∨ g.own v = j) (h : Rounds g j P N) (ht : ∀ v, P v → g.pr v ≤ t) (hi : t % 2 = i)
    (hR : Dom g i (fun v => N v ∧ ¬ Att g i N (fun v => g.pr v = t) v) (fun v => N v ∧ ¬ Att g i N (fun v => g.pr v = t) v)) : Dom g i P N :=
  (Dom.top h.tot (fun v hv => ht v (h.sub v hv)) hi hR).trap h.sub fun v u hv ho hu hP => h.trap v u hv ((hown v (h.sub v hv)).resolve_left ho) hu hP
/-- Both players' parts, from those of what is left. -/
theorem Rounds.split {g : Duel} {i j : Int} {P N Wi Wj : Nat → Prop} (hown : ∀ v, P v → g.own v = i ∨ g.own v = j) (h : Rounds g j P N) (hi : Dom g i N Wi) (hj : Dom g j N Wj) : Dom g i P Wi ∧ Dom g j P (fun v => (P v ∧ ¬ N v) ∨ Wj v) := by
  refine ⟨hi.trap h.sub fun v u hv ho hu hP => h.trap v u hv ((hown v (h.sub v hv)).resolve_left ho) hu hP, h.dom.layer (hj.congrP fun v => ⟨fun hN => ⟨h.sub v hN, fun h' => h'.2 hN⟩, fun hv => Classical.byContradiction fun hN => hv.2 ⟨hv.1, hN⟩⟩)⟩

/-- v is marked. -/
def On (m : List Bool) (v : Nat) : Prop := bx m v = true
theorem On.lt {m : List Bool} {v : Nat} (h : On m v) : v < m.length := by
  by_cases hlt : v < m.length
  · exact hlt
  · simp [On, bx, hlt] at h
theorem not_on {m : List Bool} {v : Nat} : ¬ On m v ↔ bx m v = false := by simp [On]

/-- The marks of a without those of b. -/
def restL (a b : List Bool) : List Bool := (List.range a.length).map fun v => bx a v && !bx b v
@[simp] theorem length_restL (a b : List Bool) : (restL a b).length = a.length := by simp [restL]
theorem bx_restL (a b : List Bool) (v : Nat) : bx (restL a b) v = (bx a v && !bx b v) := by
  by_cases h : v < a.length
  · simp [restL, bx, h]
  · simp [restL, bx, h]
theorem on_restL {a b : List Bool} {v : Nat} : On (restL a b) v ↔ On a v ∧ ¬ On b v := by
  unfold On
  rw [bx_restL]
  simp
theorem count_lt {a b : List Bool} (hl : a.length = b.length) (hs : ∀ v, On a v → On b v) (hx : ∃ v, On b v ∧ ¬ On a v) : a.count true < b.count true := by
  induction a generalizing b with
  | nil =>
    obtain ⟨v, hv, _⟩ := hx
    have := hv.lt
    simp at hl
    omega
  | cons x a ih =>
    rcases b with _ | ⟨y, b⟩
    · simp at hl
    · have hle : ∀ (c d : List Bool), c.length = d.length → (∀ v, On c v → On d v) → c.count true ≤ d.count true := by
        intro c
        induction c with
        | nil => intro d _ _; simp
        | cons x c ihc =>
          intro d hd hcd
          rcases d with _ | ⟨y, d⟩
          · simp at hd
          · have h1 := ihc d (by simpa using hd) fun v hv => by
              have := hcd (v + 1) (by simpa [On, bx] using hv)
              simpa [On, bx] using this
            have h0 := hcd 0
            cases x <;> cases y <;> simp_all [On, bx, List.count_cons] <;> omega
      have hs' : ∀ v, On a v → On b v := fun v hv => by
        have := hs (v + 1) (by simpa [On, bx] using hv)
        simpa [On, bx] using this
      have hle' := hle a b (by simpa using hl) hs'
      obtain ⟨v, h1, h2⟩ := hx
      have h0 := hs 0
      rcases v with _ | v
      · have e1 : y = true := by simpa [On, bx] using h1
        have e2 : x = false := by simpa [On, bx] using h2
        subst e1 e2
        simp only [List.count_cons]
        simp
        omega
      · have := ih (b := b) (by simpa using hl) hs' ⟨v, by simpa [On, bx] using h1, by simpa [On, bx] using h2⟩
        cases x <;> cases y <;> simp_all [On, bx, List.count_cons] <;> omega

/-- In the part m, i wins r and the other one wins the rest. -/
structure WonB (g : Duel) (m r : List Bool) (i : Int) : Prop where
  len : r.length = m.length
  who : i = 0 ∨ i = 1
  mine : Dom g i (On m) (On r)
  theirs : Dom g (1 - i) (On m) (On (restL m r))
theorem WonB.sol {g : Duel} {m r : List Bool} {i : Int} (h : WonB g m r i) : Sol g (On m) (fun v => if i = 0 then On r v else On (restL m r) v) (fun v => if i = 0 then On (restL m r) v else On r v) := by
  have hall : ∀ v, On m v → On r v ∨ On (restL m r) v := fun v hv => by
    by_cases h' : On r v
    · exact .inl h'
    · exact .inr (on_restL.2 ⟨hv, h'⟩)
  rcases h.who with rfl | rfl
  · exact ⟨h.mine, h.theirs, hall⟩
  · exact ⟨h.theirs, h.mine, fun v hv => (hall v hv).symm⟩
/-- .. told for player 0. -/
def evenL (m r : List Bool) (i : Int) : List Bool := if i = 0 then r else restL m r
theorem WonB.even_eq {g : Duel} {n : Nat} {m r s : List Bool} {i j : Int} (hown : ∀ v, On m v → g.own v = 0 ∨ g.own v = 1) (hm : m.length = n) (h : WonB g m r i) (k : WonB g m s j) : evenL m r i = evenL m s j := by
  have hu := fun v => Sol.unique (n := n) hown (fun v hv => hm ▸ hv.lt) h.sol k.sol v
  have hl : ∀ {r : List Bool} {i : Int}, WonB g m r i → (evenL m r i).length = m.length := fun {r i} h => by
    unfold evenL
    split
    · exact h.len
    · simp
  have he : ∀ {r : List Bool} {i : Int} {v : Nat}, (bx (evenL m r i) v = true ↔ (if i = 0 then On r v else On (restL m r) v)) := fun {r i v} => by
    unfold evenL
    split <;> rfl
  refine bools_ext' (by rw [hl h, hl k]) fun v _ => ?_
  rw [he, he]
  exact (hu v).1
end Go.Proofs.Ytpnophmanpfejaa

/- What the search of an attractor counts: how many ways are left, the program's way and the reference's. No program in sight, no condition. -/
namespace Go.Proofs.Ytpnophmanpfejaa
set_option linter.unusedSimpArgs false
set_option linter.unusedVariables false

/-- The program counts a vertex' ways when it first comes to it. -/
def LeftI (g : Duel) (i : Int) (n : Nat) (P : Nat → Prop) (E : Nat → Nat → Prop) (out : List Bool) (ll : List Int) : Prop :=
  ∀ v, v < n → P v → bx out v = false → g.own v ≠ i → (ix ll v = 0 ∧ ∀ u, u ∈ g.next v → ¬ E v u) ∨ (ix ll v = (leftN g P E v : Int) ∧ 0 < leftN g P E v)
/-- The reference counts them at the start. -/
def LeftS (g : Duel) (n : Nat) (P : Nat → Prop) (E : Nat → Nat → Prop) (out : List Bool) (ll : List Int) : Prop :=
  ∀ v, v < n → P v → bx out v = false → ix ll v = (leftN g P E v : Int)

structure StQ (g : Duel) (i : Int) (n : Nat) (m : List Bool) (G : Nat → Prop) (out : List Bool) (q : List Int) (ll : List Int) : Prop where
  ex : ∃ E, PullQ g i n (On m) G E out q ∧ LeftI g i n (On m) E out ll
structure StK (g : Duel) (i : Int) (n : Nat) (m : List Bool) (G : Nat → Prop) (k t : Nat) (row : List Int) (out : List Bool) (q : List Int) (ll : List Int) : Prop where
  ex : ∃ E, PullK g i n (On m) G k t row E out q ∧ LeftI g i n (On m) E out ll
structure TtQ (g : Duel) (i : Int) (n : Nat) (m : List Bool) (G : Nat → Prop) (out : List Bool) (q : List Int) (ll : List Int) : Prop where
  ex : ∃ E, PullQ g i n (On m) G E out q ∧ LeftS g n (On m) E out ll
structure TtK (g : Duel) (i : Int) (n : Nat) (m : List Bool) (G : Nat → Prop) (k t : Nat) (row : List Int) (out : List Bool) (q : List Int) (ll : List Int) : Prop where
  ex : ∃ E, PullK g i n (On m) G k t row E out q ∧ LeftS g n (On m) E out ll

variable {g : Duel} {i : Int} {n : Nat} {m : List Bool} {G : Nat → Prop} {out : List Bool} {q ll : List Int} {k t : Nat} {row : List Int}

theorem set_ix {l : List Int} {k j : Nat} {x : Int} (hk : k < l.length) : ix (l.set k x) j = if j = k then x else ix l j := by
  unfold ix
  by_cases h : j = k
  · subst h; simp [hk]
  · simp [h, Ne.symm h]
theorem plus_other {E : Nat → Nat → Prop} {x k v u : Nat} (h : v ≠ x) : Plus E x k v u ↔ E v u := ⟨fun h' => h'.resolve_right fun e => h e.1, .inl⟩
theorem bx_false_set {out : List Bool} {x v : Nat} (hx : x < out.length) (h : bx (out.set x true) v = false) : v ≠ x ∧ bx out v = false := by
  rw [bx_set hx] at h
  by_cases e : v = x
  · rw [if_pos e] at h; cases h
  · rw [if_neg e] at h; exact ⟨e, h⟩

theorem StQ.start {gl : List Bool} (hm : gl.length = n) (hb : ∀ x, On gl x → On m x) (hq : ∀ x : Int, x ∈ q ↔ ∃ j : Nat, j < gl.length ∧ x = (j : Int) ∧ bx gl j = true) (hn : q.Nodup) (hl : ∀ v, ix ll v = 0) : StQ g i n m (On gl) gl q ll :=
  ⟨_, PullQ.start hm (fun x => ⟨fun h => ⟨hb x h, h⟩, fun h => h.2⟩) hq hn, fun v _ _ _ _ => .inl ⟨hl v, fun _ _ h => h⟩⟩
theorem StQ.pop (h : StQ g i n m G out ((k : Int) :: q) ll) (row : List Int) : StK g i n m G k 0 row out q ll := by
  obtain ⟨E, h1, h2⟩ := h.ex
  obtain ⟨j, e, _, hb⟩ := h1.qv 0 (by simp)
  have : k = j := by simp [ix] at e; omega
  subst this
  exact ⟨E, h1.pop hb row, h2⟩
theorem StK.done (h : StK g i n m G k t row out q ll) (ht : row.length ≤ t) (hrow : ∀ v, On m v → k ∈ g.next v → (v : Int) ∈ row) : StQ g i n m G out q ll := by
  obtain ⟨E, h1, h2⟩ := h.ex
  exact ⟨E, h1.done ht hrow, h2⟩
theorem StQ.fin (h : StQ g i n m G out [] ll) : out = attL g i n (On m) G := by
  obtain ⟨E, h1, _⟩ := h.ex
  exact h1.is_attL
theorem StQ.head {x : Int} (h : StQ g i n m G out (x :: q) ll) : ∃ k : Nat, x = (k : Int) ∧ k < n := by
  obtain ⟨E, h1, _⟩ := h.ex
  obtain ⟨j, e, h2, _⟩ := h1.qv 0 (by simp)
  exact ⟨j, by simpa [ix] using e, h2⟩
theorem StK.skip {x : Nat} (h : StK g i n m G k t row out q ll) (hx : ix row t = (x : Int)) (hno : ¬ On m x ∨ bx out x = true) (hnd : ∀ j, t < j → j < row.length → ix row j ≠ ix row t) : StK g i n m G k (t + 1) row out q ll := by
  obtain ⟨E, h1, h2⟩ := h.ex
  refine ⟨_, h1.skip hx hno hnd, fun v hv hP hb ho => ?_⟩
  have hne : v ≠ x := fun e => by
    subst e
    rcases hno with h' | h'
    · exact h' hP
    · rw [h'] at hb; cases hb
  rw [leftN_other hne]
  rcases h2 v hv hP hb ho with ⟨h3, h4⟩ | h3
  · exact .inl ⟨h3, fun u hu hE => h4 u hu ((plus_other hne).1 hE)⟩
  · exact .inr h3
theorem StK.mine {x : Nat} (h : StK g i n m G k t row out q ll) (hx : ix row t = (x : Int)) (hxn : x < n) (hP : On m x) (hb : bx out x = false) (hk : k ∈ g.next x) (ho : g.own x = i) (hnd : ∀ j, t < j → j < row.length → ix row j ≠ ix row t) :
    StK g i n m G k (t + 1) row (out.set x true) (q ++ [(x : Int)]) ll := by
  obtain ⟨E, h1, h2⟩ := h.ex
  refine ⟨_, h1.add hx hxn hP hb hk (.inl ho) hnd, fun v hv hPv hbv hov => ?_⟩
  obtain ⟨hne, hbv⟩ := bx_false_set (by rw [h1.len]; exact hxn) hbv
  rw [leftN_other hne]
  rcases h2 v hv hPv hbv hov with ⟨h3, h4⟩ | h3
  · exact .inl ⟨h3, fun u hu hE => h4 u hu ((plus_other hne).1 hE)⟩
  · exact .inr h3
theorem StK.other {x : Nat} (h : StK g i n m G k t row out q ll) (hx : ix row t = (x : Int)) (hxn : x < n) (hP : On m x) (hb : bx out x = false) (hk : k ∈ g.next x) (hkP : On m k) (ho : g.own x ≠ i) (hnd : ∀ j, t < j → j < row.length → ix row j ≠ ix row t)
    (hnn : (g.next x).Nodup) (hln : ll.length = n) {z : Int} (hz : (ix ll x = 0 ∧ z = ((g.next x).countP fun u => bx m u : Nat)) ∨ (ix ll x ≠ 0 ∧ z = ix ll x)) (hnot : t < row.length) :
    1 ≤ z ∧ z ≤ ((g.next x).length : Nat) ∧ (1 < z → StK g i n m G k (t + 1) row out q (ll.set x (z - 1))) ∧ (z = 1 → StK g i n m G k (t + 1) row (out.set x true) (q ++ [(x : Int)]) (ll.set x (z - 1))) := by
  obtain ⟨E, h1, h2⟩ := h.ex
  have hE : ¬ E x k := h1.yet t (Nat.le_refl _) hnot x hx
  have hpl := leftN_plus (P := On m) hnn hk hkP hE
  have hzl : z = (leftN g (On m) E x : Int) := by
    rcases h2 x hxn hP hb ho with ⟨h3, h4⟩ | ⟨h3, h4⟩
    · rcases hz with ⟨_, e⟩ | ⟨e, _⟩
      · rw [e]
        congr 1
        exact (leftN_none h4).symm
      · exact absurd h3 e
    · rcases hz with ⟨e, _⟩ | ⟨_, e⟩
      · omega
      · rw [e, h3]
  have hle : leftN g (On m) E x ≤ (g.next x).length := leftN_le
  have hset : ∀ v, ix (ll.set x (z - 1)) v = if v = x then z - 1 else ix ll v := fun v => set_ix (by omega)
  have hrest : ∀ v, v ≠ x → v < n → On m v → bx out v = false → g.own v ≠ i → (ix (ll.set x (z - 1)) v = 0 ∧ ∀ u, u ∈ g.next v → ¬ Plus E x k v u) ∨ (ix (ll.set x (z - 1)) v = (leftN g (On m) (Plus E x k) v : Int) ∧ 0 < leftN g (On m) (Plus E x k) v) := fun v hne hv hPv hbv hov => by
    rw [leftN_other hne, hset, if_neg hne]
    rcases h2 v hv hPv hbv hov with ⟨h3, h4⟩ | h3
    · exact .inl ⟨h3, fun u hu hE => h4 u hu ((plus_other hne).1 hE)⟩
    · exact .inr h3
  refine ⟨by omega, by omega, fun h3 => ⟨_, h1.dec hx ho hP (by omega) hnd, fun v hv hPv hbv hov => ?_⟩, fun h3 => ⟨_, h1.add hx hxn hP hb hk (.inr ⟨ho, by omega⟩) hnd, fun v hv hPv hbv hov => ?_⟩⟩
  · by_cases e : v = x
    · subst e
      rw [hset, if_pos rfl]
      exact .inr ⟨by omega, by omega⟩
    · exact hrest v e hv hPv hbv hov
  · obtain ⟨hne, hbv⟩ := bx_false_set (by rw [h1.len]; exact hxn) hbv
    exact hrest v hne hv hPv hbv hov
theorem StK.at_ (h : StK g i n m G k t row out q ll) : On m k := by
  obtain ⟨E, h1, _⟩ := h.ex
  exact (h1.sub k h1.at_).sub
theorem StK.len (h : StK g i n m G k t row out q ll) : out.length = n := by
  obtain ⟨E, h1, _⟩ := h.ex
  exact h1.len

theorem TtQ.start (hm : out.length = n) (hb : ∀ x, bx out x = true ↔ On m x ∧ G x) (hq : ∀ x : Int, x ∈ q ↔ ∃ j : Nat, j < out.length ∧ x = (j : Int) ∧ bx out j = true) (hn : q.Nodup) (hl : ∀ v, v < n → On m v → ix ll v = ((g.next v).countP fun u => bx m u : Nat)) : TtQ g i n m G out q ll :=
  ⟨_, PullQ.start hm hb hq hn, fun v hv hP _ => by
    rw [hl v hv hP]
    congr 1
    exact (leftN_none fun _ _ h => h).symm⟩
theorem TtQ.pop (h : TtQ g i n m G out ((k : Int) :: q) ll) (row : List Int) : TtK g i n m G k 0 row out q ll := by
  obtain ⟨E, h1, h2⟩ := h.ex
  obtain ⟨j, e, _, hb⟩ := h1.qv 0 (by simp)
  have : k = j := by simp [ix] at e; omega
  subst this
  exact ⟨E, h1.pop hb row, h2⟩
theorem TtK.done (h : TtK g i n m G k t row out q ll) (ht : row.length ≤ t) (hrow : ∀ v, On m v → k ∈ g.next v → (v : Int) ∈ row) : TtQ g i n m G out q ll := by
  obtain ⟨E, h1, h2⟩ := h.ex
  exact ⟨E, h1.done ht hrow, h2⟩
theorem TtQ.fin (h : TtQ g i n m G out [] ll) : out = attL g i n (On m) G := by
  obtain ⟨E, h1, _⟩ := h.ex
  exact h1.is_attL
theorem TtQ.head {x : Int} (h : TtQ g i n m G out (x :: q) ll) : ∃ k : Nat, x = (k : Int) ∧ k < n := by
  obtain ⟨E, h1, _⟩ := h.ex
  obtain ⟨j, e, h2, _⟩ := h1.qv 0 (by simp)
  exact ⟨j, by simpa [ix] using e, h2⟩
theorem TtK.skip {x : Nat} (h : TtK g i n m G k t row out q ll) (hx : ix row t = (x : Int)) (hno : ¬ On m x ∨ bx out x = true) (hnd : ∀ j, t < j → j < row.length → ix row j ≠ ix row t) : TtK g i n m G k (t + 1) row out q ll := by
  obtain ⟨E, h1, h2⟩ := h.ex
  refine ⟨_, h1.skip hx hno hnd, fun v hv hP hb => ?_⟩
  have hne : v ≠ x := fun e => by
    subst e
    rcases hno with h' | h'
    · exact h' hP
    · rw [h'] at hb; cases hb
  rw [leftN_other hne]
  exact h2 v hv hP hb
theorem TtK.step {x : Nat} (h : TtK g i n m G k t row out q ll) (hx : ix row t = (x : Int)) (hxn : x < n) (hP : On m x) (hb : bx out x = false) (hk : k ∈ g.next x) (hkP : On m k) (hnd : ∀ j, t < j → j < row.length → ix row j ≠ ix row t)
    (hnn : (g.next x).Nodup) (hln : ll.length = n) (hnot : t < row.length) :
    1 ≤ ix ll x ∧ ix ll x ≤ ((g.next x).length : Nat) ∧ (g.own x ≠ i → 1 < ix ll x → TtK g i n m G k (t + 1) row out q (ll.set x (ix ll x - 1))) ∧ (g.own x = i ∨ ix ll x = 1 → TtK g i n m G k (t + 1) row (out.set x true) (q ++ [(x : Int)]) (ll.set x (ix ll x - 1))) := by
  obtain ⟨E, h1, h2⟩ := h.ex
  have hE : ¬ E x k := h1.yet t (Nat.le_refl _) hnot x hx
  have hpl := leftN_plus (P := On m) hnn hk hkP hE
  have hzl := h2 x hxn hP hb
  have hle : leftN g (On m) E x ≤ (g.next x).length := leftN_le
  have hset : ∀ v, ix (ll.set x (ix ll x - 1)) v = if v = x then ix ll x - 1 else ix ll v := fun v => set_ix (by omega)
  have hrest : ∀ v, v ≠ x → v < n → On m v → bx out v = false → ix (ll.set x (ix ll x - 1)) v = (leftN g (On m) (Plus E x k) v : Int) := fun v hne hv hPv hbv => by
    rw [leftN_other hne, hset, if_neg hne]
    exact h2 v hv hPv hbv
  refine ⟨by omega, by omega, fun ho h3 => ⟨_, h1.dec hx ho hP (by omega) hnd, fun v hv hPv hbv => ?_⟩, fun h3 => ⟨_, h1.add hx hxn hP hb hk ?_ hnd, fun v hv hPv hbv => ?_⟩⟩
  · by_cases e : v = x
    · subst e
      rw [hset, if_pos rfl]
      omega
    · exact hrest v e hv hPv hbv
  · by_cases ho : g.own x = i
    · exact .inl ho
    · exact .inr ⟨ho, by have := h3.resolve_left ho; omega⟩
  · obtain ⟨hne, hbv⟩ := bx_false_set (by rw [h1.len]; exact hxn) hbv
    exact hrest v hne hv hPv hbv
theorem TtK.at_ (h : TtK g i n m G k t row out q ll) : On m k := by
  obtain ⟨E, h1, _⟩ := h.ex
  exact (h1.sub k h1.at_).sub

/-- How many of the first t of a row are marked. -/
def cntTo (m : List Bool) (row : List Int) (t : Nat) : Nat := ((row.map Int.toNat).take t).countP fun u => bx m u
theorem cntTo_succ {m : List Bool} {row : List Int} {t j : Nat} (ht : t < row.length) (hj : ix row t = (j : Int)) : cntTo m row (t + 1) = cntTo m row t + if bx m j = true then 1 else 0 := by
  unfold cntTo
  rw [List.take_succ_eq_append_getElem (by simpa using ht), List.countP_append]
  congr 1
  rw [List.getElem_map, ← ix_lt ht, hj]
  simp [List.countP_cons]
theorem cntTo_all {m : List Bool} {row : List Int} : cntTo m row row.length = (row.map Int.toNat).countP fun u => bx m u := by
  unfold cntTo
  rw [List.take_of_length_le (by simp)]
theorem cntTo_le {m : List Bool} {row : List Int} {t : Nat} : cntTo m row t ≤ t := by
  unfold cntTo
  exact Nat.le_trans List.countP_le_length (List.length_take_le ..)
theorem markedL_nodup (m : List Bool) : (markedL m).Nodup := by
  unfold markedL
  rw [List.nodup_iff_pairwise_ne]
  refine List.Pairwise.filter _ ?_
  unfold upFrom
  rw [List.pairwise_map]
  refine List.Pairwise.imp ?_ (List.pairwise_lt_range (n := m.length))
  intro a b h
  omega
end Go.Proofs.Ytpnophmanpfejaa

/- How the program solves a parity game: what its rounds give. No program in sight, no condition. -/
namespace Go.Proofs.Ytpnophmanpfejaa
set_option linter.unusedSimpArgs false
set_option linter.unusedVariables false

theorem fold_max (p : List Int) (l : List Int) : ∀ t : Int, t ≤ l.foldl (fun t v => max t (ix p v.toNat)) t ∧ (∀ x ∈ l, ix p x.toNat ≤ l.foldl (fun t v => max t (ix p v.toNat)) t) ∧ (l.foldl (fun t v => max t (ix p v.toNat)) t = t ∨ ∃ x ∈ l, ix p x.toNat = l.foldl (fun t v => max t (ix p v.toNat)) t) := by
  induction l with
  | nil => intro t; exact ⟨Int.le_refl _, fun x hx => (by cases hx), .inl rfl⟩
  | cons y l ih =>
    intro t
    obtain ⟨h1, h2, h3⟩ := ih (max t (ix p y.toNat))
    rw [List.foldl_cons]
    refine ⟨by omega, fun x hx => ?_, ?_⟩
    · rcases List.mem_cons.1 hx with rfl | hx
      · omega
      · exact h2 x hx
    · rcases h3 with h3 | ⟨x, hx, e⟩
      · by_cases h : t ≤ ix p y.toNat
        · exact .inr ⟨y, List.mem_cons_self .., by omega⟩
        · exact .inl (by omega)
      · exact .inr ⟨x, List.mem_cons_of_mem _ hx, e⟩
theorem topL_ge {p l : List Int} {x : Int} (h : x ∈ l) : ix p x.toNat ≤ topL p l := (fold_max p l (-1)).2.1 x h
theorem topL_at {p l : List Int} (hl : l ≠ []) (hp : ∀ x ∈ l, 0 ≤ ix p x.toNat) : ∃ x ∈ l, ix p x.toNat = topL p l := by
  rcases (fold_max p l (-1)).2.2 with h | h
  · obtain ⟨y, hy⟩ : ∃ y, y ∈ l := by
      cases l with
      | nil => exact absurd rfl hl
      | cons y l => exact ⟨y, List.mem_cons_self ..⟩
    have h1 := topL_ge (p := p) hy
    have h2 := hp y hy
    have h3 : topL p l = -1 := h
    omega
  · exact h

/-- Those of m with number t. -/
def goalL (m : List Bool) (p : List Int) (t : Int) : List Bool := (List.range m.length).map fun v => bx m v && decide (ix p v = t)
@[simp] theorem length_goalL (m : List Bool) (p : List Int) (t : Int) : (goalL m p t).length = m.length := by simp [goalL]
theorem bx_goalL (m : List Bool) (p : List Int) (t : Int) (v : Nat) : bx (goalL m p t) v = (bx m v && decide (ix p v = t)) := by
  by_cases h : v < m.length
  · simp [goalL, bx, h]
  · simp [goalL, bx, h]
theorem on_goalL {m : List Bool} {p : List Int} {t : Int} {v : Nat} : On (goalL m p t) v ↔ On m v ∧ ix p v = t := by
  unfold On
  rw [bx_goalL]
  simp

theorem att_congr {g : Duel} {i : Int} {P G H : Nat → Prop} (h : ∀ v, P v → (G v ↔ H v)) (v : Nat) : Att g i P G v ↔ Att g i P H v := by
  have key : ∀ {G H : Nat → Prop}, (∀ v, P v → (G v ↔ H v)) → Att g i P G v → Att g i P H v := fun {G H} h ha =>
    ha.least (A := Att g i P H) (fun v hP hG => .goal hP ((h v hP).1 hG)) (fun v u hP ho hu _ hA => .mine hP ho hu hA) fun v hP ho he hA => .theirs hP ho he hA
  exact ⟨key h, key fun v hP => (h v hP).symm⟩
theorem on_attL {g : Duel} {i : Int} {n : Nat} {m : List Bool} {G : Nat → Prop} (hm : m.length = n) {v : Nat} : On (attL g i n (On m) G) v ↔ Att g i (On m) G v := bx_attL' fun x hx => hm ▸ hx.lt

/-- Nothing is marked. -/
def NoneOn (m : List Bool) : Prop := ∀ v, ¬ On m v
def anyB (m : List Bool) : Bool := decide (true ∈ m)
theorem anyB_iff {m : List Bool} : anyB m = true ↔ ∃ v, On m v := by
  unfold anyB
  rw [decide_eq_true_iff, List.mem_iff_getElem]
  constructor
  · rintro ⟨v, hv, e⟩; exact ⟨v, by unfold On; rw [bx_lt hv]; exact e⟩
  · rintro ⟨v, hv⟩; exact ⟨v, hv.lt, by have := hv; unfold On at this; rw [bx_lt hv.lt] at this; exact this⟩
theorem anyB_false {m : List Bool} : anyB m = false ↔ NoneOn m := by
  rw [Bool.eq_false_iff, ne_eq, anyB_iff]
  exact ⟨fun h v hv => h ⟨v, hv⟩, fun h ⟨v, hv⟩ => h v hv⟩

section
variable {g : Duel} {n : Nat} {m nm r2 : List Bool} {who i2 t : Int} {p : List Int}
theorem WonB.empty (h : NoneOn m) : WonB g m m 0 := by
  refine ⟨rfl, .inl rfl, (Dom.none g 0 (On m)).congr fun v => ⟨fun h => h.elim, h v⟩, (Dom.none g _ (On m)).congr fun v => ⟨fun h => h.elim, fun hv => h v (on_restL.1 hv).1⟩⟩
/-- What the other one wins of the rest. -/
def lostL (rest r2 : List Bool) (i2 who : Int) : List Bool := if i2 = who then restL rest r2 else r2
theorem lostL_dom {rest : List Bool} (h : WonB g rest r2 i2) (hw : who = 0 ∨ who = 1) : Dom g (1 - who) (On rest) (On (lostL rest r2 i2 who)) := by
  unfold lostL
  by_cases e : i2 = who
  · rw [if_pos e]; subst e; exact h.theirs
  · rw [if_neg e]
    have : i2 = 1 - who := by rcases h.who with h | h <;> rcases hw with h' | h' <;> omega
    rw [← this]; exact h.mine
theorem lostL_len {rest : List Bool} (h : WonB g rest r2 i2) : (lostL rest r2 i2 who).length = rest.length := by
  unfold lostL
  split
  · simp
  · exact h.len
theorem lostL_sub {rest : List Bool} (h : WonB g rest r2 i2) (hw : who = 0 ∨ who = 1) {v : Nat} (hv : On (lostL rest r2 i2 who) v) : On rest v := by
  obtain ⟨σ, hd⟩ := lostL_dom h hw
  exact hd.sub v hv
theorem lostL_none {rest : List Bool} (h : WonB g rest r2 i2) (hw : who = 0 ∨ who = 1) (hn : NoneOn (lostL rest r2 i2 who)) : Dom g who (On rest) (On rest) := by
  unfold lostL at hn
  by_cases e : i2 = who
  · rw [if_pos e] at hn
    subst e
    obtain ⟨σ, hs⟩ := id h.mine
    exact h.mine.congr fun v => ⟨fun hv => hs.sub v hv, fun hv => Classical.byContradiction fun hr => hn v (on_restL.2 ⟨hv, hr⟩)⟩
  · rw [if_neg e] at hn
    have : 1 - i2 = who := by rcases h.who with h | h <;> rcases hw with h' | h' <;> omega
    rw [← this]
    exact h.theirs.congr fun v => ⟨fun hv => (on_restL.1 hv).1, fun hv => on_restL.2 ⟨hv, hn v⟩⟩

/-- The part that is left when the greatest number's attractor is taken away. -/
theorem restTop (hnm : nm.length = n) (v : Nat) : On (restL nm (attL g who n (On nm) (On (goalL nm p t)))) v ↔ On nm v ∧ ¬ Att g who (On nm) (fun v => ix p v = t) v := by
  rw [on_restL, on_attL hnm]
  exact and_congr_right fun hv => not_congr (att_congr (fun v hv => by rw [on_goalL]; exact ⟨fun h => h.2, fun h => ⟨hv, h⟩⟩) v)
theorem restAtt {L : List Bool} (hnm : nm.length = n) (v : Nat) : On (restL nm (attL g who n (On nm) (On L))) v ↔ On nm v ∧ ¬ Att g who (On nm) (On L) v := by
  rw [on_restL, on_attL hnm]
theorem fun_of_iff {P Q : Nat → Prop} (h : ∀ v, P v ↔ Q v) : P = Q := funext fun v => propext (h v)

theorem Rounds.won (h : Rounds g (1 - who) (On m) (On nm)) (hl : nm.length = m.length) (hw : who = 0 ∨ who = 1) (hd : Dom g who (On m) (On nm)) : WonB g m nm who :=
  ⟨hl, hw, hd, h.dom.congr fun v => by rw [on_restL]⟩
/-- The last round: the other one wins nothing of the rest. -/
theorem Rounds.last (hown : ∀ v, On m v → g.own v = who ∨ g.own v = 1 - who) (h : Rounds g (1 - who) (On m) (On nm)) (hl : nm.length = m.length) (hn : nm.length = n) (hw : who = 0 ∨ who = 1) (hp : g.pr = fun v => ix p v) (ht : ∀ v, On m v → ix p v ≤ t) (hi : t % 2 = who)
    (h2 : WonB g (restL nm (attL g who n (On nm) (On (goalL nm p t)))) r2 i2) (hnone : NoneOn (lostL (restL nm (attL g who n (On nm) (On (goalL nm p t)))) r2 i2 who)) : WonB g m nm who := by
  have h3 := lostL_none h2 hw hnone
  rw [fun_of_iff (restTop hn)] at h3
  refine h.won hl hw (h.fin hown (fun v hv => by rw [hp]; exact ht v hv) hi ?_)
  rw [hp]; exact h3
theorem Rounds.more (hown : ∀ v, On m v → g.own v = who ∨ g.own v = 1 - who) (h : Rounds g (1 - who) (On m) (On nm)) (hn : nm.length = n) (hw : who = 0 ∨ who = 1)
    (h2 : WonB g (restL nm (attL g who n (On nm) (On (goalL nm p t)))) r2 i2) : Rounds g (1 - who) (On m) (On (restL nm (attL g (1 - who) n (On nm) (On (lostL (restL nm (attL g who n (On nm) (On (goalL nm p t)))) r2 i2 who))))) := by
  have h3 := lostL_dom h2 hw
  rw [fun_of_iff (restAtt (g := g) (who := who) (L := goalL nm p t) hn)] at h3
  have h4 := h.step hown h3
  rwa [← fun_of_iff (restAtt (g := g) (who := 1 - who) hn)] at h4
theorem Rounds.out (h : Rounds g (1 - who) (On m) (On nm)) (hl : nm.length = m.length) (hw : who = 0 ∨ who = 1) (hnone : NoneOn nm) : WonB g m nm who :=
  h.won hl hw ((Dom.none g who (On m)).congr fun v => ⟨fun h => h.elim, hnone v⟩)
theorem Tot.rest (h : Tot g (On nm)) (hn : nm.length = n) (L : List Bool) : Tot g (On (restL nm (attL g who n (On nm) (On L)))) := by
  rw [fun_of_iff (restAtt (g := g) (who := who) (L := L) hn)]
  exact h.out
theorem att_any {L : List Bool} (hn : nm.length = n) (hL : ∀ v, On L v → On nm v) (hx : ∃ v, On L v) : (restL nm (attL g who n (On nm) (On L))).count true < nm.count true := by
  refine count_lt (by simp) (fun v hv => (on_restL.1 hv).1) ?_
  obtain ⟨v, hv⟩ := hx
  exact ⟨v, hL v hv, fun h => ((restAtt hn v).1 h).2 (.goal (hL v hv) hv)⟩
end
theorem restL_le (a b : List Bool) : (restL a b).count true ≤ a.count true := by
  by_cases h : ∃ v, On a v ∧ ¬ On (restL a b) v
  · exact Nat.le_of_lt (count_lt (by simp) (fun v hv => (on_restL.1 hv).1) h)
  · have : restL a b = a := bools_ext' (by simp) fun v _ => ⟨fun hv => (on_restL.1 hv).1, fun hv => Classical.byContradiction fun h' => h ⟨v, hv, h'⟩⟩
    rw [this]; exact Nat.le_refl _
theorem markedL_nil {m : List Bool} : markedL m = [] ↔ NoneOn m := by
  rw [List.eq_nil_iff_forall_not_mem]
  constructor
  · intro h v hv
    exact h v (mem_markedL.2 ⟨v, hv.lt, rfl, hv⟩)
  · intro h x hx
    obtain ⟨j, _, _, hb⟩ := mem_markedL.1 hx
    exact h j hb
end Go.Proofs.Ytpnophmanpfejaa

/- Who wins a part of a parity game, as marks that do not hang on how they were found. No program in sight, no condition. -/
namespace Go.Proofs.Ytpnophmanpfejaa
set_option linter.unusedSimpArgs false
set_option linter.unusedVariables false

open Classical in
/-- What player 0 wins of the part m. -/
noncomputable def evenW (g : Duel) (m : List Bool) : List Bool := if h : ∃ r : List Bool, WonB g m r 0 then Classical.choose h else []
theorem WonB.flip {g : Duel} {m r : List Bool} {i : Int} (h : WonB g m r i) : WonB g m (evenL m r i) 0 := by
  unfold evenL
  rcases h.who with e | e
  · subst e; exact h
  · subst e
    refine ⟨by simp, .inl rfl, h.theirs, ?_⟩
    obtain ⟨σ, hs⟩ := id h.mine
    exact h.mine.congr fun v => ⟨fun hv => on_restL.2 ⟨hs.sub v hv, fun h' => (on_restL.1 h').2 hv⟩, fun hv => Classical.byContradiction fun h' => (on_restL.1 hv).2 (on_restL.2 ⟨(on_restL.1 hv).1, h'⟩)⟩
theorem WonB.is_even {g : Duel} {n : Nat} {m r : List Bool} {i : Int} (hown : ∀ v, On m v → g.own v = 0 ∨ g.own v = 1) (hm : m.length = n) (h : WonB g m r i) : evenL m r i = evenW g m := by
  have hx : ∃ r : List Bool, WonB g m r 0 := ⟨_, h.flip⟩
  have hc := Classical.choose_spec hx
  have : evenW g m = Classical.choose hx := by unfold evenW; rw [dif_pos hx]
  rw [this]
  have h2 := WonB.even_eq hown hm h hc
  rw [h2]; rfl
theorem WonB.is_odd {g : Duel} {n : Nat} {m r : List Bool} {i : Int} (hown : ∀ v, On m v → g.own v = 0 ∨ g.own v = 1) (hm : m.length = n) (h : WonB g m r i) : (if i = 0 then restL m r else r) = restL m (evenW g m) := by
  rw [← h.is_even hown hm]
  unfold evenL
  by_cases e : i = 0
  · rw [if_pos e, if_pos e]
  · rw [if_neg e, if_neg e]
    obtain ⟨σ, hs⟩ := h.mine
    refine bools_ext' (by simp [h.len]) fun v _ => ?_
    show On r v ↔ On (restL m (restL m r)) v
    rw [on_restL, on_restL]
    exact ⟨fun hv => ⟨hs.sub v hv, fun h' => h'.2 hv⟩, fun hv => Classical.byContradiction fun h' => hv.2 ⟨hv.1, h'⟩⟩
theorem evenW_len {g : Duel} {m r : List Bool} {i : Int} (h : WonB g m r i) : (evenW g m).length = m.length := by
  have hx : ∃ r : List Bool, WonB g m r 0 := ⟨_, h.flip⟩
  have : evenW g m = Classical.choose hx := by unfold evenW; rw [dif_pos hx]
  rw [this]
  exact (Classical.choose_spec hx).len
theorem evenW_sub {g : Duel} {m r : List Bool} {i : Int} (h : WonB g m r i) {v : Nat} (hv : On (evenW g m) v) : On m v := by
  have hx : ∃ r : List Bool, WonB g m r 0 := ⟨_, h.flip⟩
  have e : evenW g m = Classical.choose hx := by unfold evenW; rw [dif_pos hx]
  rw [e] at hv
  obtain ⟨σ, hs⟩ := (Classical.choose_spec hx).mine
  exact hs.sub v hv

/-- All of n vertices. -/
def fullM (n : Nat) : List Bool := List.replicate n true
@[simp] theorem length_fullM (n : Nat) : (fullM n).length = n := by simp [fullM]
theorem on_fullM {n v : Nat} : On (fullM n) v ↔ v < n := by
  unfold On fullM bx
  by_cases h : v < n <;> simp [h]
theorem marksL_all (n : Nat) : marksL n (upFrom 0 n) = fullM n := bools_ext' (by simp) fun v hv => by
  rw [length_fullM] at hv
  rw [bx_marksL hv]
  show _ ↔ On (fullM n) v
  rw [on_fullM, decide_eq_true_iff, mem_upFrom]
  exact ⟨fun _ => hv, fun _ => ⟨v, hv, rfl⟩⟩
theorem on_marksL {n v : Nat} {s : List Int} : On (marksL n s) v ↔ v < n ∧ (v : Int) ∈ s := by
  by_cases h : v < n
  · unfold On
    rw [bx_marksL h]
    simp [h]
  · constructor
    · intro hv; have := hv.lt; simp at this; omega
    · intro hv; exact absurd hv.1 h
/-- The winner of each vertex. -/
noncomputable def winnersL (g : Duel) (n : Nat) : List Int := (List.range n).map fun v => if bx (evenW g (fullM n)) v = true then 0 else 1
@[simp] theorem length_winnersL (g : Duel) (n : Nat) : (winnersL g n).length = n := by simp [winnersL]
theorem ix_winnersL {g : Duel} {n v : Nat} (h : v < n) : ix (winnersL g n) v = if bx (evenW g (fullM n)) v = true then 0 else 1 := by simp [winnersL, ix, h]
end Go.Proofs.Ytpnophmanpfejaa

/- What the reference's l7Win finds of a part is what player 0 wins of it. No program in sight, no condition. -/
namespace Go.Proofs.Ytpnophmanpfejaa
set_option linter.unusedSimpArgs false
set_option linter.unusedVariables false

/-- Those of the rest whose winner is not who. -/
def lostW (rest low : List Bool) (who : Int) : List Bool := (List.range rest.length).map fun v => bx rest v && (bx low v != decide (who = 0))
@[simp] theorem length_lostW (rest low : List Bool) (who : Int) : (lostW rest low who).length = rest.length := by simp [lostW]
theorem bx_lostW (rest low : List Bool) (who : Int) (v : Nat) : bx (lostW rest low who) v = (bx rest v && (bx low v != decide (who = 0))) := by
  by_cases h : v < rest.length
  · simp [lostW, bx, h]
  · simp [lostW, bx, h]
/-- All of a part, or nothing of it. -/
def allW (m : List Bool) (who : Int) : List Bool := (List.range m.length).map fun v => bx m v && decide (who = 0)
@[simp] theorem length_allW (m : List Bool) (who : Int) : (allW m who).length = m.length := by simp [allW]
theorem bx_allW (m : List Bool) (who : Int) (v : Nat) : bx (allW m who) v = (bx m v && decide (who = 0)) := by
  by_cases h : v < m.length
  · simp [allW, bx, h]
  · simp [allW, bx, h]
/-- What is won of what is left, and what was taken away. -/
def moreW (again away : List Bool) (who : Int) : List Bool := (List.range again.length).map fun v => bx again v || (bx away v && decide (who = 1))
@[simp] theorem length_moreW (again away : List Bool) (who : Int) : (moreW again away who).length = again.length := by simp [moreW]
theorem bx_moreW {again away : List Bool} {who : Int} {v : Nat} (h : v < again.length) : bx (moreW again away who) v = (bx again v || (bx away v && decide (who = 1))) := by
  simp [moreW, bx, h]

section
variable {g : Duel} {n : Nat} {m rest low again : List Bool} {who t : Int} {p : List Int}
theorem WonB.sub0 (h : WonB g m rest 0) {v : Nat} (hv : On rest v) : On m v := by
  obtain ⟨σ, hs⟩ := h.mine
  exact hs.sub v hv
theorem attL_sub {i : Int} {L : List Bool} (hn : m.length = n) : ∀ v, On (attL g i n (On m) (On L)) v → On m v := fun _ hv => ((on_attL hn).1 hv).sub
theorem lostW_eq (h : WonB g rest low 0) (hw : who = 0 ∨ who = 1) : lostW rest low who = lostL rest low 0 who := by
  refine bools_ext' (by rw [length_lostW, lostL_len h]) fun v _ => ?_
  rw [bx_lostW]
  unfold lostL
  rcases hw with rfl | rfl
  · rw [if_pos rfl]
    show _ ↔ On (restL rest low) v
    rw [on_restL]
    unfold On
    cases bx rest v <;> cases bx low v <;> simp
  · rw [if_neg (by omega)]
    have hs := h.sub0 (v := v)
    unfold On at hs
    cases hr : bx rest v <;> cases hb : bx low v <;> simp_all
theorem win_last (hown : ∀ v, On m v → g.own v = who ∨ g.own v = 1 - who) (htot : Tot g (On m)) (hn : m.length = n) (hw : who = 0 ∨ who = 1) (hp : g.pr = fun v => ix p v) (ht : ∀ v, On m v → ix p v ≤ t) (hi : t % 2 = who)
    (h2 : WonB g (restL m (attL g who n (On m) (On (goalL m p t)))) low 0) (hnone : NoneOn (lostW (restL m (attL g who n (On m) (On (goalL m p t)))) low who)) : WonB g m (allW m who) 0 := by
  rw [lostW_eq h2 hw] at hnone
  have h3 := (Rounds.start (j := 1 - who) htot).last hown rfl hn hw hp ht hi h2 hnone
  have h4 := h3.flip
  have e : evenL m m who = allW m who := by
    unfold evenL
    refine bools_ext' (by split <;> simp) fun v _ => ?_
    rw [bx_allW]
    rcases hw with rfl | rfl
    · simp
    · rw [if_neg (by omega)]
      show On (restL m m) v ↔ _
      rw [on_restL]
      simp
  rw [← e]; exact h4
theorem win_more (hown : ∀ v, On m v → g.own v = who ∨ g.own v = 1 - who) (htot : Tot g (On m)) (hn : m.length = n) (hw : who = 0 ∨ who = 1)
    (h2 : WonB g (restL m (attL g who n (On m) (On (goalL m p t)))) low 0)
    (h5 : WonB g (restL m (attL g (1 - who) n (On m) (On (lostW (restL m (attL g who n (On m) (On (goalL m p t)))) low who)))) again 0) :
    WonB g m (moreW again (attL g (1 - who) n (On m) (On (lostW (restL m (attL g who n (On m) (On (goalL m p t)))) low who))) who) 0 := by
  rw [lostW_eq h2 hw] at h5 ⊢
  have h3 := (Rounds.start (j := 1 - who) htot).more hown hn hw h2
  have hal := attL_sub (g := g) (i := 1 - who) (L := lostL (restL m (attL g who n (On m) (On (goalL m p t)))) low 0 who) hn
  generalize attL g (1 - who) n (On m) (On (lostL (restL m (attL g who n (On m) (On (goalL m p t)))) low 0 who)) = away at *
  have hlen : again.length = m.length := by rw [h5.len, length_restL]
  have hmo : ∀ v, On (moreW again away who) v ↔ On again v ∨ (On away v ∧ who = 1) := fun v => by
    by_cases hv : v < again.length
    · unfold On
      rw [bx_moreW hv]
      simp
    · constructor
      · intro h; have := h.lt; simp at this; exact absurd this hv
      · rintro (h | h)
        · exact absurd h.lt hv
        · have := (hal v h.1).lt; exact absurd (hlen ▸ this) hv
  have hsub := fun v (hv : On again v) => h5.sub0 hv
  rcases hw with rfl | rfl
  · obtain ⟨d0, d1⟩ := h3.split hown h5.mine h5.theirs
    refine ⟨by simpa using hlen, .inl rfl, d0.congr fun v => by rw [hmo]; simp, d1.congr fun v => ?_⟩
    simp only [on_restL, hmo]
    constructor
    · rintro (⟨h, h'⟩ | ⟨h, h'⟩)
      · exact ⟨h, fun hx => by
          rcases hx with hx | hx
          · exact h' (on_restL.1 (hsub v hx))
          · exact absurd hx.2 (by omega)⟩
      · exact ⟨h.1, fun hx => by
          rcases hx with hx | hx
          · exact h' hx
          · exact absurd hx.2 (by omega)⟩
    · rintro ⟨h, h'⟩
      by_cases ha : On away v
      · exact .inl ⟨h, fun hx => hx.2 ha⟩
      · exact .inr ⟨⟨h, ha⟩, fun hx => h' (.inl hx)⟩
  · obtain ⟨d1, d0⟩ := h3.split hown h5.theirs h5.mine
    refine ⟨by simpa using hlen, .inl rfl, d0.congr fun v => ?_, d1.congr fun v => ?_⟩
    · simp only [on_restL, hmo]
      constructor
      · rintro (⟨h, h'⟩ | h)
        · exact .inr ⟨Classical.byContradiction fun hx => h' ⟨h, hx⟩, by trivial⟩
        · exact .inl h
      · rintro (h | h)
        · exact .inr h
        · exact .inl ⟨hal v h.1, fun hx => hx.2 h.1⟩
    · simp only [on_restL, hmo]
      constructor
      · rintro ⟨⟨h, h'⟩, hx⟩
        exact ⟨h, fun hy => by
          rcases hy with hy | hy
          · exact hx hy
          · exact h' hy.1⟩
      · rintro ⟨h, h'⟩
        exact ⟨⟨h, fun hx => h' (.inr ⟨hx, by trivial⟩)⟩, fun hx => h' (.inl hx)⟩
end
end Go.Proofs.Ytpnophmanpfejaa
