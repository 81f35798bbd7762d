/- Parity games: who wins where, by strategies that look at the place alone. No program in sight, no condition. -/
import Derived.Test.YtigjhhcndigncaaMem
namespace Go.Proofs.Ytigjhhcndigncaa
set_option linter.unusedSimpArgs false
set_option linter.unusedVariables false

/-- A game: who owns a vertex, its number, its successors. -/
structure Duel where
  own : Nat → Int
  pr : Nat → Int
  next : Nat → List Nat

/-- A walk of at least one step by R from v to u; m is the greatest number of the vertices that it leaves. -/
inductive WalkM (pr : Nat → Int) (R : Nat → Nat → Prop) : Nat → Nat → Int → Prop
  | one {v u : Nat} : R v u → WalkM pr R v u (pr v)
  | cons {v x u : Nat} {m : Int} : R v x → WalkM pr R x u m → WalkM pr R v u (max (pr v) m)

theorem WalkM.mono {pr : Nat → Int} {R Q : Nat → Nat → Prop} {v u : Nat} {m : Int} (h : WalkM pr R v u m) (hRQ : ∀ a b, R a b → Q a b) : WalkM pr Q v u m := by
  induction h with
  | one h => exact .one (hRQ _ _ h)
  | cons h _ ih => exact .cons (hRQ _ _ h) ih
theorem WalkM.trans {pr : Nat → Int} {R : Nat → Nat → Prop} {v x u : Nat} {m k : Int} (h : WalkM pr R v x m) (g : WalkM pr R x u k) : WalkM pr R v u (max m k) := by
  induction h with
  | one h => exact .cons h g
  | cons h _ ih =>
    have := WalkM.cons h (ih g)
    rwa [show max _ (max _ k) = max (max _ _) k from by rw [Int.max_assoc]] at this
/-- A walk that starts in a closed set stays there. -/
theorem WalkM.stay {pr : Nat → Int} {R : Nat → Nat → Prop} {S : Nat → Prop} {v u : Nat} {m : Int} (h : WalkM pr R v u m) (hS : ∀ a b, S a → R a b → S b) (hv : S v) : S u ∧ WalkM pr (fun a b => R a b ∧ S a ∧ S b) v u m := by
  induction h with
  | one h => exact ⟨hS _ _ hv h, .one ⟨h, hv, hS _ _ hv h⟩⟩
  | cons h _ ih => exact ⟨(ih (hS _ _ hv h)).1, .cons ⟨h, hv, hS _ _ hv h⟩ (ih (hS _ _ hv h)).2⟩
/-- A walk has a first step. -/
theorem WalkM.first {pr : Nat → Int} {R : Nat → Nat → Prop} {v u : Nat} {m : Int} (h : WalkM pr R v u m) : (R v u ∧ m = pr v) ∨ ∃ x k, R v x ∧ WalkM pr R x u k ∧ m = max (pr v) k := by
  cases h with
  | one h => exact .inl ⟨h, rfl⟩
  | cons h g => exact .inr ⟨_, _, h, g, rfl⟩
/-- A round trip can be begun at its second vertex. -/
theorem WalkM.turn {pr : Nat → Int} {R : Nat → Nat → Prop} {v : Nat} {m : Int} (h : WalkM pr R v v m) : ∃ x, R v x ∧ WalkM pr R x x m := by
  rcases h.first with ⟨h1, rfl⟩ | ⟨x, k, h1, h2, rfl⟩
  · exact ⟨v, h1, .one h1⟩
  · refine ⟨x, h1, ?_⟩
    have := h2.trans (.one h1)
    rwa [Int.max_comm] at this

/-- The moves within S of one who plays by σ for i, in part P. -/
def Moves (g : Duel) (i : Int) (P S : Nat → Prop) (σ : Nat → Nat) (v u : Nat) : Prop := S v ∧ S u ∧ u ∈ g.next v ∧ P u ∧ (g.own v = i → u = σ v)
/-- In part P of g, i wins from all of S by σ. -/
structure WinsWith (g : Duel) (i : Int) (P S : Nat → Prop) (σ : Nat → Nat) : Prop where
  sub : ∀ v, S v → P v
  mine : ∀ v, S v → g.own v = i → σ v ∈ g.next v ∧ S (σ v)
  theirs : ∀ v u, S v → g.own v ≠ i → u ∈ g.next v → P u → S u
  good : ∀ v m, WalkM g.pr (Moves g i P S σ) v v m → m % 2 = i
def Dom (g : Duel) (i : Int) (P S : Nat → Prop) : Prop := ∃ σ, WinsWith g i P S σ

/-- k steps at most bring i into the goal. -/
def AttN (g : Duel) (i : Int) (P G : Nat → Prop) : Nat → Nat → Prop
  | 0, v => P v ∧ G v
  | k + 1, v => AttN g i P G k v ∨ (P v ∧ ((g.own v = i ∧ ∃ u, u ∈ g.next v ∧ P u ∧ AttN g i P G k u) ∨ (g.own v ≠ i ∧ (∃ u, u ∈ g.next v ∧ P u) ∧ ∀ u, u ∈ g.next v → P u → AttN g i P G k u)))
def Att (g : Duel) (i : Int) (P G : Nat → Prop) (v : Nat) : Prop := ∃ k, AttN g i P G k v

theorem AttN.up {g : Duel} {i : Int} {P G : Nat → Prop} {k l v : Nat} (h : AttN g i P G k v) (hkl : k ≤ l) : AttN g i P G l v := by
  induction hkl with
  | refl => exact h
  | step _ ih => exact .inl ih
theorem AttN.sub {g : Duel} {i : Int} {P G : Nat → Prop} {k v : Nat} (h : AttN g i P G k v) : P v := by
  induction k generalizing v with
  | zero => exact h.1
  | succ k ih =>
    rcases h with h | h
    · exact ih h
    · exact h.1
theorem Att.sub {g : Duel} {i : Int} {P G : Nat → Prop} {v : Nat} (h : Att g i P G v) : P v := h.elim fun _ h => h.sub
theorem Att.goal {g : Duel} {i : Int} {P G : Nat → Prop} {v : Nat} (hP : P v) (h : G v) : Att g i P G v := ⟨0, hP, h⟩
theorem Att.mine {g : Duel} {i : Int} {P G : Nat → Prop} {v u : Nat} (hP : P v) (ho : g.own v = i) (hu : u ∈ g.next v) (h : Att g i P G u) : Att g i P G v := by
  obtain ⟨k, h⟩ := h
  exact ⟨k + 1, .inr ⟨hP, .inl ⟨ho, u, hu, h.sub, h⟩⟩⟩
theorem att_all {g : Duel} {i : Int} {P G : Nat → Prop} (l : List Nat) (h : ∀ u ∈ l, P u → Att g i P G u) : ∃ k, ∀ u ∈ l, P u → AttN g i P G k u := by
  induction l with
  | nil => exact ⟨0, fun u hu => by cases hu⟩
  | cons x l ih =>
    obtain ⟨k, hk⟩ := ih fun u hu => h u (List.mem_cons_of_mem _ hu)
    by_cases hx : P x
    · obtain ⟨k', hk'⟩ := h x (List.mem_cons_self ..) hx
      refine ⟨max k k', fun u hu hP => ?_⟩
      rcases List.mem_cons.1 hu with rfl | hu
      · exact hk'.up (Nat.le_max_right _ _)
      · exact (hk u hu hP).up (Nat.le_max_left _ _)
    · refine ⟨k, fun u hu hP => ?_⟩
      rcases List.mem_cons.1 hu with rfl | hu
      · exact absurd hP hx
      · exact hk u hu hP
theorem Att.theirs {g : Duel} {i : Int} {P G : Nat → Prop} {v : Nat} (hP : P v) (ho : g.own v ≠ i) (he : ∃ u, u ∈ g.next v ∧ P u) (h : ∀ u, u ∈ g.next v → P u → Att g i P G u) : Att g i P G v := by
  obtain ⟨k, hk⟩ := att_all (g.next v) h
  exact ⟨k + 1, .inr ⟨hP, .inr ⟨ho, he, hk⟩⟩⟩
/-- What is closed holds the attractor. -/
theorem Att.least {g : Duel} {i : Int} {P G A : Nat → Prop} (h0 : ∀ v, P v → G v → A v) (h1 : ∀ v u, P v → g.own v = i → u ∈ g.next v → P u → A u → A v)
    (h2 : ∀ v, P v → g.own v ≠ i → (∃ u, u ∈ g.next v ∧ P u) → (∀ u, u ∈ g.next v → P u → A u) → A v) {v : Nat} (h : Att g i P G v) : A v := by
  obtain ⟨k, h⟩ := h
  induction k generalizing v with
  | zero => exact h0 v h.1 h.2
  | succ k ih =>
    rcases h with h | ⟨hP, ⟨ho, u, hu, hPu, h⟩ | ⟨ho, he, h⟩⟩
    · exact ih h
    · exact h1 v u hP ho hu hPu (ih h)
    · exact h2 v hP ho he fun u hu hPu => ih (h u hu hPu)
/-- Outside of the attractor: i's moves stay outside .. -/
theorem Att.out_mine {g : Duel} {i : Int} {P G : Nat → Prop} {v u : Nat} (hv : P v ∧ ¬ Att g i P G v) (ho : g.own v = i) (hu : u ∈ g.next v) : ¬ Att g i P G u := fun h => hv.2 (.mine hv.1 ho hu h)
/-- .. and the other one has such a move. -/
theorem Att.out_theirs {g : Duel} {i : Int} {P G : Nat → Prop} {v : Nat} (hv : P v ∧ ¬ Att g i P G v) (ho : g.own v ≠ i) (he : ∃ u, u ∈ g.next v ∧ P u) : ∃ u, u ∈ g.next v ∧ P u ∧ ¬ Att g i P G u :=
  Classical.byContradiction fun h => hv.2 (.theirs hv.1 ho he fun u hu hP => Classical.byContradiction fun h' => h ⟨u, hu, hP, h'⟩)

theorem least_of {p : Nat → Prop} (h : ∃ k, p k) : ∃ k, p k ∧ ∀ j, j < k → ¬ p j := by
  obtain ⟨k, hk⟩ := h
  induction k using Nat.strongRecOn with
  | _ k ih =>
    by_cases hj : ∃ j, j < k ∧ p j
    · obtain ⟨j, hlt, hp⟩ := hj
      exact ih j hlt hp
    · exact ⟨k, hk, fun j hlt hp => hj ⟨j, hlt, hp⟩⟩
/-- A number for each vertex of the attractor, and a move that lowers it. -/
theorem Att.ranked {g : Duel} {i : Int} {P G : Nat → Prop} : ∃ (rk : Nat → Nat) (σ : Nat → Nat), ∀ v, Att g i P G v → ¬ G v →
    (g.own v = i → σ v ∈ g.next v ∧ Att g i P G (σ v) ∧ rk (σ v) < rk v) ∧ (g.own v ≠ i → ∀ u, u ∈ g.next v → P u → Att g i P G u ∧ rk u < rk v) := by
  have h0 : ∀ v, ∃ k, Att g i P G v → AttN g i P G k v ∧ ∀ j, j < k → ¬ AttN g i P G j v := fun v => by
    by_cases h : Att g i P G v
    · obtain ⟨k, h1, h2⟩ := least_of h
      exact ⟨k, fun _ => ⟨h1, h2⟩⟩
    · exact ⟨0, fun h' => absurd h' h⟩
  let rk := fun v => Classical.choose (h0 v)
  have hrk : ∀ v, Att g i P G v → AttN g i P G (rk v) v ∧ ∀ j, j < rk v → ¬ AttN g i P G j v := fun v => Classical.choose_spec (h0 v)
  have hle : ∀ v k, AttN g i P G k v → rk v ≤ k := fun v k h => Nat.le_of_not_lt fun hlt => (hrk v ⟨k, h⟩).2 k hlt h
  have key : ∀ v, Att g i P G v → ¬ G v → (g.own v = i → ∃ u, u ∈ g.next v ∧ Att g i P G u ∧ rk u < rk v) ∧ (g.own v ≠ i → ∀ u, u ∈ g.next v → P u → Att g i P G u ∧ rk u < rk v) := by
    intro v hv hG
    obtain ⟨h1, h2⟩ := hrk v hv
    rcases hk : rk v with _ | k
    · rw [hk] at h1
      exact absurd h1.2 hG
    · rw [hk] at h1 h2
      rcases h1 with h1 | ⟨hP, ⟨ho, u, hu, hPu, h⟩ | ⟨ho, he, h⟩⟩
      · exact absurd h1 (h2 k (Nat.lt_succ_self _))
      · exact ⟨fun _ => ⟨u, hu, ⟨k, h⟩, Nat.lt_succ_of_le (hle u k h)⟩, fun h' => absurd ho h'⟩
      · exact ⟨fun h' => absurd h' ho, fun _ u hu hPu => ⟨⟨k, h u hu hPu⟩, Nat.lt_succ_of_le (hle u k (h u hu hPu))⟩⟩
  have h3 : ∀ v, ∃ u, Att g i P G v → ¬ G v → g.own v = i → u ∈ g.next v ∧ Att g i P G u ∧ rk u < rk v := fun v => by
    by_cases h : Att g i P G v ∧ ¬ G v ∧ g.own v = i
    · obtain ⟨u, hu⟩ := (key v h.1 h.2.1).1 h.2.2
      exact ⟨u, fun _ _ _ => hu⟩
    · exact ⟨0, fun a b c => absurd ⟨a, b, c⟩ h⟩
  exact ⟨rk, fun v => Classical.choose (h3 v), fun v hv hG => ⟨fun ho => Classical.choose_spec (h3 v) hv hG ho, (key v hv hG).2⟩⟩

/-- A walk that touches A can be parted there. -/
theorem WalkM.part {pr : Nat → Int} {R : Nat → Nat → Prop} (A : Nat → Prop) {v u : Nat} {m : Int} (h : WalkM pr R v u m) :
    (∃ x m1 m2, A x ∧ WalkM pr R v x m1 ∧ WalkM pr R x u m2 ∧ m = max m1 m2) ∨ A v ∨ A u ∨ WalkM pr (fun a b => R a b ∧ ¬ A a ∧ ¬ A b) v u m := by
  induction h with
  | one h =>
    rename_i v u
    by_cases hv : A v
    · exact .inr (.inl hv)
    · by_cases hu : A u
      · exact .inr (.inr (.inl hu))
      · exact .inr (.inr (.inr (.one ⟨h, hv, hu⟩)))
  | cons h g ih =>
    rename_i v x u m
    by_cases hv : A v
    · exact .inr (.inl hv)
    · by_cases hx : A x
      · exact .inl ⟨x, _, _, hx, .one h, g, rfl⟩
      · rcases ih with ⟨y, m1, m2, hy, g1, g2, rfl⟩ | h1 | h1 | h1
        · exact .inl ⟨y, _, _, hy, .cons h g1, g2, by rw [Int.max_assoc]⟩
        · exact absurd h1 hx
        · exact .inr (.inr (.inl h1))
        · exact .inr (.inr (.inr (.cons ⟨h, hv, hx⟩ h1)))
theorem WalkM.cycle {pr : Nat → Int} {R : Nat → Nat → Prop} (A : Nat → Prop) {v : Nat} {m : Int} (h : WalkM pr R v v m) :
    (∃ x, A x ∧ WalkM pr R x x m) ∨ WalkM pr (fun a b => R a b ∧ ¬ A a ∧ ¬ A b) v v m := by
  rcases h.part A with ⟨x, m1, m2, hx, h1, h2, rfl⟩ | h1 | h1 | h1
  · refine .inl ⟨x, hx, ?_⟩
    have := h2.trans h1
    rwa [Int.max_comm] at this
  · exact .inl ⟨v, h1, h⟩
  · exact .inl ⟨v, h1, h⟩
  · exact .inr h1
/-- Along a walk whose every step lowers a number it falls. -/
theorem WalkM.falls {pr : Nat → Int} {R : Nat → Nat → Prop} {rk : Nat → Nat} {v u : Nat} {m : Int} (h : WalkM pr R v u m) (hR : ∀ a b, R a b → rk b < rk a) : rk u < rk v := by
  induction h with
  | one h => exact hR _ _ h
  | cons h _ ih => exact Nat.lt_trans ih (hR _ _ h)
theorem WalkM.le {pr : Nat → Int} {R : Nat → Nat → Prop} {t : Int} {v u : Nat} {m : Int} (h : WalkM pr R v u m) (hR : ∀ a b, R a b → pr a ≤ t) : m ≤ t := by
  induction h with
  | one h => exact hR _ _ h
  | cons h _ ih => exact Int.max_le.2 ⟨hR _ _ h, ih⟩

/-- What i wins in P, and what i wins in the rest of P. -/
theorem Dom.layer {g : Duel} {i : Int} {P D W : Nat → Prop} (hD : Dom g i P D) (hW : Dom g i (fun v => P v ∧ ¬ D v) W) : Dom g i P (fun v => D v ∨ W v) := by
  classical
  obtain ⟨σ, hD⟩ := hD
  obtain ⟨τ, hW⟩ := hW
  have hWD : ∀ v, W v → ¬ D v := fun v hv => (hW.sub v hv).2
  refine ⟨fun v => if D v then σ v else τ v, ⟨fun v hv => hv.elim (hD.sub v) fun h => (hW.sub v h).1, fun v hv ho => ?_, fun v u hv ho hu hP => ?_, fun v m hc => ?_⟩⟩
  · rcases hv with h | h
    · simp only [if_pos h]
      exact ⟨(hD.mine v h ho).1, .inl (hD.mine v h ho).2⟩
    · simp only [if_neg (hWD v h)]
      exact ⟨(hW.mine v h ho).1, .inr (hW.mine v h ho).2⟩
  · rcases hv with h | h
    · exact .inl (hD.theirs v u h ho hu hP)
    · by_cases hu' : D u
      · exact .inl hu'
      · exact .inr (hW.theirs v u h ho hu ⟨hP, hu'⟩)
  · rcases hc.cycle D with ⟨x, hx, hc⟩ | hc
    · refine hD.good x m ((hc.stay (S := D) (fun a b ha hab => ?_) hx).2.mono fun a b hab => ?_)
      · by_cases ho : g.own a = i
        · have := hab.2.2.2.2 ho
          dsimp only at this
          rw [if_pos ha] at this
          rw [this]; exact (hD.mine a ha ho).2
        · exact hD.theirs a b ha ho hab.2.2.1 hab.2.2.2.1
      · refine ⟨hab.2.1, hab.2.2, hab.1.2.2.1, hab.1.2.2.2.1, fun ho => ?_⟩
        have := hab.1.2.2.2.2 ho
        dsimp only at this
        rwa [if_pos hab.2.1] at this
    · refine hW.good v m (hc.mono fun a b hab => ?_)
      obtain ⟨⟨h1, h2, h3, h4, h5⟩, ha, hb⟩ := hab
      refine ⟨h1.resolve_left ha, h2.resolve_left hb, h3, ⟨h4, hb⟩, fun ho => ?_⟩
      have := h5 ho
      dsimp only at this
      rwa [if_neg ha] at this

/-- What is attracted to what i wins. -/
theorem Dom.attract {g : Duel} {i : Int} {P D : Nat → Prop} (hD : Dom g i P D) : Dom g i P (Att g i P D) := by
  classical
  obtain ⟨σ, hD⟩ := hD
  obtain ⟨rk, τ, hr⟩ := Att.ranked (g := g) (i := i) (P := P) (G := D)
  refine ⟨fun v => if D v then σ v else τ v, ⟨fun v hv => hv.sub, fun v hv ho => ?_, fun v u hv ho hu hP => ?_, fun v m hc => ?_⟩⟩
  · by_cases h : D v
    · simp only [if_pos h]
      have := hD.mine v h ho
      exact ⟨this.1, .goal (hD.sub _ this.2) this.2⟩
    · simp only [if_neg h]
      have := (hr v hv h).1 ho
      exact ⟨this.1, this.2.1⟩
  · by_cases h : D v
    · exact .goal hP (hD.theirs v u h ho hu hP)
    · exact ((hr v hv h).2 ho u hu hP).1
  · rcases hc.cycle D with ⟨x, hx, hc⟩ | hc
    · refine hD.good x m ((hc.stay (S := D) (fun a b ha hab => ?_) hx).2.mono fun a b hab => ?_)
      · by_cases ho : g.own a = i
        · have := hab.2.2.2.2 ho
          dsimp only at this
          rw [if_pos ha] at this
          rw [this]; exact (hD.mine a ha ho).2
        · exact hD.theirs a b ha ho hab.2.2.1 hab.2.2.2.1
      · refine ⟨hab.2.1, hab.2.2, hab.1.2.2.1, hab.1.2.2.2.1, fun ho => ?_⟩
        have := hab.1.2.2.2.2 ho
        dsimp only at this
        rwa [if_pos hab.2.1] at this
    · have := hc.falls (rk := rk) fun a b ⟨⟨h1, h2, h3, h4, h5⟩, ha, hb⟩ => by
        by_cases ho : g.own a = i
        · have h6 := h5 ho
          dsimp only at h6
          rw [if_neg ha] at h6
          rw [h6]; exact ((hr a h1 ha).1 ho).2.2
        · exact ((hr a h1 ha).2 ho b h3 h4).2
      omega

/-- i wins where it is attracted to its own greatest number, and where it wins all the rest. -/
theorem Dom.top {g : Duel} {i t : Int} {P : Nat → Prop} (hP : ∀ v, P v → ∃ u, u ∈ g.next v ∧ P u) (ht : ∀ v, P v → g.pr v ≤ t) (hi : t % 2 = i)
    (hR : Dom g i (fun v => P v ∧ ¬ Att g i P (fun v => g.pr v = t) v) (fun v => P v ∧ ¬ Att g i P (fun v => g.pr v = t) v)) : Dom g i P P := by
  classical
  obtain ⟨σ, hR⟩ := hR
  obtain ⟨rk, τ, hr⟩ := Att.ranked (g := g) (i := i) (P := P) (G := fun v => g.pr v = t)
  have h3 : ∀ v, ∃ u, P v → u ∈ g.next v ∧ P u := fun v => by
    by_cases h : P v
    · obtain ⟨u, hu⟩ := hP v h
      exact ⟨u, fun _ => hu⟩
    · exact ⟨0, fun a => absurd a h⟩
  let ρ := fun v => Classical.choose (h3 v)
  have hρ : ∀ v, P v → ρ v ∈ g.next v ∧ P (ρ v) := fun v => Classical.choose_spec (h3 v)
  refine ⟨fun v => if Att g i P (fun v => g.pr v = t) v then (if g.pr v = t then ρ v else τ v) else σ v, ⟨fun v hv => hv, fun v hv ho => ?_, fun v u _ _ _ h => h, fun v m hc => ?_⟩⟩
  · by_cases hA : Att g i P (fun v => g.pr v = t) v
    · simp only [if_pos hA]
      by_cases hG : g.pr v = t
      · simp only [if_pos hG]; exact hρ v hv
      · simp only [if_neg hG]
        have := (hr v hA hG).1 ho
        exact ⟨this.1, this.2.1.sub⟩
    · simp only [if_neg hA]
      have := hR.mine v ⟨hv, hA⟩ ho
      exact ⟨this.1, this.2.1⟩
  · rcases hc.cycle (Att g i P (fun v => g.pr v = t)) with ⟨x, hx, hc⟩ | hc
    · have key : ∀ {a b : Nat} {k : Int}, WalkM g.pr (Moves g i P P (fun v => if Att g i P (fun v => g.pr v = t) v then (if g.pr v = t then ρ v else τ v) else σ v)) a b k → Att g i P (fun v => g.pr v = t) a → k = t ∨ (Att g i P (fun v => g.pr v = t) b ∧ rk b < rk a) := by
        intro a b k h
        have step : ∀ {a b : Nat}, Moves g i P P (fun v => if Att g i P (fun v => g.pr v = t) v then (if g.pr v = t then ρ v else τ v) else σ v) a b → Att g i P (fun v => g.pr v = t) a → ¬ g.pr a = t → Att g i P (fun v => g.pr v = t) b ∧ rk b < rk a := by
          intro a b ⟨h1, h2, h3, h4, h5⟩ hA hG
          by_cases ho : g.own a = i
          · have h6 := h5 ho
            dsimp only at h6
            rw [if_pos hA, if_neg hG] at h6
            rw [h6]; exact ((hr a hA hG).1 ho).2
          · exact (hr a hA hG).2 ho b h3 h4
        induction h with
        | one h =>
          rename_i a b
          intro hA
          by_cases hG : g.pr a = t
          · exact .inl hG
          · exact .inr (step h hA hG)
        | cons h w ih =>
          rename_i a x b k
          intro hA
          have hk : k ≤ t := w.le fun a b h => ht a h.1
          have ha := ht a h.1
          by_cases hG : g.pr a = t
          · left; omega
          · obtain ⟨h1, h2⟩ := step h hA hG
            rcases ih h1 with e | ⟨h3, h4⟩
            · left; omega
            · exact .inr ⟨h3, Nat.lt_trans h4 h2⟩
      rcases key hc hx with e | ⟨_, h⟩
      · rw [e]; exact hi
      · omega
    · refine hR.good v m (hc.mono fun a b hab => ?_)
      obtain ⟨⟨h1, h2, h3, h4, h5⟩, ha, hb⟩ := hab
      refine ⟨⟨h1, ha⟩, ⟨h2, hb⟩, h3, ⟨h4, hb⟩, fun ho => ?_⟩
      have := h5 ho
      dsimp only at this
      rwa [if_neg ha] at this

/-- What i wins in a part that the other one cannot leave. -/
theorem Dom.trap {g : Duel} {i : Int} {P Q S : Nat → Prop} (hQ : ∀ v, Q v → P v) (hT : ∀ v u, Q v → g.own v ≠ i → u ∈ g.next v → P u → Q u) (h : Dom g i Q S) : Dom g i P S := by
  obtain ⟨σ, h⟩ := h
  refine ⟨σ, ⟨fun v hv => hQ v (h.sub v hv), h.mine, fun v u hv ho hu hP => h.theirs v u hv ho hu (hT v u (h.sub v hv) ho hu hP), fun v m hc => h.good v m (hc.mono fun a b hab => ?_)⟩⟩
  exact ⟨hab.1, hab.2.1, hab.2.2.1, h.sub _ hab.2.1, hab.2.2.2.2⟩
/-- .. and seen from a smaller part. -/
theorem Dom.less {g : Duel} {i : Int} {P Q S : Nat → Prop} (hQ : ∀ v, Q v → P v) (hS : ∀ v, S v → Q v) (h : Dom g i P S) : Dom g i Q S := by
  obtain ⟨σ, h⟩ := h
  exact ⟨σ, ⟨hS, h.mine, fun v u hv ho hu hP => h.theirs v u hv ho hu (hQ u hP), fun v m hc => h.good v m (hc.mono fun a b hab => ⟨hab.1, hab.2.1, hab.2.2.1, hQ _ hab.2.2.2.1, hab.2.2.2.2⟩)⟩⟩
theorem Dom.congr {g : Duel} {i : Int} {P S T : Nat → Prop} (h : Dom g i P S) (hST : ∀ v, S v ↔ T v) : Dom g i P T := by
  have : S = T := funext fun v => propext (hST v)
  rwa [this] at h
theorem Dom.congrP {g : Duel} {i : Int} {P Q S : Nat → Prop} (h : Dom g i P S) (hPQ : ∀ v, P v ↔ Q v) : Dom g i Q S := by
  have : P = Q := funext fun v => propext (hPQ v)
  rwa [this] at h
theorem Dom.none (g : Duel) (i : Int) (P : Nat → Prop) : Dom g i P (fun _ => False) := ⟨fun v => v, ⟨fun _ h => h.elim, fun _ h => h.elim, fun _ _ h => h.elim, fun v m h => by
  rcases h.first with ⟨h1, _⟩ | ⟨x, k, h1, _⟩
  · exact h1.1.elim
  · exact h1.1.elim⟩⟩

/-- Among more than n numbers below n two are equal. -/
theorem two_equal (n : Nat) (f : Nat → Nat) (h : ∀ k, k ≤ n → f k < n) : ∃ a b, a < b ∧ b ≤ n ∧ f a = f b := by
  induction n generalizing f with
  | zero => exact absurd (h 0 (Nat.le_refl _)) (Nat.not_lt_zero _)
  | succ n ih =>
    by_cases hl : ∃ a, a ≤ n ∧ f a = f (n + 1)
    · obtain ⟨a, ha, e⟩ := hl
      exact ⟨a, n + 1, by omega, Nat.le_refl _, e⟩
    · -- the numbers but the last: those equal to n are set to the last one's
      have hne : ∀ a, a ≤ n → f a ≠ f (n + 1) := fun a ha e => hl ⟨a, ha, e⟩
      have hlast := h (n + 1) (Nat.le_refl _)
      obtain ⟨a, b, hab, hbn, e⟩ := ih (fun k => if f k = n then f (n + 1) else f k) fun k hk => by
        have h1 := h k (by omega)
        have h2 := hne k hk
        by_cases e : f k = n
        · simp only [e, if_true]; omega
        · simp only [e, if_false]; omega
      refine ⟨a, b, hab, by omega, ?_⟩
      have ha := hne a (by omega)
      have hb := hne b (by omega)
      by_cases ea : f a = n
      · by_cases eb : f b = n
        · omega
        · simp only [ea, eb, if_true, if_false] at e; omega
      · by_cases eb : f b = n
        · simp only [ea, eb, if_true, if_false] at e; omega
        · simp only [ea, eb, if_false] at e; exact e

def iter (f : Nat → Nat) : Nat → Nat → Nat
  | 0, v => v
  | k + 1, v => f (iter f k v)
theorem iter_walk {pr : Nat → Int} {R : Nat → Nat → Prop} {f : Nat → Nat} {v : Nat} (h : ∀ k, R (iter f k v) (iter f (k + 1) v)) (a d : Nat) : ∃ m, WalkM pr R (iter f a v) (iter f (a + d + 1) v) m := by
  induction d generalizing a with
  | zero => exact ⟨_, .one (h a)⟩
  | succ d ih =>
    obtain ⟨m, hm⟩ := ih (a + 1)
    have := WalkM.cons (h a) hm
    rw [show a + 1 + d + 1 = a + (d + 1) + 1 by omega] at this
    exact ⟨_, this⟩
/-- Nobody wins where the other one wins. -/
theorem Dom.apart {g : Duel} {n : Nat} {P S T : Nat → Prop} {i j : Int} (hij : i ≠ j) (hown : ∀ v, P v → g.own v = i ∨ g.own v = j) (hn : ∀ v, P v → v < n) (hS : Dom g i P S) (hT : Dom g j P T) {v : Nat} (h1 : S v) (h2 : T v) : False := by
  obtain ⟨σ, hS⟩ := hS
  obtain ⟨τ, hT⟩ := hT
  let f := fun v => if g.own v = i then σ v else τ v
  have inv : ∀ k, S (iter f k v) ∧ T (iter f k v) := by
    intro k
    induction k with
    | zero => exact ⟨h1, h2⟩
    | succ k ih =>
      obtain ⟨a, b⟩ := ih
      show S (f (iter f k v)) ∧ T (f (iter f k v))
      have hP := hS.sub _ a
      by_cases ho : g.own (iter f k v) = i
      · have e : f (iter f k v) = σ (iter f k v) := if_pos ho
        rw [e]
        have := hS.mine _ a ho
        exact ⟨this.2, hT.theirs _ _ b (by rw [ho]; exact hij) this.1 (hS.sub _ this.2)⟩
      · have e : f (iter f k v) = τ (iter f k v) := if_neg ho
        rw [e]
        have := hT.mine _ b ((hown _ hP).resolve_left ho)
        exact ⟨hS.theirs _ _ a ho this.1 (hT.sub _ this.2), this.2⟩
  have mv : ∀ k, (Moves g i P S σ (iter f k v) (iter f (k + 1) v)) ∧ (Moves g j P T τ (iter f k v) (iter f (k + 1) v)) := by
    intro k
    obtain ⟨a, b⟩ := inv k
    obtain ⟨a', b'⟩ := inv (k + 1)
    have hP := hS.sub _ a
    have hE : iter f (k + 1) v ∈ g.next (iter f k v) := by
      show f (iter f k v) ∈ _
      by_cases ho : g.own (iter f k v) = i
      · rw [show f (iter f k v) = σ (iter f k v) from if_pos ho]; exact (hS.mine _ a ho).1
      · rw [show f (iter f k v) = τ (iter f k v) from if_neg ho]; exact (hT.mine _ b ((hown _ hP).resolve_left ho)).1
    refine ⟨⟨a, a', hE, hS.sub _ a', fun ho => if_pos ho⟩, ⟨b, b', hE, hT.sub _ b', fun ho => if_neg (by rw [ho]; exact fun e => hij e.symm)⟩⟩
  obtain ⟨a, b, hab, _, e⟩ := two_equal n (fun k => iter f k v) fun k _ => hn _ (hS.sub _ (inv k).1)
  obtain ⟨m, hm⟩ := iter_walk (pr := g.pr) (R := fun x y => Moves g i P S σ x y ∧ Moves g j P T τ x y) (f := f) (v := v) mv a (b - a - 1)
  rw [show a + (b - a - 1) + 1 = b by omega, ← show iter f a v = iter f b v from e] at hm
  have e1 := hS.good _ _ (hm.mono fun _ _ h => h.1)
  have e2 := hT.good _ _ (hm.mono fun _ _ h => h.2)
  exact hij (e1.symm.trans e2)

/-- W0 and W1 are what the two players win in P. -/
structure Sol (g : Duel) (P W0 W1 : Nat → Prop) : Prop where
  even : Dom g 0 P W0
  odd : Dom g 1 P W1
  all : ∀ v, P v → W0 v ∨ W1 v
theorem Sol.unique {g : Duel} {n : Nat} {P W0 W1 V0 V1 : Nat → Prop} (hown : ∀ v, P v → g.own v = 0 ∨ g.own v = 1) (hn : ∀ v, P v → v < n) (h : Sol g P W0 W1) (k : Sol g P V0 V1) (v : Nat) : (W0 v ↔ V0 v) ∧ (W1 v ↔ V1 v) := by
  have h01 : ∀ {A B : Nat → Prop}, Dom g 0 P A → Dom g 1 P B → A v → B v → False := fun hA hB => Dom.apart (by decide) hown hn hA hB
  have hP0 : ∀ {A : Nat → Prop} {i : Int}, Dom g i P A → A v → P v := fun ⟨_, h⟩ => h.sub v
  refine ⟨⟨fun a => ?_, fun a => ?_⟩, ⟨fun a => ?_, fun a => ?_⟩⟩
  · exact (k.all v (hP0 h.even a)).resolve_right fun b => h01 h.even k.odd a b
  · exact (h.all v (hP0 k.even a)).resolve_right fun b => h01 k.even h.odd a b
  · exact (k.all v (hP0 h.odd a)).resolve_left fun b => h01 k.even h.odd b a
  · exact (h.all v (hP0 k.odd a)).resolve_left fun b => h01 h.even k.odd b a
end Go.Proofs.Ytigjhhcndigncaa
