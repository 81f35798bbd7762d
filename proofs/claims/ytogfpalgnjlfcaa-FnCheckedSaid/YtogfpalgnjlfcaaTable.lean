/- What a law by dice holds in its hands: the dice, and a game that it drew, in a variable. No condition. -/
import Derived.Test.YtogfpalgnjlfcaaDicePlan
import Derived.Test.YtogfpalgnjlfcaaFixedWalks
namespace Go.Proofs.Ytogfpalgnjlfcaa
set_option linter.unusedSimpArgs false
set_option linter.unusedVariables false
open Go.RowKit

theorem OP.chgC {w w' : World} {B M C : Nat} {v : Value} {g : ParityD} (h : OP w B M v g) (hc : Chg (fun b => b = C) w w') (hC : C < B) : OP w' B M v g := by
  obtain ⟨o, n, p, vs, rfl, h1, h2, h3, h4, h5, h6⟩ := h
  exact ⟨o, n, p, vs, rfl, h1.chg hc fun b hb e => by have := (h1.1.lt b hb).1; omega, h2.chg hc (fun b hb e => by have := (h2.own.lt b hb).1; omega) (fun j hj b hb e => by have := ((h2.row j hj).1.lt b hb).1; omega), h3.chg hc fun b hb e => by have := (h3.1.lt b hb).1; omega, h4, h5, h6⟩
theorem OP.oa {w : World} {B M : Nat} {o nx p : Value} {g : ParityD} (h : OP w B M (.agg #[o, nx, p]) g) : OA w B M (.agg #[o, nx]) g.arena ∧ OI w B M p g.prio := by
  obtain ⟨o', n', p', vs, he, h1, h2, h3, h4, h5, h6⟩ := h
  simp only [Value.agg.injEq, Array.mk.injEq, List.cons.injEq, and_true] at he
  obtain ⟨rfl, rfl, rfl⟩ := he
  exact ⟨⟨o, nx, vs, rfl, h1, h2, h4⟩, h3⟩
structure Tab (w : World) (C : Nat) (v : Value) (n D X : Nat) (o nx p : Value) (g : ParityD) : Prop where
  die : Die w C v n
  game : OP w D X (.agg #[o, nx, p]) g
  box : Arr w X 32 [o, nx, p]
  lt : C < D
  le : D ≤ X
section
variable {w w' : World} {C n D X : Nat} {v o nx p : Value} {g : ParityD}
theorem Tab.rolled (h : Tab w C v n D X o nx p g) (k : Rolled w w' C v n) : Tab w' C v n D X o nx p g :=
  have h1 := h.lt
  have h2 := h.le
  ⟨k.1, h.game.chgC k.2 h.lt, (k.2.block X h.box.lt (by omega)).trans h.box, h.lt, h.le⟩
theorem Tab.below (h : Tab w C v n D X o nx p g) (k : Below w.heap.size w w') : Tab w' C v n D X o nx p g := ⟨h.die.below k, h.game.below k, h.box.below k h.box.lt, h.lt, h.le⟩
theorem Tab.arena (h : Tab w C v n D X o nx p g) : IsArena w (.agg #[o, nx]) g.arena := h.game.oa.1.arena
theorem Tab.prio (h : Tab w C v n D X o nx p g) : Ints w p g.prio := h.game.oa.2.ints
theorem Tab.size (h : Tab w C v n D X o nx p g) : X ≤ w.heap.size := Nat.le_of_lt h.box.lt
theorem Tab.parity (h : Tab w C v n D X o nx p g) : IsParity w (.agg #[o, nx, p]) g := h.game.parity
theorem Die.underB {G : Nat} (h : Die w C v n) (hb : Below G w w') (hC : C < G) (hy : Bytes w' v n) : Die w' C v n := by
  obtain ⟨⟨i, x, hA, hi⟩, _, h3, h4⟩ := h
  exact ⟨⟨i, x, (hb.block C hC).trans hA, hi⟩, hy, h3, h4⟩
theorem Tab.underB {G : Nat} (h : Tab w C v n D X o nx p g) (hb : Below G w w') (hX : X < G) (hy : Bytes w' v n) : Tab w' C v n D X o nx p g := by
  have h1 := h.lt
  have h2 := h.le
  refine ⟨h.die.underB hb (by omega) hy, ?_, (hb.block X hX).trans h.box, h.lt, h.le⟩
  obtain ⟨o', n', p', vs, he, k1, k2, k3, k4⟩ := h.game
  exact ⟨o', n', p', vs, he, k1.under (hb.mono (by omega)), k2.under (hb.mono (by omega)), k3.under (hb.mono (by omega)), k4⟩
/-- A game has been drawn and is laid into a variable. -/
theorem Tab.new {w w2 : World} (hr : Rolled w w2 C v n) (hC : C < w.heap.size) (h : OP w2 w.heap.size w2.heap.size (.agg #[o, nx, p]) g) : Tab (w2.alloc (.cells #[o, nx, p] 32)) C v n w.heap.size w2.heap.size o nx p g :=
  have hb := (Below.refl w2.heap.size w2).alloc (Nat.le_refl _) (.cells #[o, nx, p] 32)
  ⟨hr.1.below hb, h.below hb, Arr.new _ _ _, hC, hr.2.size⟩
end
end Go.Proofs.Ytogfpalgnjlfcaa
