/- A parity game that a call makes for itself in a local variable, vertex by vertex. No condition. -/
import Derived.Test.YtogfpalgnjlfcaaGrow
import Derived.Test.YtogfpalgnjlfcaaDie
namespace Go.Proofs.Ytogfpalgnjlfcaa
set_option linter.unusedSimpArgs false
set_option linter.unusedVariables false
open Go.RowKit

/-- In block X lies a game whose owners, rows and priorities are the call's own, all behind X. -/
structure GrowP (w : World) (X : Nat) (ov nv pv : Value) (vs : List Value) (l1 : List Int) (l2 : List (List Int)) (l3 : List Int) : Prop where
  box : Arr w X 32 [ov, nv, pv]
  own : OwnInts w (X + 1) ov l1
  rows : RowsV w (X + 1) w.heap.size nv vs l2
  pr : OwnInts w (X + 1) pv l3
  dis : ∀ b, ov.ownBlock = some b → ∀ j, j < l2.length → (vx vs j).ownBlock ≠ some b
  dis1 : ∀ b, ov.ownBlock = some b → pv.ownBlock ≠ some b
  dis2 : ∀ b, pv.ownBlock = some b → ∀ j, j < l2.length → (vx vs j).ownBlock ≠ some b

section
variable {w w' : World} {X : Nat} {ov nv pv : Value} {vs : List Value} {l1 : List Int} {l2 : List (List Int)} {l3 : List Int}
theorem GrowP.below (h : GrowP w X ov nv pv vs l1 l2 l3) (hb : Below w.heap.size w w') : GrowP w' X ov nv pv vs l1 l2 l3 :=
  ⟨h.box.below hb h.box.lt, h.own.below hb (Nat.le_refl _), (h.rows.kept (Only.of_below (B := w.heap.size) (C := w.heap.size) hb) (.inl (Nat.le_refl _))).mono (Nat.le_refl _) hb.size, h.pr.below hb (Nat.le_refl _), h.dis, h.dis1, h.dis2⟩
theorem GrowP.new (w : World) (X : Nat) (hX : w.heap.size = X) : GrowP (w.alloc (.cells #[.slice none 0 0, .slice none 0 0, .slice none 0 0] 32)) X (.slice none 0 0) (.slice none 0 0) (.slice none 0 0) [] [] [] [] := by
  subst hX
  exact ⟨Arr.new _ _ _, OwnInts.nil _ _, nil_rows _ _ _, OwnInts.nil _ _, fun b hb => by simp [Value.ownBlock] at hb, fun b hb => by simp [Value.ownBlock] at hb, fun b hb => by simp [Value.ownBlock] at hb⟩
theorem GrowP.row_lt (h : GrowP w X ov nv pv vs l1 l2 l3) {j : Nat} (hj : j < l2.length) {b : Nat} (hb : (vx vs j).ownBlock = some b) : X + 1 ≤ b ∧ b < w.heap.size :=
  ⟨((h.rows.row j hj).1.lt b hb).1, (h.rows.row j hj).2 b hb⟩
theorem GrowP.chg {C : Nat} (h : GrowP w X ov nv pv vs l1 l2 l3) (hC : C < X) (hc : Chg (fun b => b = C) w w') : GrowP w' X ov nv pv vs l1 l2 l3 :=
  ⟨(hc.block X h.box.lt (by omega)).trans h.box, ((OI.of h.own).chg hc fun b hb e => by have := (h.own.lt b hb).1; omega).1,
    (h.rows.chg hc (fun b hb e => by have := (h.rows.own.lt b hb).1; omega) (fun j hj b hb e => by have := (h.row_lt hj hb).1; omega)).mono (Nat.le_refl _) hc.size,
    ((OI.of h.pr).chg hc fun b hb e => by have := (h.pr.lt b hb).1; omega).1, h.dis, h.dis1, h.dis2⟩
/-- The rows, when another block than theirs has grown. -/
theorem GrowP.rows_grown (h : GrowP w X ov nv pv vs l1 l2 l3) {w7 : World} {row : Option Nat} (hg : w.grownBy w7 row) (h1 : ∀ b, row = some b → nv.ownBlock ≠ some b) (h2 : ∀ b, row = some b → ∀ j, j < l2.length → (vx vs j).ownBlock ≠ some b) : RowsV w7 (X + 1) w7.heap.size nv vs l2 :=
  (h.rows.heap (fun b hb => hg.block b (h.rows.own.lt b hb).2 fun e => h1 b e.symm hb) (fun j hj b hb => hg.block b ((h.rows.row j hj).1.lt b hb).2 fun e => h2 b e.symm j hj hb)).mono (Nat.le_refl _) hg.size
theorem rows_setCell {w : World} {X k : Nat} {nv : Value} {vs : List Value} {l2 : List (List Int)} (h : RowsV w (X + 1) w.heap.size nv vs l2) (u : Value) : RowsV (w.setCell ⟨X, k, none⟩ u) (X + 1) (w.setCell ⟨X, k, none⟩ u).heap.size nv vs l2 := by
  have := h.heap (w' := w.setCell ⟨X, k, none⟩ u) (fun b hb => Below.heap_setCell _ _ _ _ (by have := (h.own.lt b hb).1; simp; omega)) (fun j hj b hb => Below.heap_setCell _ _ _ _ (by have := ((h.row j hj).1.lt b hb).1; simp; omega))
  have hs : (w.setCell ⟨X, k, none⟩ u).heap.size = w.heap.size := by simp
  rw [hs]; exact this
/-- One owner more. -/
theorem GrowP.own1 (h : GrowP w X ov nv pv vs l1 l2 l3) {ov' : Value} {y : Int} {w7 : World} (ho : OwnInts w7 (X + 1) ov' (l1 ++ [y])) (hg : w.grownBy w7 ov.ownBlock) (hd : ov'.ownBlock = ov.ownBlock ∨ ov'.ownBlock = some (w.heap.size + 1)) :
    GrowP (w7.setCell ⟨X, 0, none⟩ ov') X ov' nv pv vs (l1 ++ [y]) l2 l3 := by
  have hX7 : Arr w7 X 32 [ov, nv, pv] := h.box.kept' hg fun e => by have := (h.own.lt _ e.symm).1; omega
  have hr7 := h.rows_grown hg (fun b e hb => owns_ne h.own h.rows.own (fun e => row_type_ne e.symm) e hb) (fun b e j hj hb => h.dis b e j hj hb)
  have hp7 : OwnInts w7 (X + 1) pv l3 := h.pr.heap fun b hb => hg.block b (h.pr.lt b hb).2 fun e => h.dis1 b e.symm hb
  have hnew : ∀ b, ov'.ownBlock = some b → ov.ownBlock = some b ∨ w.heap.size ≤ b := fun b hb => by
    rcases hd with e | e
    · exact .inl (e ▸ hb)
    · rw [e] at hb; simp only [Option.some.injEq] at hb; right; omega
  refine ⟨hX7.set_ 0 ov', ho.far (by simp) _, rows_setCell hr7 ov', hp7.far (by simp) _, fun b hb j hj hb2 => ?_, fun b hb hb2 => ?_, h.dis2⟩
  · rcases hnew b hb with e | e
    · exact h.dis b e j hj hb2
    · have := (h.row_lt hj hb2).2; omega
  · rcases hnew b hb with e | e
    · exact h.dis1 b e hb2
    · have := (h.pr.lt b hb2).2; omega
/-- One priority more. -/
theorem GrowP.pr1 (h : GrowP w X ov nv pv vs l1 l2 l3) {pv' : Value} {y : Int} {w7 : World} (ho : OwnInts w7 (X + 1) pv' (l3 ++ [y])) (hg : w.grownBy w7 pv.ownBlock) (hd : pv'.ownBlock = pv.ownBlock ∨ pv'.ownBlock = some (w.heap.size + 1)) :
    GrowP (w7.setCell ⟨X, 2, none⟩ pv') X ov nv pv' vs l1 l2 (l3 ++ [y]) := by
  have hX7 : Arr w7 X 32 [ov, nv, pv] := h.box.kept' hg fun e => by have := (h.pr.lt _ e.symm).1; omega
  have hr7 := h.rows_grown hg (fun b e hb => owns_ne h.pr h.rows.own (fun e => row_type_ne e.symm) e hb) (fun b e j hj hb => h.dis2 b e j hj hb)
  have hp7 : OwnInts w7 (X + 1) ov l1 := h.own.heap fun b hb => hg.block b (h.own.lt b hb).2 fun e => h.dis1 b hb e.symm
  have hnew : ∀ b, pv'.ownBlock = some b → pv.ownBlock = some b ∨ w.heap.size ≤ b := fun b hb => by
    rcases hd with e | e
    · exact .inl (e ▸ hb)
    · rw [e] at hb; simp only [Option.some.injEq] at hb; right; omega
  refine ⟨hX7.set_ 2 pv', hp7.far (by simp) _, rows_setCell hr7 pv', ho.far (by simp) _, h.dis, fun b hb hb2 => ?_, fun b hb j hj hb2 => ?_⟩
  · rcases hnew b hb2 with e | e
    · exact h.dis1 b hb e
    · have := (h.own.lt b hb).2; omega
  · rcases hnew b hb with e | e
    · exact h.dis2 b e j hj hb2
    · have := (h.row_lt hj hb2).2; omega
/-- One row more. -/
theorem GrowP.row1 (h : GrowP w X ov nv pv vs l1 l2 l3) {N nv' : Value} {row : List Int} {w9 : World} (hN : OI w (X + 1) w.heap.size N row) (hNo : ∀ b, N.ownBlock = some b → ov.ownBlock ≠ some b ∧ pv.ownBlock ≠ some b ∧ ∀ j, j < l2.length → (vx vs j).ownBlock ≠ some b)
    (ho : w9.ownsRow (X + 1) 27 1 nv' (l2.length + 1) (vs ++ [N])) (hg : w.grownBy w9 nv.ownBlock) : GrowP (w9.setCell ⟨X, 1, none⟩ nv') X ov nv' pv (vs ++ [N]) l1 (l2 ++ [row]) l3 := by
  have hX9 : Arr w9 X 32 [ov, nv, pv] := h.box.kept' hg fun e => by have := (h.rows.own.lt _ e.symm).1; omega
  have hr9 := RowsV.snoc h.rows hN (fun j hj b hb e => (hNo b e).2.2 j hj hb) ho hg hg.size (Nat.le_refl _)
  have ho9 : OwnInts w9 (X + 1) ov l1 := h.own.heap fun b hb => hg.block b (h.own.lt b hb).2 fun e => owns_ne h.rows.own h.own row_type_ne e.symm hb
  have hp9 : OwnInts w9 (X + 1) pv l3 := h.pr.heap fun b hb => hg.block b (h.pr.lt b hb).2 fun e => owns_ne h.rows.own h.pr row_type_ne e.symm hb
  have hl := h.rows.len
  refine ⟨hX9.set_ 1 nv', ho9.far (by simp) _, rows_setCell hr9 nv', hp9.far (by simp) _, fun b hb j hj hb2 => ?_, h.dis1, fun b hb j hj hb2 => ?_⟩
  · rw [List.length_append, List.length_singleton] at hj
    by_cases e : j = l2.length
    · rw [e, ← hl, vx_snoc_eq] at hb2
      exact (hNo b hb2).1 hb
    · rw [vx_snoc_lt (by omega)] at hb2
      exact h.dis b hb j (by omega) hb2
  · rw [List.length_append, List.length_singleton] at hj
    by_cases e : j = l2.length
    · rw [e, ← hl, vx_snoc_eq] at hb2
      exact (hNo b hb2).2.1 hb
    · rw [vx_snoc_lt (by omega)] at hb2
      exact h.dis2 b hb j (by omega) hb2
/-- As a value. -/
theorem GrowP.parity (h : GrowP w X ov nv pv vs l1 l2 l3) {B : Nat} (hB : B ≤ X) : OP w B w.heap.size (.agg #[ov, nv, pv]) ⟨⟨l1, l2⟩, l3⟩ :=
  ⟨ov, nv, pv, vs, rfl, (OI.of h.own).mono (by omega) (Nat.le_refl _), h.rows.mono (by omega) (Nat.le_refl _), (OI.of h.pr).mono (by omega) (Nat.le_refl _), h.dis, fun b hb e => h.dis1 b e hb, h.dis2⟩
theorem GrowP.forms (h : GrowP w X ov nv pv vs l1 l2 l3) : ∃ A c A' c' A2 c2, ov = .slice A l1.length c ∧ nv = .slice A' l2.length c' ∧ pv = .slice A2 l3.length c2 := by
  obtain ⟨A, c, e1, _⟩ := h.own.ints.form
  obtain ⟨A', c', e2⟩ := h.rows.form
  obtain ⟨A2, c2, e3, _⟩ := h.pr.ints.form
  exact ⟨A, c, A', c', A2, c2, e1, e2, e3⟩
end
end Go.Proofs.Ytogfpalgnjlfcaa
