/- An arena that a call makes for itself in a local variable, vertex by vertex. No condition. -/
import Derived.Test.YtpnophmanpfejaaRankWalks2
import Derived.Test.YtpnophmanpfejaaFixedWalks
import Derived.Test.YtpnophmanpfejaaOnlyWalks2
namespace Go.Proofs.Ytpnophmanpfejaa
set_option linter.unusedSimpArgs false
set_option linter.unusedVariables false
open Go.RowKit

/-- append of one int64 to a row of the call's own, as one step of a region that draws. -/
theorem step_append_int {ops : Array Oper} {o : Oper} {a : Act} {K : Act → World → Prop} {Q : Exit → Act → World → Prop} {F : Prop} (w0 : World) (hgd : o.guard = none) (s x : Operand)
    (ho : o.op = .call { callee := .builtin .append, args := #[s, x], argTypes := #[22, 22] })
    (B : Nat) (v : Value) (l : List Int) (hs : a.eval s = v) (hown : OwnInts w0 B v l) (y : Int)
    (hx : a.eval x = .slice (some ⟨w0.heap.size, 0, none⟩) 1 1) (hn : l.length ≤ 1048576) (hB : B ≤ w0.heap.size)
    (h : ∀ v' w', OwnInts w' B v' (l ++ [y]) → w0.grownBy w' v.ownBlock → (v'.ownBlock = v.ownBlock ∨ v'.ownBlock = some (w0.heap.size + 1)) → K (a.put o.dst v') w') :
    if Region.wanted o (yielded ops a.tmps) = true then Oper.wp Try.prog o a (w0.alloc (.cells #[.int .i64 y] 2)) K Q else F := by
  refine step_append_one elem_int64 w0 hgd s x ho B v l.length _ hs hown (.int .i64 y) rfl hx hn hB fun v' w' h1 h2 h3 => h v' w' ?_ h2 h3
  unfold OwnInts
  rw [List.map_append, List.length_append]
  exact h1
theorem vx_snoc_lt {vs : List Value} {y : Value} {j : Nat} (h : j < vs.length) : vx (vs ++ [y]) j = vx vs j := by
  rw [vx_lt (by simp; omega), vx_lt h, List.getElem_append_left h]
theorem vx_snoc_eq {vs : List Value} {y : Value} : vx (vs ++ [y]) vs.length = y := by
  rw [vx_lt (by simp), List.getElem_append_right (Nat.le_refl _)]; simp
theorem OwnInts.heap {w w' : World} {B : Nat} {v : Value} {l : List Int} (h : OwnInts w B v l) (hh : ∀ b, v.ownBlock = some b → w'.heap[b]? = w.heap[b]?) : OwnInts w' B v l := ((OI.of h).heap hh).1

/-- In block X lies an arena whose owners and rows are the call's own, all behind X. -/
structure Grow (w : World) (X : Nat) (ov nv : Value) (vs : List Value) (l1 : List Int) (l2 : List (List Int)) : Prop where
  box : Arr w X 30 [ov, nv]
  own : OwnInts w (X + 1) ov l1
  rows : RowsV w (X + 1) w.heap.size nv vs l2
  dis : ∀ b, ov.ownBlock = some b → ∀ j, j < l2.length → (vx vs j).ownBlock ≠ some b

variable {w w' : World} {X : Nat} {ov nv : Value} {vs : List Value} {l1 : List Int} {l2 : List (List Int)}
theorem Grow.below (h : Grow w X ov nv vs l1 l2) (hb : Below w.heap.size w w') : Grow w' X ov nv vs l1 l2 :=
  ⟨h.box.below hb h.box.lt, h.own.below hb (Nat.le_refl _), (h.rows.kept (Only.of_below (B := w.heap.size) (C := w.heap.size) hb) (.inl (Nat.le_refl _))).mono (Nat.le_refl _) hb.size, h.dis⟩
theorem Grow.new (w : World) (X : Nat) (hX : w.heap.size = X) : Grow (w.alloc (.cells #[.slice none 0 0, .slice none 0 0] 30)) X (.slice none 0 0) (.slice none 0 0) [] [] [] := by
  subst hX
  exact ⟨Arr.new _ _ _, OwnInts.nil _ _, nil_rows _ _ _, fun b hb => by simp [Value.ownBlock] at hb⟩
/-- The blocks of the rows. -/
theorem Grow.row_lt (h : Grow w X ov nv vs l1 l2) {j : Nat} (hj : j < l2.length) {b : Nat} (hb : (vx vs j).ownBlock = some b) : X + 1 ≤ b ∧ b < w.heap.size :=
  ⟨((h.rows.row j hj).1.lt b hb).1, (h.rows.row j hj).2 b hb⟩
/-- One owner more. -/
theorem Grow.own1 (h : Grow w X ov nv vs l1 l2) {ov' : Value} {y : Int} {w7 : World} (ho : OwnInts w7 (X + 1) ov' (l1 ++ [y])) (hg : w.grownBy w7 ov.ownBlock) (hd : ov'.ownBlock = ov.ownBlock ∨ ov'.ownBlock = some (w.heap.size + 1)) :
    Grow (w7.setCell ⟨X, 0, none⟩ ov') X ov' nv vs (l1 ++ [y]) l2 := by
  have hX7 : Arr w7 X 30 [ov, nv] := h.box.kept' hg fun e => by have := (h.own.lt _ e.symm).1; omega
  have hr7 : RowsV w7 (X + 1) w7.heap.size nv vs l2 := (h.rows.heap (fun b hb => hg.block b (h.rows.own.lt b hb).2 fun e => owns_ne h.own h.rows.own (fun e => row_type_ne e.symm) e.symm hb)
    (fun j hj b hb => hg.block b ((h.rows.row j hj).1.lt b hb).2 fun e => h.dis b e.symm j hj hb)).mono (Nat.le_refl _) hg.size
  refine ⟨hX7.set_ 0 ov', ho.far (by simp) _, ?_, fun b hb j hj hb2 => ?_⟩
  · have := hr7.heap (w' := w7.setCell ⟨X, 0, none⟩ ov') (fun b hb => Below.heap_setCell _ _ _ _ (by have := (hr7.own.lt b hb).1; simp; omega)) (fun j hj b hb => Below.heap_setCell _ _ _ _ (by have := ((hr7.row j hj).1.lt b hb).1; simp; omega))
    have hs : (w7.setCell ⟨X, 0, none⟩ ov').heap.size = w7.heap.size := by simp
    rw [hs]; exact this
  · rcases hd with e | e
    · exact h.dis b (e ▸ hb) j hj hb2
    · rw [e] at hb
      have := (h.row_lt hj hb2).2
      simp only [Option.some.injEq] at hb
      omega
/-- One row more. -/
theorem Grow.row1 (h : Grow w X ov nv vs l1 l2) {N nv' : Value} {row : List Int} {w9 : World} (hN : OI w (X + 1) w.heap.size N row) (hNo : ∀ b, N.ownBlock = some b → ov.ownBlock ≠ some b ∧ ∀ j, j < l2.length → (vx vs j).ownBlock ≠ some b)
    (ho : w9.ownsRow (X + 1) 22 1 nv' (l2.length + 1) (vs ++ [N])) (hg : w.grownBy w9 nv.ownBlock) : Grow (w9.setCell ⟨X, 1, none⟩ nv') X ov nv' (vs ++ [N]) l1 (l2 ++ [row]) := by
  have hX9 : Arr w9 X 30 [ov, nv] := h.box.kept' hg fun e => by have := (h.rows.own.lt _ e.symm).1; omega
  have hr9 := RowsV.snoc h.rows hN (fun j hj b hb e => (hNo b e).2 j hj hb) ho hg hg.size (Nat.le_refl _)
  have ho9 : OwnInts w9 (X + 1) ov l1 := h.own.heap fun b hb => hg.block b (h.own.lt b hb).2 fun e => owns_ne h.rows.own h.own row_type_ne e.symm hb
  refine ⟨hX9.set_ 1 nv', ho9.far (by simp) _, ?_, fun b hb j hj hb2 => ?_⟩
  · have := hr9.heap (w' := w9.setCell ⟨X, 1, none⟩ nv') (fun b hb => Below.heap_setCell _ _ _ _ (by have := (hr9.own.lt b hb).1; simp; omega)) (fun j hj b hb => Below.heap_setCell _ _ _ _ (by have := ((hr9.row j hj).1.lt b hb).1; simp; omega))
    have hs : (w9.setCell ⟨X, 1, none⟩ nv').heap.size = w9.heap.size := by simp
    rw [hs]; exact this
  · have hl := h.rows.len
    rw [List.length_append, List.length_singleton] at hj
    by_cases e : j = l2.length
    · rw [e, ← hl, vx_snoc_eq] at hb2
      exact (hNo b hb2).1 hb
    · rw [vx_snoc_lt (by omega)] at hb2
      exact h.dis b hb j (by omega) hb2
/-- As a value. -/
theorem Grow.arena (h : Grow w X ov nv vs l1 l2) {B : Nat} (hB : B ≤ X) : OA w B w.heap.size (.agg #[ov, nv]) ⟨l1, l2⟩ :=
  ⟨ov, nv, vs, rfl, (OI.of h.own).mono (by omega) (Nat.le_refl _), h.rows.mono (by omega) (Nat.le_refl _), h.dis⟩
theorem Grow.forms (h : Grow w X ov nv vs l1 l2) : ∃ A c A' c', ov = .slice A l1.length c ∧ nv = .slice A' l2.length c' := by
  obtain ⟨A, c, e1, _⟩ := h.own.ints.form
  obtain ⟨A', c', e2⟩ := h.rows.form
  exact ⟨A, c, A', c', e1, e2⟩
end Go.Proofs.Ytpnophmanpfejaa
