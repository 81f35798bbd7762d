/- append and make at this program's element types: the laws in the words of Mem. Condition: the lengths are below 2^40. -/
import Derived.Test.YtpnophmanpfejaaMem
import Derived.Test.YtpnophmanpfejaaChecked
import Derived.Maps.AppendAt
import Derived.OwnWalk
namespace Go.Proofs.Ytpnophmanpfejaa
set_option linter.unusedSimpArgs false
set_option linter.unusedVariables false
open Go.RowKit

/-- t is the slice type over e, and a value of type e is one cell, z the zero one. -/
structure Elem (t e : TypeId) (z : Value) : Prop where
  ht : Try.prog.underlying t = some (.slice e)
  hi : ∃ i, Try.prog.info? e = some i ∧ i.zero = some z ∧ i.size = 1 ∧ i.bytes ≤ 24
  hz : z.cells = #[z]

theorem Elem.mk' {t e : TypeId} {z : Value} {b : Nat} (ht : Try.prog.underlying t = some (.slice e)) (hi : (Try.prog.info? e).map (fun i => (i.zero, i.size, i.bytes)) = some (some z, 1, b)) (hb : b ≤ 24) (hz : z.cells = #[z]) : Elem t e z := by
  refine ⟨ht, ?_, hz⟩
  obtain ⟨i0, h0, h1, h2, h3⟩ := info_parts hi
  exact ⟨i0, h0, h1, h2, by omega⟩

theorem int64_info : (Try.prog.info? 2).map (fun i => (i.zero, i.size, i.bytes)) = some (some (.int .i64 0), 1, 8) := by kernel_rfl
theorem elem_int64 : Elem 22 2 (.int .i64 0) := Elem.mk' Try.underlying22 int64_info (by omega) rfl

theorem make_one {t e : TypeId} {z : Value} (E : Elem t e z) (n : Nat) (hn : n ≤ 1099511627776) (w : World) :
    (Instr.makeSlice t (.int .i64 (n : Int)) (.int .i64 (n : Int))).run Try.prog w = .ok (.slice (some ⟨w.heap.size, 0, none⟩) n n) (w.alloc (.cells (zeros z n).toArray e)) := by
  obtain ⟨i0, hi, hz0, hz1, hz2⟩ := E.hi
  exact run_make_zeros _ _ i0 _ E.ht hi hz0 hz1 E.hz hz2 n hn w

/-- 'append(s, y)', y one value: the row s of the call's own has one element more. -/
theorem append_one {ops : Array Oper} {rest : List Oper} {o : Oper} {a : Act} {Q : Exit → Act → World → Prop} {t e : TypeId} {z : Value} (E : Elem t e z) (w0 : World) (hgd : o.guard = none) (s x : Operand)
    (ho : o.op = .call { callee := .builtin .append, args := #[s, x], argTypes := #[t, t] })
    (B : Nat) (v : Value) (n : Nat) (xs : List Value) (hs : a.eval s = v) (hown : w0.ownsRow B e 1 v n xs) (y : Value) (hy : y.oneCell' = true)
    (hx : a.eval x = .slice (some ⟨w0.heap.size, 0, none⟩) 1 1) (hn : n ≤ 1099511627776) (hB : B ≤ w0.heap.size)
    (h : ∀ v' w', w'.ownsRow B e 1 v' (n + 1) (xs ++ [y]) → w0.grownBy w' v.ownBlock → (v'.ownBlock = v.ownBlock ∨ v'.ownBlock = some (w0.heap.size + 1)) → wpList Try.prog ops Q rest (a.put o.dst v') w') :
    wpList Try.prog ops Q (o :: rest) a (w0.alloc (.cells #[y] e)) := by
  obtain ⟨i0, hi, hz0, hz1, hz2⟩ := E.hi
  have hzs : z.cells.size = 1 := by rw [E.hz]; rfl
  refine wpList_append_own_at (P := Try.prog) (w0.alloc (.cells #[y] e)) hgd s x t ho B e i0 z 1 i0.bytes E.ht hi hz0 hz1 rfl hzs (by omega) v n xs hs (hown.alloc _) ⟨w0.heap.size, 0, none⟩ 1 1 [y] hx rfl
    (cell_one_new w0 y e) (by simpa using hy) (by unfold maxLen; omega) ?_ (by simp; omega) ?_
  · have : (n + 1) * i0.bytes ≤ 1099511627777 * 24 := Nat.mul_le_mul (by omega) hz2
    omega
  · intro v' w' h1 h2 _ h4
    refine h v' w' h1 ?_ (by simpa using h4)
    exact ⟨h2.os, h2.tape, h2.output, by have := h2.size; simp at this; omega, fun k hk hne => (h2.block k (by simp; omega) hne).trans (Below.heap_alloc w0 _ k hk)⟩

/-- 'append(s, y)' at int64s. -/
theorem append_int {ops : Array Oper} {rest : List Oper} {o : Oper} {a : Act} {Q : Exit → Act → World → Prop} (w0 : World) (hgd : o.guard = none) (s x : Operand)
    (ho : o.op = .call { callee := .builtin .append, args := #[s, x], argTypes := #[22, 22] })
    (B : Nat) (v : Value) (l : List Int) (hs : a.eval s = v) (hown : OwnInts w0 B v l) (y : Int)
    (hx : a.eval x = .slice (some ⟨w0.heap.size, 0, none⟩) 1 1) (hn : l.length ≤ 1099511627776) (hB : B ≤ w0.heap.size)
    (h : ∀ v' w', OwnInts w' B v' (l ++ [y]) → Below B w0 w' → w0.grownBy w' v.ownBlock → (v'.ownBlock = v.ownBlock ∨ v'.ownBlock = some (w0.heap.size + 1)) → wpList Try.prog ops Q rest (a.put o.dst v') w') :
    wpList Try.prog ops Q (o :: rest) a (w0.alloc (.cells #[.int .i64 y] 2)) := by
  refine append_one elem_int64 w0 hgd s x ho B v l.length _ hs hown (.int .i64 y) rfl hx hn hB fun v' w' h1 h2 h3 => ?_
  refine h v' w' ?_ ((Below.refl _ _).grown h2 hB fun k hk => (hown.lt k hk).1) h2 h3
  unfold OwnInts
  rw [List.map_append, List.length_append]
  exact h1

/-- '[]int64{}'. -/
theorem OwnInts.empty (w : World) (B : Nat) (hB : B ≤ w.heap.size) : OwnInts (w.alloc (.cells #[] 2)) B (.slice (some ⟨w.heap.size, 0, none⟩) 0 0) [] :=
  World.ownsRow_lit w #[] 0 hB (by simp [maxLen]) (by simp)
theorem OwnInts.nil (w : World) (B : Nat) : OwnInts w B (.slice none 0 0) [] := World.ownsRow_nil w B _ 1
theorem OwnInts.below {w w' : World} {B B' : Nat} {v : Value} {l : List Int} (h : OwnInts w B v l) (hb : Below B' w w') (hB : w.heap.size ≤ B') : OwnInts w' B v l := by
  refine ⟨h.1, ?_⟩
  rcases h.2 with hn | ⟨g, cap, cur, rfl, hg, hh, rest⟩
  · exact .inl hn
  · exact .inr ⟨g, cap, cur, rfl, hg, (hb.block g (Nat.lt_of_lt_of_le (Array.getElem?_eq_some_iff.1 hh).1 hB)).trans hh, rest⟩
theorem OwnInts.more {w : World} {B B' : Nat} {v : Value} {l : List Int} (h : OwnInts w B v l) (hB : B' ≤ B) : OwnInts w B' v l := by
  refine ⟨h.1, ?_⟩
  rcases h.2 with hn | ⟨g, cap, cur, rfl, hg, rest⟩
  · exact .inl hn
  · exact .inr ⟨g, cap, cur, rfl, Nat.le_trans hB hg, rest⟩
theorem ints_of_ret {w w' : World} {l : List Int} {u : Value} (h : OwnInts w' w.heap.size u l) : ∃ A c, u = .slice A l.length c := by
  obtain ⟨A, c, h1, _⟩ := h.ints
  exact ⟨A, c, h1⟩
theorem below_drewN {B : Nat} {a w : World} (h : Below B a w) (n : Nat) : Below B a (w.drewN n) := ⟨h.os, h.tape, h.output, h.size, h.block⟩
theorem below_of_drewN {w w' : World} {B q : Nat} (h : Below B (w.drewN q) w') : Below B w w' := ⟨h.os, h.tape, h.output, h.size, h.block⟩

end Go.Proofs.Ytpnophmanpfejaa
