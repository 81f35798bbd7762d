/- Slices of a call's own that lie anywhere in their block: queues and stacks; slices of them. Condition: the lengths are below 2^40. -/
import Derived.Test.YtpnophmanpfejaaPkA
import Derived.ArgAppend
namespace Go.Proofs.Ytpnophmanpfejaa
set_option linter.unusedSimpArgs false
set_option linter.unusedVariables false
open Go.RowKit

/-- v is a slice of int64s of the call's own, from block B on, anywhere in its block, that holds l. -/
def OwnQ (w : World) (B : Nat) (v : Value) (l : List Int) : Prop :=
  (v = .slice none 0 0 ∧ l = []) ∨ ∃ g off cap cur, v = .slice (some ⟨g, off, none⟩) l.length cap ∧ B ≤ g ∧ w.heap[g]? = some (.cells cur 2 (0, 0)) ∧ l.length ≤ cap ∧ cap ≤ maxLen ∧ off + cap ≤ cur.size ∧ ∀ j, j < l.length → cur[off + j]? = some (.int .i64 (ix l j))

theorem OwnQ.of_own {w : World} {B : Nat} {v : Value} {l : List Int} (h : OwnInts w B v l) : OwnQ w B v l := by
  rcases h.2 with ⟨rfl, h2⟩ | ⟨g, cap, cur, rfl, hB, hg, hnc, hcm, hcs, ht⟩
  · exact .inl ⟨rfl, List.eq_nil_of_length_eq_zero h2⟩
  · refine .inr ⟨g, 0, cap, cur, rfl, hB, hg, hnc, hcm, by omega, fun j hj => ?_⟩
    have h1 : cur.toList[j]? = (l.map (Value.int .i64))[j]? := by
      rw [← ht, List.getElem?_take, if_pos (by omega)]
    rw [Nat.zero_add, ← Array.getElem?_toList, h1]
    simp [ix, hj]
theorem OwnQ.heap {w w' : World} {B : Nat} {v : Value} {l : List Int} (h : OwnQ w B v l) (hh : ∀ b, v.ownBlock = some b → w'.heap[b]? = w.heap[b]?) : OwnQ w' B v l := by
  rcases h with h | ⟨g, off, cap, cur, rfl, hB, hg, rest⟩
  · exact .inl h
  · exact .inr ⟨g, off, cap, cur, rfl, hB, (hh g rfl).trans hg, rest⟩
theorem OwnQ.lt {w : World} {B : Nat} {v : Value} {l : List Int} (h : OwnQ w B v l) : ∀ b, v.ownBlock = some b → B ≤ b ∧ b < w.heap.size := by
  intro b hb
  rcases h with ⟨rfl, _⟩ | ⟨g, off, cap, cur, rfl, hB, hg, _⟩
  · simp [Value.ownBlock] at hb
  · simp only [Value.ownBlock, Option.some.injEq] at hb
    subst hb
    exact ⟨hB, (Array.getElem?_eq_some_iff.1 hg).1⟩
theorem OwnQ.below {w w' : World} {B : Nat} {v : Value} {l : List Int} (h : OwnQ w B v l) (hb : Below w.heap.size w w') : OwnQ w' B v l := h.heap fun b hbb => hb.block b (h.lt b hbb).2
theorem OwnQ.more {w : World} {B B' : Nat} {v : Value} {l : List Int} (h : OwnQ w B v l) (hB : B' ≤ B) : OwnQ w B' v l := by
  rcases h with h | ⟨g, off, cap, cur, rfl, hg, rest⟩
  · exact .inl h
  · exact .inr ⟨g, off, cap, cur, rfl, Nat.le_trans hB hg, rest⟩
theorem OwnQ.drewN {w : World} {B : Nat} {v : Value} {l : List Int} (h : OwnQ w B v l) (n : Nat) : OwnQ (w.drewN n) B v l := h
theorem OwnQ.ints {w : World} {B : Nat} {v : Value} {l : List Int} (h : OwnQ w B v l) : Ints w v l := by
  rcases h with ⟨rfl, rfl⟩ | ⟨g, off, cap, cur, rfl, hB, hg, hlc, hcm, hcs, hc⟩
  · exact ⟨none, 0, rfl, Nat.le_refl _, by omega, fun k hk => by simp at hk⟩
  · refine ⟨_, cap, rfl, hlc, by unfold maxLen at hcm; omega, fun k hk => ⟨_, rfl, ?_⟩⟩
    have hadd : (⟨g, off, none⟩ : Addr).add k = ⟨g, off + k, none⟩ := by unfold Addr.add; split <;> simp_all
    rw [hadd, cell_of_row w g (off + k) cur _ (0, 0) hg, hc k hk]
/-- Rows of bools lie in other blocks. -/
theorem OwnQ.ne_bools {w : World} {B B' : Nat} {v u : Value} {l : List Int} {m : List Bool} (h : OwnQ w B v l) (k : OwnBools w B' u m) {b : Nat} (hb : v.ownBlock = some b) : u.ownBlock ≠ some b := by
  intro hb'
  rcases h with ⟨rfl, _⟩ | ⟨g, off, cap, cur, rfl, hB, hg, _⟩
  · simp [Value.ownBlock] at hb
  · rcases k.2 with ⟨rfl, _⟩ | ⟨g', cap', cur', rfl, _, hg', _⟩
    · simp [Value.ownBlock] at hb'
    · simp only [Value.ownBlock, Option.some.injEq] at hb hb'
      subst hb
      subst hb'
      rw [hg] at hg'
      simp at hg'

theorem size_int64 (w : World) : (sizeOf (Try.prog.elem 22)).run Try.prog w = .ok 1 w := by kernel_rfl
theorem elem_ints : Try.prog.elem 22 = 2 := by kernel_rfl
theorem under_ints : Try.prog.underlying 22 = some (.slice (Try.prog.elem 22)) := by rw [elem_ints]; exact Try.underlying22
/-- 'q[1:]'. -/
theorem OwnQ.pop {w : World} {B n c : Nat} {A : Option Addr} {x : Int} {l : List Int} (h : OwnQ w B (.slice A n c) (x :: l)) (hn : n = l.length + 1) :
    ∃ A' c', (∀ W, (Instr.slice 22 (.slice A n c) (some (.int .i64 1)) none none).run Try.prog W = .ok (.slice A' l.length c') W) ∧ OwnQ w B (.slice A' l.length c') l := by
  rcases h with ⟨_, h⟩ | ⟨g, off, cap, cur, he, hB, hg, hlc, hcm, hcs, hc⟩
  · cases h
  · simp only [Value.slice.injEq] at he
    obtain ⟨rfl, _, rfl⟩ := he
    rw [List.length_cons] at hlc
    have hrun : ∀ W, (Instr.slice 22 (.slice (some ⟨g, off, none⟩) n c) (some (.int .i64 1)) none none).run Try.prog W = .ok (sliced (some ⟨g, off, none⟩) 1 n c 1) W := fun W => by
      rw [run_slice_l W 22 _ n c under_ints .i64 1 (by omega) (by omega), size_int64]
      rfl
    by_cases hc1 : c = 1
    · refine ⟨some ⟨g, off, none⟩, 0, fun W => ?_, .inr ⟨g, off, 0, cur, rfl, hB, hg, by omega, by unfold maxLen; omega, by omega, fun j hj => by omega⟩⟩
      rw [hrun]
      simp [sliced, hc1, hn]
    · have hadd : (⟨g, off, none⟩ : Addr).add 1 = ⟨g, off + 1, none⟩ := by unfold Addr.add; simp
      refine ⟨some ⟨g, off + 1, none⟩, c - 1, fun W => ?_, .inr ⟨g, off + 1, c - 1, cur, rfl, hB, hg, by omega, by omega, by omega, fun j hj => ?_⟩⟩
      · rw [hrun]
        simp [sliced, hc1, hn, hadd]
      · have := hc (j + 1) (by simpa using hj)
        rw [show off + 1 + j = off + (j + 1) by omega, this]
        simp [ix]
/-- 'q[:k]'. -/
theorem OwnQ.cut {w : World} {B n c : Nat} {A : Option Addr} {l : List Int} (h : OwnQ w B (.slice A n c) l) (hn : n = l.length) (k : Nat) (hk : k ≤ n) (hkp : 0 < c) :
    (∀ W, (Instr.slice 22 (.slice A n c) none (some (.int .i64 (k : Int))) none).run Try.prog W = .ok (.slice A k c) W) ∧ OwnQ w B (.slice A k c) (l.take k) := by
  rcases h with ⟨he, h⟩ | ⟨g, off, cap, cur, he, hB, hg, hlc, hcm, hcs, hc⟩
  · simp only [Value.slice.injEq] at he
    omega
  · simp only [Value.slice.injEq] at he
    obtain ⟨rfl, _, rfl⟩ := he
    refine ⟨fun W => ?_, .inr ⟨g, off, c, cur, by simp; omega, hB, hg, by simp; omega, hcm, hcs, fun j hj => ?_⟩⟩
    · rw [run_slice_h W 22 _ n c under_ints .i64 (k : Int) (by omega) (by omega), size_int64]
      have hadd : (⟨g, off, none⟩ : Addr).add 0 = ⟨g, off, none⟩ := by unfold Addr.add; simp
      have hc0 : ¬ c = 0 := by omega
      simp [sliced, hadd, Result.andThen]
    · have hj' : j < k ∧ j < l.length := by rw [List.length_take] at hj; omega
      rw [hc j hj'.2]
      simp [ix, List.getElem?_take, hj'.1]

/-- 'append(q, y)'. -/
theorem run_append_q {ty : TypeId} (w : World) (B : Nat) (v : Value) (l : List Int) (hq : OwnQ w B v l) (y : Int) (ad : Addr) (had : w.cell? ad = some (.int .i64 y)) (hn : l.length ≤ 1099511627776) (hB : B ≤ w.heap.size) :
    ∃ A' c' w', (Builtin.append_ #[22, 22] ty #[v, .slice (some ad) 1 1]).run Try.prog w = .ok (.slice A' (l.length + 1) c') w' ∧ OwnQ w' B (.slice A' (l.length + 1) c') (l ++ [y]) ∧ w.grownBy w' v.ownBlock := by
  obtain ⟨i0, hi, hz0, hz1, hz2⟩ := elem_int64.hi
  have hsl : SlF w (.slice (some ad) 1 1) 1 (fun _ => .int .i64 y) := ⟨_, 1, rfl, Nat.le_refl _, by omega, fun k hk => ⟨_, rfl, by
      obtain rfl : k = 0 := by omega
      have hadd : ad.add 0 = ad := by unfold Addr.add; simp
      rw [hadd]; exact had⟩⟩
  have fin : ∀ (v' : Value) (w' : World), w'.ownsRow B 2 1 v' (l.length + 1) (l.map (Value.int .i64) ++ [.int .i64 y]) → ∃ A' c', v' = .slice A' (l.length + 1) c' ∧ OwnQ w' B v' (l ++ [y]) := fun v' w' h => by
    have h2 : OwnInts w' B v' (l ++ [y]) := by
      unfold OwnInts
      rw [List.length_append, List.map_append]
      exact h
    obtain ⟨A', c', e, _⟩ := h2.ints.form
    exact ⟨A', c', by simpa using e, .of_own h2⟩
  rcases hq with ⟨rfl, rfl⟩ | ⟨g, off, cap, cur, rfl, hBg, hg, hlc, hcm, hcs, hc⟩
  · obtain ⟨v', w', hrun, h2, h3, _⟩ := run_append_all (ty := ty) elem_int64 w B (.slice none 0 0) 0 [] (World.ownsRow_nil w B _ 1) (some ad) 1 1 _ hsl (fun _ _ => rfl) (by omega) hB
    obtain ⟨A', c', rfl, h4⟩ := fin v' w' (by simpa [cellsL] using h2)
    exact ⟨A', c', w', hrun, h4, h3⟩
  · by_cases hroom : l.length + 1 ≤ cap
    · have hat : off + l.length < cur.size := by omega
      have hce : ∀ k, w.cell? ⟨g, k, none⟩ = cur[k]? := fun k => cell_of_row w g k cur _ (0, 0) hg
      have hr := run_append_room_cells (P := Try.prog) w 22 ty 2 i0 Try.underlying22 hi g off l.length cap ad 1 1 [.int .i64 y] (by simp [hz1])
        (fun j u hu => by
          have : j = 0 ∧ u = .int .i64 y := by
            rcases j with _ | j
            · simp at hu; exact ⟨rfl, hu.symm⟩
            · simp at hu
          obtain ⟨rfl, rfl⟩ := this
          have hadd : ad.add 0 = ad := by unfold Addr.add; simp
          rw [hadd]; exact had) (by simp [Value.oneCell']) hroom
        (fun j hj => by
          obtain rfl : j = 0 := by simpa using hj
          rw [hz1, hce]; simp [hat])
        (fun j hj => frozen_of_row w g _ cur _ hg)
      rw [hz1, Nat.mul_one] at hr
      refine ⟨some ⟨g, off, none⟩, cap, _, hr, .inr ⟨g, off, cap, cur.setIfInBounds (off + l.length) (.int .i64 y), by simp, hBg, ?_, by simpa using hroom, hcm, by simpa using hcs, fun j hj => ?_⟩, ?_⟩
      · exact heap_setCell_same w g (off + l.length) cur _ _ hg
      · rw [List.length_append, List.length_singleton] at hj
        by_cases e : j = l.length
        · subst e
          rw [Array.getElem?_setIfInBounds_self_of_lt hat]
          simp [ix]
        · rw [Array.getElem?_setIfInBounds_ne (by omega), hc j (by omega)]
          simp [ix, List.getElem?_append_left (show j < l.length by omega)]
      · exact ⟨rfl, rfl, rfl, by simp [World.setCells], fun k hk hne => Below.heap_setCell _ _ _ _ (by simp [Value.ownBlock] at hne; simpa using hne)⟩
    · have hadd : ∀ k, (⟨g, off, none⟩ : Addr).add k = ⟨g, off + k, none⟩ := fun k => by unfold Addr.add; split <;> simp_all
      obtain ⟨v', w', hrun, h2, h3⟩ := run_append_arg_grows (P := Try.prog) w 22 ty 2 i0 _ 1 i0.bytes Try.underlying22 hi hz0 hz1 rfl (by rw [elem_int64.hz]; rfl) (by omega) ⟨g, off, none⟩ l.length cap (l.map (Value.int .i64)) (by simp)
        (fun j u hu => by
          obtain ⟨hj, e⟩ := List.getElem?_eq_some_iff.1 hu
          have hj' : j < l.length := by simpa using hj
          rw [hadd, cell_of_row w g (off + j) cur _ (0, 0) hg, hc j hj', ← e]
          simp [ix, hj']) ad 1 1 [.int .i64 y] (by simp)
        (fun j u hu => by
          have : j = 0 ∧ u = .int .i64 y := by
            rcases j with _ | j
            · simp at hu; exact ⟨rfl, hu.symm⟩
            · simp at hu
          obtain ⟨rfl, rfl⟩ := this
          have hadd : ad.add 0 = ad := by unfold Addr.add; simp
          rw [hadd]; exact had) (by omega) (by unfold maxLen; omega) (by
            have : (l.length + 1) * i0.bytes ≤ 1099511627777 * 24 := Nat.mul_le_mul (by omega) hz2
            omega)
      have h2' : w'.ownsRow B 2 1 v' (l.length + 1) (l.map (Value.int .i64) ++ [.int .i64 y]) := ⟨h2.1, h2.2.imp id fun ⟨g', cap', cur', a1, a2, a3⟩ => ⟨g', cap', cur', a1, Nat.le_trans hB a2, a3⟩⟩
      obtain ⟨A', c', rfl, h4⟩ := fin v' w' h2'
      exact ⟨A', c', w', hrun, h4, ⟨h3.os, h3.tape, h3.output, h3.size, fun k hk _ => h3.block k hk (by simp)⟩⟩
theorem append_q {ops : Array Oper} {rest : List Oper} {o : Oper} {a : Act} {Q : Exit → Act → World → Prop} (w0 : World) (hgd : o.guard = none) (s x : Operand)
    (ho : o.op = .call { callee := .builtin .append, args := #[s, x], argTypes := #[22, 22] })
    (B : Nat) (v : Value) (l : List Int) (n : Nat) (hln : n = l.length) (hs : a.eval s = v) (hq : OwnQ w0 B v l) (y : Int) (H : Nat) (hH : w0.heap.size = H)
    (hx : a.eval x = .slice (some ⟨H, 0, none⟩) 1 1) (hn : n ≤ 1099511627776) (hB : B ≤ w0.heap.size)
    (h : ∀ A' c' w', OwnQ w' B (.slice A' (n + 1) c') (l ++ [y]) → w0.grownBy w' v.ownBlock → wpList Try.prog ops Q rest (a.put o.dst (.slice A' (n + 1) c')) w') :
    wpList Try.prog ops Q (o :: rest) a (w0.alloc (.cells #[.int .i64 y] 2)) := by
  subst hln
  subst hH
  refine wpList_plain hgd fun K hK => ?_
  have hb := (Below.refl w0.heap.size w0).alloc (Nat.le_refl _) (.cells #[.int .i64 y] 2)
  have hc : (w0.alloc (.cells #[.int .i64 y] 2)).cell? ⟨w0.heap.size, 0, none⟩ = some (.int .i64 y) := (Arr.new w0 2 [.int .i64 y]).c0
  obtain ⟨A', c', w', hrun, h2, h3⟩ := run_append_q (ty := o.type) (w0.alloc (.cells #[.int .i64 y] 2)) B v l (hq.below hb) y ⟨w0.heap.size, 0, none⟩ hc hn (by simp; omega)
  unfold Oper.wp execOp
  simp only [ho, resolve, invoke, builtin, Sem.run_bind, Sem.run_pure, Result.andThen_ok, List.map_toArray, List.map_cons, List.map_nil, hs, hx, hrun]
  refine hK _ _ (h A' c' w' h2 ⟨h3.os, h3.tape, h3.output, by have := h3.size; simp at this; omega, fun k hk hne => (h3.block k (by simp; omega) hne).trans (Below.heap_alloc w0 _ k hk)⟩)
theorem OwnBools.heap {w w' : World} {B : Nat} {v : Value} {l : List Bool} (h : OwnBools w B v l) (hh : ∀ b, v.ownBlock = some b → w'.heap[b]? = w.heap[b]?) : OwnBools w' B v l := by
  refine ⟨h.1, ?_⟩
  rcases h.2 with hn | ⟨g, cap, cur, rfl, hg, hc, rest⟩
  · exact .inl hn
  · exact .inr ⟨g, cap, cur, rfl, hg, (hh g rfl).trans hc, rest⟩
end Go.Proofs.Ytpnophmanpfejaa
