/- append of a whole slice to a row of the call's own; slices of slices that grow. Condition: the lengths are below 2^40. -/
import Derived.Test.YtpnophmanpfejaaLists
import Derived.Deep.RegionHeld3
namespace Go.Proofs.Ytpnophmanpfejaa
set_option linter.unusedSimpArgs false
set_option linter.unusedVariables false
open Go.RowKit

/-- The cells of a slice, as a list. -/
def cellsL (f : Nat → Value) (m : Nat) : List Value := (List.range m).map f
theorem length_cellsL (f : Nat → Value) (m : Nat) : (cellsL f m).length = m := by simp [cellsL]
theorem cellsL_ints (l : List Int) : cellsL (fun k => .int .i64 (ix l k)) l.length = l.map (Value.int .i64) := by
  apply List.ext_getElem (by simp [cellsL])
  intro k h1 h2
  have h3 : k < l.length := by simpa using h2
  simp [cellsL, ix, h3]
theorem cellsL_bools (l : List Bool) : cellsL (fun k => .bool (bx l k)) l.length = l.map Value.bool := by
  apply List.ext_getElem (by simp [cellsL])
  intro k h1 h2
  have h3 : k < l.length := by simpa using h2
  simp [cellsL, bx, h3]
theorem run_append_nothing {t ty e : TypeId} {z : Value} (E : Elem t e z) (w : World) (B : Nat) (v : Value) (n : Nat) (xs : List Value) (hown : w.ownsRow B e 1 v n xs) (c : Nat) :
    (Builtin.append_ #[t, t] ty #[v, .slice none 0 c]).run Try.prog w = .ok v w := by
  obtain ⟨i0, hi, hz0, hz1, hz2⟩ := E.hi
  rcases hown.2 with ⟨rfl, rfl⟩ | ⟨g, cap, cur, rfl, _, _, hnc, _⟩
  · simp [Builtin.append_, run_underlying E.ht, sizeOf, typeInfo, hi, Builtin.lenOf, Builtin.firstCells]
  · simp [Builtin.append_, run_underlying E.ht, sizeOf, typeInfo, hi, Builtin.lenOf, Builtin.firstCells, hnc, storeCells]
theorem run_append_all {t ty e : TypeId} {z : Value} (E : Elem t e z) (w : World) (B : Nat) (v : Value) (n : Nat) (xs : List Value) (hown : w.ownsRow B e 1 v n xs)
    (A : Option Addr) (m c : Nat) (f : Nat → Value) (hx : SlF w (.slice A m c) m f) (h1 : ∀ k, k < m → (f k).oneCell' = true) (hn : n + m ≤ 1099511627776) (hB : B ≤ w.heap.size) :
    ∃ v' w', (Builtin.append_ #[t, t] ty #[v, .slice A m c]).run Try.prog w = .ok v' w' ∧ w'.ownsRow B e 1 v' (n + m) (xs ++ cellsL f m) ∧ w.grownBy w' v.ownBlock ∧ (v'.ownBlock = v.ownBlock ∨ v'.ownBlock = some w.heap.size) := by
  obtain ⟨i0, hi, hz0, hz1, hz2⟩ := E.hi
  have hzs : z.cells.size = 1 := by rw [E.hz]; rfl
  rcases A with _ | ad
  · have hm : m = 0 := by
      rcases Nat.eq_zero_or_pos m with h0 | h0
      · exact h0
      · obtain ⟨ad, h, _⟩ := hx.at_ h0
        cases h
    subst hm
    exact ⟨v, w, run_append_nothing E w B v n xs hown c, by simpa [cellsL] using hown, World.grownBy.refl w _, .inl rfl⟩
  · have hcells : ∀ j u, (cellsL f m)[j]? = some u → w.cell? (ad.add j) = some u := by
      intro j u hu
      obtain ⟨hj, e⟩ := List.getElem?_eq_some_iff.1 hu
      rw [length_cellsL] at hj
      obtain ⟨ad', h, hc⟩ := hx.at_ hj
      have h' := Option.some.inj h
      subst h'
      rw [hc, ← e]
      simp [cellsL]
    have hone : ∀ u ∈ cellsL f m, u.oneCell' = true := by
      intro u hu
      simp only [cellsL, List.mem_map, List.mem_range] at hu
      obtain ⟨k, hk, rfl⟩ := hu
      exact h1 k hk
    have hb : (n + m) * i0.bytes ≤ 140737488355328 := by
      have : (n + m) * i0.bytes ≤ 1099511627776 * 24 := Nat.mul_le_mul hn hz2
      omega
    obtain ⟨v', w', hrun, h2, h3, _, h5⟩ := run_append_own_at (P := Try.prog) w B t ty e i0 z 1 i0.bytes E.ht hi hz0 hz1 rfl hzs (by omega) v n xs hown ad m c (cellsL f m) (by rw [length_cellsL]; omega) hcells hone (by unfold maxLen; omega) hb hB
    exact ⟨v', w', hrun, h2, h3, h5⟩
theorem wp_append_all {o : Oper} {a : Act} {K : Act → World → Prop} {Q : Exit → Act → World → Prop} {t e : TypeId} {z : Value} (E : Elem t e z) (w : World) (s x : Operand)
    (ho : o.op = .call { callee := .builtin .append, args := #[s, x], argTypes := #[t, t] }) (B : Nat) (v : Value) (n : Nat) (xs : List Value) (hs : a.eval s = v) (hown : w.ownsRow B e 1 v n xs)
    (A : Option Addr) (m c : Nat) (f : Nat → Value) (hxe : a.eval x = .slice A m c) (hx : SlF w (.slice A m c) m f) (h1 : ∀ k, k < m → (f k).oneCell' = true) (hn : n + m ≤ 1099511627776) (hB : B ≤ w.heap.size)
    (h : ∀ v' w', w'.ownsRow B e 1 v' (n + m) (xs ++ cellsL f m) → w.grownBy w' v.ownBlock → (v'.ownBlock = v.ownBlock ∨ v'.ownBlock = some w.heap.size) → K (a.put o.dst v') w') : o.wp Try.prog a w K Q := by
  obtain ⟨v', w', hrun, h2, h3, h4⟩ := run_append_all (ty := o.type) E w B v n xs hown A m c f hx h1 hn hB
  unfold Oper.wp execOp
  simp only [ho, resolve, invoke, builtin, Sem.run_bind, Sem.run_pure, Result.andThen_ok, List.map_toArray, List.map_cons, List.map_nil, hs, hxe, hrun]
  exact h v' w' h2 h3 h4
/-- 'append(s, x...)', s a row of int64s of the call's own. -/
theorem append_ints {ops : Array Oper} {rest : List Oper} {o : Oper} {a : Act} {Q : Exit → Act → World → Prop} (w : World) (hgd : o.guard = none) (s x : Operand)
    (ho : o.op = .call { callee := .builtin .append, args := #[s, x], argTypes := #[22, 22] }) (B : Nat) (v : Value) (l : List Int) (hs : a.eval s = v) (hown : OwnInts w B v l)
    (y : Value) (m : List Int) (hxe : a.eval x = y) (hx : Ints w y m) (hn : l.length + m.length ≤ 1099511627776) (hB : B ≤ w.heap.size)
    (h : ∀ v' w', OwnInts w' B v' (l ++ m) → Below B w w' → w.grownBy w' v.ownBlock → (v'.ownBlock = v.ownBlock ∨ v'.ownBlock = some w.heap.size) → wpList Try.prog ops Q rest (a.put o.dst v') w') :
    wpList Try.prog ops Q (o :: rest) a w := by
  obtain ⟨A, c, rfl, _⟩ := hx.form
  refine wpList_plain hgd fun _ hK => wp_append_all elem_int64 w s x ho B v l.length _ hs hown A m.length c _ hxe hx (fun _ _ => rfl) hn hB fun v' w' h2 h3 h4 => hK _ _ (h v' w' ?_ ((Below.refl _ _).grown h3 hB fun k hk => (hown.lt k hk).1) h3 h4)
  unfold OwnInts
  rw [List.map_append, List.length_append, ← cellsL_ints m]
  exact h2
/-- .. of bools. -/
theorem append_bools {ops : Array Oper} {rest : List Oper} {o : Oper} {a : Act} {Q : Exit → Act → World → Prop} {t e : TypeId} (E : Elem t e (.bool false)) (w : World) (hgd : o.guard = none) (s x : Operand)
    (ho : o.op = .call { callee := .builtin .append, args := #[s, x], argTypes := #[t, t] }) (B : Nat) (v : Value) (l : List Bool) (hs : a.eval s = v) (hown : w.ownsRow B e 1 v l.length (l.map Value.bool))
    (y : Value) (m : List Bool) (hxe : a.eval x = y) (hx : Bools w y m) (hn : l.length + m.length ≤ 1099511627776) (hB : B ≤ w.heap.size)
    (h : ∀ v' w', w'.ownsRow B e 1 v' (l ++ m).length ((l ++ m).map Value.bool) → Below B w w' → w.grownBy w' v.ownBlock → (v'.ownBlock = v.ownBlock ∨ v'.ownBlock = some w.heap.size) → wpList Try.prog ops Q rest (a.put o.dst v') w') :
    wpList Try.prog ops Q (o :: rest) a w := by
  have hx0 := hx
  obtain ⟨A, c, rfl, _⟩ := hx0
  refine wpList_plain hgd fun _ hK => wp_append_all E w s x ho B v l.length _ hs hown A m.length c _ hxe hx (fun _ _ => rfl) hn hB fun v' w' h2 h3 h4 => hK _ _ (h v' w' ?_ ((Below.refl _ _).grown h3 hB fun k hk => (hown.lt k hk).1) h3 h4)
  rw [List.map_append, List.length_append, ← cellsL_bools m]
  exact h2
/-- .. as one step of a region that draws. -/
theorem step_append_ints {ops : Array Oper} {o : Oper} {a : Act} {K : Act → World → Prop} {Q : Exit → Act → World → Prop} {E : Prop} (w : World) (hgd : o.guard = none) (s x : Operand)
    (ho : o.op = .call { callee := .builtin .append, args := #[s, x], argTypes := #[22, 22] }) (B : Nat) (v : Value) (l : List Int) (hs : a.eval s = v) (hown : OwnInts w B v l)
    (y : Value) (m : List Int) (hxe : a.eval x = y) (hx : Ints w y m) (hn : l.length + m.length ≤ 1099511627776) (hB : B ≤ w.heap.size)
    (h : ∀ v' w', OwnInts w' B v' (l ++ m) → Below B w w' → w.grownBy w' v.ownBlock → (v'.ownBlock = v.ownBlock ∨ v'.ownBlock = some w.heap.size) → K (a.put o.dst v') w') :
    if Region.wanted o (yielded ops a.tmps) = true then Oper.wp Try.prog o a w K Q else E := by
  have hw : Region.wanted o (yielded ops a.tmps) = true := by simp [Region.wanted, hgd]
  rw [if_pos hw]
  obtain ⟨A, c, rfl, _⟩ := hx.form
  refine wp_append_all elem_int64 w s x ho B v l.length _ hs hown A m.length c _ hxe hx (fun _ _ => rfl) hn hB fun v' w' h2 h3 h4 => h v' w' ?_ ((Below.refl _ _).grown h3 hB fun k hk => (hown.lt k hk).1) h3 h4
  unfold OwnInts
  rw [List.map_append, List.length_append, ← cellsL_ints m]
  exact h2

/-- 'append(s, y)', y one value, as one step of a region that draws. -/
theorem step_append_one {ops : Array Oper} {o : Oper} {a : Act} {K : Act → World → Prop} {Q : Exit → Act → World → Prop} {F : Prop} {t e : TypeId} {z : Value} (E : Elem t e z) (w0 : World) (hgd : o.guard = none) (s x : Operand)
    (ho : o.op = .call { callee := .builtin .append, args := #[s, x], argTypes := #[t, t] })
    (B : Nat) (v : Value) (n : Nat) (xs : List Value) (hs : a.eval s = v) (hown : w0.ownsRow B e 1 v n xs) (y : Value) (hy : y.oneCell' = true)
    (hx : a.eval x = .slice (some ⟨w0.heap.size, 0, none⟩) 1 1) (hn : n ≤ 1048576) (hB : B ≤ w0.heap.size)
    (h : ∀ v' w', w'.ownsRow B e 1 v' (n + 1) (xs ++ [y]) → w0.grownBy w' v.ownBlock → (v'.ownBlock = v.ownBlock ∨ v'.ownBlock = some (w0.heap.size + 1)) → K (a.put o.dst v') w') :
    if Region.wanted o (yielded ops a.tmps) = true then Oper.wp Try.prog o a (w0.alloc (.cells #[y] e)) K Q else F := by
  have hw : Region.wanted o (yielded ops a.tmps) = true := by simp [Region.wanted, hgd]
  rw [if_pos hw]
  have hsl : SlF (w0.alloc (.cells #[y] e)) (.slice (some ⟨w0.heap.size, 0, none⟩) 1 1) 1 (fun _ => y) :=
    ⟨_, 1, rfl, Nat.le_refl _, by omega, fun k hk => ⟨_, rfl, by
      obtain rfl : k = 0 := by omega
      exact cell_one_new w0 y e 0 y rfl⟩⟩
  refine wp_append_all E (w0.alloc (.cells #[y] e)) s x ho B v n xs hs (hown.alloc _) (some ⟨w0.heap.size, 0, none⟩) 1 1 (fun _ => y) hx hsl (fun _ _ => hy) (by omega) (by simp; omega) fun v' w' h2 h3 h4 => h v' w' ?_ ?_ (by simpa using h4)
  · simpa [cellsL] using h2
  · exact ⟨h3.os, h3.tape, h3.output, by have := h3.size; simp at this; omega, fun k hk hne => (h3.block k (by simp; omega) hne).trans (Below.heap_alloc w0 _ k hk)⟩

theorem ione_new (w : World) (x : Int) : IArr (w.alloc (.cells #[.int .i64 x] 2)) w.heap.size [x] := Arr.new w _ _
theorem IArr.below' {w w' : World} {B g : Nat} {l : List Int} (h : IArr w g l) (hb : Below B w w') (hg : g < B) : IArr w' g l := Arr.below h hb hg
theorem IArr.heap' {w w' : World} {g : Nat} {l : List Int} (h : IArr w g l) (hh : w'.heap[g]? = w.heap[g]?) : IArr w' g l := Eq.trans hh h
theorem IArr.one_ints {w : World} {g : Nat} {x : Int} (h : IArr w g [x]) : Ints w (.slice (some ⟨g, 0, none⟩) 1 1) [x] := (IArr.own (B := 0) h (Nat.zero_le _) (by simp)).ints
theorem OwnInts.drew {w : World} {B : Nat} {v : Value} {l : List Int} (h : OwnInts w B v l) : OwnInts w.drew B v l := h

/-- A slice of slices that gets one row more. -/
theorem RowsV.snoc {w w' : World} {B C C' : Nat} {v v' y : Value} {vs : List Value} {ll : List (List Int)} {l : List Int} (h : RowsV w B C v vs ll) (hy : OI w B C y l)
    (hne : ∀ k, k < ll.length → ∀ b, (vx vs k).ownBlock = some b → y.ownBlock ≠ some b) (hown : w'.ownsRow B 22 1 v' (ll.length + 1) (vs ++ [y])) (hg : w.grownBy w' v.ownBlock)
    (hC : C ≤ C') (hC' : w'.heap.size ≤ C') : RowsV w' B C' v' (vs ++ [y]) (ll ++ [l]) := by
  have hl := h.len
  have hvx : ∀ k, k < ll.length → vx (vs ++ [y]) k = vx vs k := fun k hk => by
    rw [vx_lt (by simp; omega), vx_lt (by omega), List.getElem_append_left (by omega)]
  have hvy : vx (vs ++ [y]) ll.length = y := by
    rw [vx_lt (by simp; omega), List.getElem_append_right (by omega)]; simp [hl]
  have hrx : ∀ k, k < ll.length → rx (ll ++ [l]) k = rx ll k := fun k hk => by
    rw [rx_lt (by simp; omega), rx_lt hk, List.getElem_append_left hk]
  have hry : rx (ll ++ [l]) ll.length = l := by rw [rx_lt (by simp)]; simp
  have hrow : ∀ k, k < ll.length + 1 → OI w' B C' (vx (vs ++ [y]) k) (rx (ll ++ [l]) k) := fun k hk => by
    by_cases e : k = ll.length
    · subst e
      rw [hvy, hry]
      exact (hy.heap fun b hb => hg.block b (hy.1.lt b hb).2 fun e => owns_ne h.own hy.1 row_type_ne e.symm hb).mono (Nat.le_refl _) hC
    · rw [hvx k (by omega), hrx k (by omega)]
      have hr := h.row k (by omega)
      exact (hr.heap fun b hb => hg.block b (hr.1.lt b hb).2 fun e => owns_ne h.own hr.1 row_type_ne e.symm hb).mono (Nat.le_refl _) hC
  refine ⟨by simp [hl], by simpa using hown, fun b hb => Nat.lt_of_lt_of_le (hown.lt b hb).2 hC', fun k hk => hrow k (by simpa using hk), fun i j hi hj hij b hb => ?_⟩
  rw [List.length_append, List.length_singleton] at hi hj
  by_cases ei : i = ll.length
  · subst ei
    rw [hvy] at hb
    rw [hvx j (by omega)]
    intro hb2
    exact hne j (by omega) b hb2 hb
  · rw [hvx i (by omega)] at hb
    by_cases ej : j = ll.length
    · subst ej
      rw [hvy]
      exact hne i (by omega) b hb
    · rw [hvx j (by omega)]
      exact h.ne i j (by omega) (by omega) hij b hb
/-- '[][]int64{}'. -/
theorem new_rows (w : World) : RowsV (w.alloc (.cells #[] 22)) w.heap.size (w.alloc (.cells #[] 22)).heap.size (.slice (some ⟨w.heap.size, 0, none⟩) 0 0) [] [] ∧ Below w.heap.size w (w.alloc (.cells #[] 22)) :=
  ⟨⟨rfl, World.ownsRow_lit w #[] 0 (Nat.le_refl _) (by simp [maxLen]) (by simp), fun b hb => by simp [Value.ownBlock] at hb; subst hb; simp, fun k hk => by simp at hk, fun i j hi => by simp at hi⟩, (Below.refl _ _).alloc (Nat.le_refl _) _⟩
theorem nil_rows (w : World) (B C : Nat) : RowsV w B C (.slice none 0 0) [] [] :=
  ⟨rfl, World.ownsRow_nil w B _ 1, fun b hb => by simp [Value.ownBlock] at hb, fun k hk => by simp at hk, fun i j hi => by simp at hi⟩

def RetRows (w : World) (l : List (List Int)) (e : Ending) (w' : World) : Prop := ∃ u, e = .returned u ∧ ORw w' w.heap.size w'.heap.size u l ∧ Below w.heap.size w w'
theorem RetRows.mk' {w w' : World} {l : List (List Int)} {u : Value} (h1 : ORw w' w.heap.size w'.heap.size u l) (h2 : Below w.heap.size w w') : RetRows w l (.returned u) w' := ⟨u, rfl, h1, h2⟩
end Go.Proofs.Ytpnophmanpfejaa
