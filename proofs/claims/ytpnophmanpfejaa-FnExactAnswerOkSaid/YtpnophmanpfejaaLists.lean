/- Slices of slices of int64s: read, and made by a call of its own; the walks of the laws' helpers on them. Conditions: the lengths. -/
import Derived.Test.YtpnophmanpfejaaRowsPlain
import Derived.Test.YtpnophmanpfejaaObj
namespace Go.Proofs.Ytpnophmanpfejaa
set_option linter.unusedSimpArgs false
set_option linter.unusedVariables false
open Go.RowKit

theorem rows_info : (Try.prog.info? 22).map (fun i => (i.zero, i.size, i.bytes)) = some (some (.slice none 0 0), 1, 24) := by kernel_rfl
theorem elem_rows : Elem 23 22 (.slice none 0 0) := Elem.mk' Try.underlying23 rows_info (by omega) rfl

/-- v is a slice of slices of a call's own, from block B on and below C: its elements are vs, which hold ll; no two lie in one block. -/
structure RowsV (w : World) (B C : Nat) (v : Value) (vs : List Value) (ll : List (List Int)) : Prop where
  len : vs.length = ll.length
  own : w.ownsRow B 22 1 v ll.length vs
  lt : ∀ b, v.ownBlock = some b → b < C
  row : ∀ k, k < ll.length → OI w B C (vx vs k) (rx ll k)
  ne : ∀ i j, i < ll.length → j < ll.length → i ≠ j → ∀ b, (vx vs i).ownBlock = some b → (vx vs j).ownBlock ≠ some b

theorem OI.mono {w : World} {B C B' C' : Nat} {v : Value} {l : List Int} (h : OI w B C v l) (hB : B' ≤ B) (hC : C ≤ C') : OI w B' C' v l := ⟨h.1.more hB, fun k hk => Nat.lt_of_lt_of_le (h.2 k hk) hC⟩
theorem OI.heap {w w' : World} {B C : Nat} {v : Value} {l : List Int} (h : OI w B C v l) (hh : ∀ b, v.ownBlock = some b → w'.heap[b]? = w.heap[b]?) : OI w' B C v l := by
  refine ⟨⟨h.1.1, ?_⟩, h.2⟩
  rcases h.1.2 with hn | ⟨g, cap, cur, rfl, hg, hc, rest⟩
  · exact .inl hn
  · exact .inr ⟨g, cap, cur, rfl, hg, (hh g rfl).trans hc, rest⟩
theorem owns_heap {w w' : World} {B n size : Nat} {e : TypeId} {v : Value} {xs : List Value} (h : w.ownsRow B e size v n xs) (hh : ∀ b, v.ownBlock = some b → w'.heap[b]? = w.heap[b]?) : w'.ownsRow B e size v n xs := by
  refine ⟨h.1, ?_⟩
  rcases h.2 with hn | ⟨g, cap, cur, rfl, hg, hc, rest⟩
  · exact .inl hn
  · exact .inr ⟨g, cap, cur, rfl, hg, (hh g rfl).trans hc, rest⟩
/-- Rows whose element types differ never lie in one block. -/
theorem owns_ne {w : World} {B B' n n' s s' : Nat} {e e' : TypeId} {v v' : Value} {xs xs' : List Value} (h : w.ownsRow B e s v n xs) (h' : w.ownsRow B' e' s' v' n' xs') (hne : e ≠ e') {b : Nat} (hb : v.ownBlock = some b) : v'.ownBlock ≠ some b := by
  intro hb'
  rcases h.2 with ⟨rfl, _⟩ | ⟨g, cap, cur, rfl, _, hg, _⟩
  · simp [Value.ownBlock] at hb
  · rcases h'.2 with ⟨rfl, _⟩ | ⟨g', cap', cur', rfl, _, hg', _⟩
    · simp [Value.ownBlock] at hb'
    · simp only [Value.ownBlock, Option.some.injEq] at hb hb'
      subst hb
      subst hb'
      rw [hg] at hg'
      injection hg' with hg'
      injection hg' with _ ht
      exact hne ht
theorem row_type_ne : (22 : TypeId) ≠ 2 := by decide

theorem RowsV.kept {w w' : World} {B C B' C' : Nat} {v : Value} {vs : List Value} {ll : List (List Int)} (h : RowsV w B C v vs ll) (ho : Only B' C' w w') (hd : C ≤ B' ∨ C' ≤ B) : RowsV w' B C v vs ll := by
  refine ⟨h.len, owns_heap h.own fun b hb => ?_, h.lt, fun k hk => (h.row k hk).kept ho hd, h.ne⟩
  have h1 := h.own.lt b hb
  have h2 := h.lt b hb
  exact ho.block b h1.2 (by omega)
theorem RowsV.rows {w : World} {B C : Nat} {v : Value} {vs : List Value} {ll : List (List Int)} (h : RowsV w B C v vs ll) : Rows w v ll :=
  ⟨vx vs, SlF.of_own h.own, fun k hk => (h.row k hk).ints⟩
theorem RowsV.mono {w : World} {B C B' C' : Nat} {v : Value} {vs : List Value} {ll : List (List Int)} (h : RowsV w B C v vs ll) (hB : B' ≤ B) (hC : C ≤ C') : RowsV w B' C' v vs ll := by
  refine ⟨h.len, ⟨h.own.1, ?_⟩, fun b hb => Nat.lt_of_lt_of_le (h.lt b hb) hC, fun k hk => (h.row k hk).mono hB hC, h.ne⟩
  rcases h.own.2 with hn | ⟨g, cap, cur, rfl, hg, rest⟩
  · exact .inl hn
  · exact .inr ⟨g, cap, cur, rfl, Nat.le_trans hB hg, rest⟩

theorem RowsV.heap {w w' : World} {B C : Nat} {v : Value} {vs : List Value} {ll : List (List Int)} (h : RowsV w B C v vs ll) (h1 : ∀ b, v.ownBlock = some b → w'.heap[b]? = w.heap[b]?)
    (h2 : ∀ k, k < ll.length → ∀ b, (vx vs k).ownBlock = some b → w'.heap[b]? = w.heap[b]?) : RowsV w' B C v vs ll :=
  ⟨h.len, owns_heap h.own h1, h.lt, fun k hk => (h.row k hk).heap (h2 k hk), h.ne⟩
theorem RowsV.form {w : World} {B C : Nat} {v : Value} {vs : List Value} {ll : List (List Int)} (h : RowsV w B C v vs ll) : ∃ A c, v = .slice A ll.length c := by
  obtain ⟨A, c, h1, _⟩ := SlF.of_own h.own
  exact ⟨A, c, h1⟩

/-- The same with the elements' slices left open. -/
def ORw (w : World) (B C : Nat) (v : Value) (ll : List (List Int)) : Prop := ∃ vs, RowsV w B C v vs ll
theorem ORw.kept {w w' : World} {B C B' C' : Nat} {v : Value} {ll : List (List Int)} (h : ORw w B C v ll) (ho : Only B' C' w w') (hd : C ≤ B' ∨ C' ≤ B) : ORw w' B C v ll := by
  obtain ⟨vs, h⟩ := h; exact ⟨vs, h.kept ho hd⟩
theorem ORw.below {w w' : World} {B C : Nat} {v : Value} {ll : List (List Int)} (h : ORw w B C v ll) (hb : Below w.heap.size w w') : ORw w' B C v ll := h.kept (Only.of_below (B := C) (C := B) hb) (.inl (Nat.le_refl _))
theorem ORw.rows {w : World} {B C : Nat} {v : Value} {ll : List (List Int)} (h : ORw w B C v ll) : Rows w v ll := by obtain ⟨vs, h⟩ := h; exact h.rows

set_option maxHeartbeats 400000 in
theorem eqInt64SS_any (v u : Value) (l m : List (List Int)) (w : World) (hv : Rows w v l) (hu : Rows w u m) :
    Calls Try.prog 45 #[v, u] w fun e w' => e = .returned (.bool (decide (l = m))) ∧ ∃ n, w' = w.drewN n := by
  obtain ⟨f, hv, hf⟩ := hv
  obtain ⟨g, hu, hg⟩ := hu
  obtain ⟨A, c, rfl, hlc, hcm, hA⟩ := hv
  obtain ⟨B, d, rfl, hmd, hdm, hB⟩ := hu
  by_cases hne : l.length = m.length
  · go_enter Try.func45, Try.ntmps45
    go_wp2
    go_loopw [5] (fun i wr => ∃ k q : Nat, k ≤ m.length ∧ i = .int .i64 k ∧ wr = w.drewN q ∧ ∀ j, j < k → rx l j = rx m j) (fun i _ => m.length - (intOf i).toNat)
    case atStart => exact ⟨0, 0, Nat.zero_le _, rfl, rfl, fun j hj => absurd hj (Nat.not_lt_zero _)⟩
    case round =>
      obtain ⟨k, q, hk, rfl, rfl, heq⟩ := hrel
      by_cases hlt : k < m.length
      · obtain ⟨a1, rfl, h1⟩ := hA k (by omega)
        obtain ⟨a2, rfl, h2⟩ := hB k hlt
        have hfk := (hf k (by omega)).kept (Kept.drewN w q)
        have hgk := (hg k hlt).kept (Kept.drewN w q)
        have hcon := fun W (hW : Kept w W) => eqInt64S_any (f k) (g k) (rx l k) (rx m k) W ((hf k (by omega)).kept hW) ((hg k hlt).kept hW)
        have Hc := Lib.hid hcon
        clear hcon hfk hgk hf hg
        by_cases he : rx l k = rx m k
        · have hd : decide (rx l k = rx m k) = true := by simpa using he
          have He := Lib.hid he
          clear he
          go_wp2
          go_quiet ((go_at_call 20; first | exact Calls.quiet_of_same (Hc.out _ (Kept.drewN _ _)) | exact Calls.quiet_of (Hc.out _ (Kept.drewN _ _)) | exact quiet_add (quiet_same (Hc.out _ (Kept.drewN _ _))) | exact quiet_add (Hc.out _ (Kept.drewN _ _))))
          go_wp2
          exact ⟨⟨k + 1, q + nq, by omega, by go_num, by simp, fun j hj => by
            by_cases hjk : j = k
            · rw [hjk]; exact He.out
            · exact heq j (by omega)⟩, by simp [intOf]; omega⟩
        · have hd : decide (rx l k = rx m k) = false := by simpa using he
          have hlm : decide (l = m) = false := by
            rw [decide_eq_false_iff_not]; rintro rfl; exact he rfl
          have He := Lib.hid he
          clear he
          go_wp2
          go_quiet ((go_at_call 20; first | exact Calls.quiet_of_same (Hc.out _ (Kept.drewN _ _)) | exact Calls.quiet_of (Hc.out _ (Kept.drewN _ _)) | exact quiet_add (quiet_same (Hc.out _ (Kept.drewN _ _))) | exact quiet_add (Hc.out _ (Kept.drewN _ _))))
          go_wp2
          go_ret
          exact ⟨by rw [hlm]; rfl, q + nq, by simp⟩
      · have hlm : l = m := rows_ext hne fun j hj => heq j (by omega)
        have hd : decide (l = m) = true := by simpa using hlm
        have Hd := Lib.hid hd
        clear hd hlm
        go_wp2
        go_ret
        exact ⟨by rw [Hd.out]; rfl, q, rfl⟩
  · have hlm : decide (l = m) = false := by rw [decide_eq_false_iff_not]; rintro rfl; exact hne rfl
    have hd : ((l.length : Int) != (m.length : Int)) = true := by simpa using (by omega : ¬ (l.length : Int) = m.length)
    have Hd := Lib.hid hlm
    clear hlm
    go_enter Try.func45, Try.ntmps45
    go_wp2
    go_ret
    exact ⟨by rw [Hd.out]; rfl, 0, rfl⟩

set_option maxHeartbeats 400000 in
theorem szInt64SS_any (v : Value) (ll : List (List Int)) (left : Int) (w : World) (hv : Rows w v ll) (h0 : 0 ≤ left) (h1 : left ≤ 1048576) :
    Calls Try.prog 99 #[v, .int .i64 left] w fun e w' => e = .returned (.int .i64 (szLeft (ll.length + sizeR ll) left)) ∧ w' = w := by
  obtain ⟨f, hv, hf⟩ := hv
  obtain ⟨A, c, rfl, hlc, hcm, hA⟩ := hv
  have hs : IntKind.i64.wrap (left - (ll.length : Int)) = left - (ll.length : Int) := IntWalk.i64_in _ (by omega)
  by_cases h : (ll.length : Int) ≤ left
  · have hn : ¬ left - (ll.length : Int) < 0 := by omega
    obtain ⟨r, hr⟩ : ∃ r, szLeft (ll.length + sizeR ll) left = r := ⟨_, rfl⟩
    have hend : 0 ≤ left - (ll.length : Int) - (offR ll ll.length : Nat) → r = left - (ll.length : Int) - (offR ll ll.length : Nat) := fun hp => by
      rw [← hr, szLeft_pos (by unfold sizeR; omega)]; unfold sizeR; omega
    have hbad : ∀ k, k < ll.length → ¬ ((rx ll k).length : Int) ≤ left - (ll.length : Int) - (offR ll k : Nat) → r = -1 := fun k hk hp => by
      have h2 := offR_succ hk
      have h3 : offR ll (k + 1) ≤ sizeR ll := offR_le (by omega) (Nat.le_refl _)
      rw [← hr, szLeft_neg (by omega)]
    rw [hr]
    clear hr
    have Hend := Lib.hid hend
    have Hbad := Lib.hid hbad
    clear hend hbad
    go_enter Try.func99, Try.ntmps99
    go_wp2
    clear hs hn
    go_loop [1, 5] (fun x i => ∃ k : Nat, k ≤ ll.length ∧ i = .int .i64 k ∧ x = .int .i64 (left - (ll.length : Int) - (offR ll k : Nat)) ∧ 0 ≤ left - (ll.length : Int) - (offR ll k : Nat)) (fun _ i => ll.length - (intOf i).toNat)
    case atStart => exact ⟨0, Nat.zero_le _, rfl, by simp, by simp; omega⟩
    case round =>
      obtain ⟨k, hk, rfl, rfl, hpos⟩ := hrel
      by_cases hlt : k < ll.length
      · obtain ⟨a1, rfl, hc1⟩ := hA k hlt
        have hcon := szInt64S_any (f k) (rx ll k) (left - (ll.length : Int) - (offR ll k : Nat)) w (hf k hlt) hpos (by omega)
        have hoff := offR_succ hlt
        by_cases g : ((rx ll k).length : Int) ≤ left - (ll.length : Int) - (offR ll k : Nat)
        · rw [szLeft_pos g] at hcon
          have hsum : left - (ll.length : Int) - (offR ll k : Nat) - ((rx ll k).length : Nat) = left - (ll.length : Int) - (offR ll (k + 1) : Nat) := by omega
          have hpos' : 0 ≤ left - (ll.length : Int) - (offR ll (k + 1) : Nat) := by omega
          rw [hsum] at hcon
          have Hc := Lib.hid hcon
          clear hcon hsum g hf hoff
          go_wp2_with (go_at_call 71; refine Hc.out.mono ?_; rintro e w' ⟨rfl, hw⟩; subst w')
          exact ⟨⟨k + 1, by omega, by go_num, rfl, hpos'⟩, by simp [intOf]; omega⟩
        · rw [szLeft_neg g] at hcon
          have hr := Hbad.out k hlt (by omega)
          have Hr := Lib.hid hr
          have Hc := Lib.hid hcon
          clear hcon g hf hr hoff
          go_wp2_with (go_at_call 71; refine Hc.out.mono ?_; rintro e w' ⟨rfl, hw⟩; subst w')
          go_ret
          exact ⟨by rw [Hr.out]; rfl, rfl⟩
      · obtain rfl : k = ll.length := by omega
        go_wp2
        go_ret
        exact ⟨by rw [Hend.out hpos]; rfl, rfl⟩
  · rw [szLeft_neg (by omega)]
    have hn : left - (ll.length : Int) < 0 := by omega
    clear h
    go_enter Try.func99, Try.ntmps99
    go_wp2
    go_ret
    exact ⟨rfl, rfl⟩

set_option maxHeartbeats 800000 in
theorem toInt64SS_any (v : Value) (ll : List (List Int)) (w : World) (hv : Rows w v ll) (h1 : ll.length ≤ 4194304) (h2 : ∀ k, k < ll.length → (rx ll k).length ≤ 4194304) :
    Calls Try.prog 103 #[v] w fun e w' => ∃ u, e = .returned u ∧ ORw w' w.heap.size w'.heap.size u ll ∧ Below w.heap.size w w' := by
  obtain ⟨f, hv, hf⟩ := hv
  have hv0 := hv
  obtain ⟨A, c, rfl, hlc, hcm, hA⟩ := hv
  clear hA
  have hmk := make_one elem_rows ll.length (by omega)
  go_enter Try.func103, Try.ntmps103
  go_wp2
  clear hmk
  have h0 : Arr (w.alloc (.cells (zeros (.slice none 0 0) ll.length).toArray 22)) w.heap.size 22 (zeros (.slice none 0 0) ll.length) := Arr.new _ _ _
  have hb0 : Below w.heap.size w (w.alloc (.cells (zeros (.slice none 0 0) ll.length).toArray 22)) := (Below.refl _ _).alloc (Nat.le_refl _) _
  generalize w.alloc (.cells (zeros (.slice none 0 0) ll.length).toArray 22) = w0 at *
  go_loopw [4] (fun i wr => ∃ (k : Nat) (vs : List Value), k ≤ ll.length ∧ i = .int .i64 k ∧ Below w.heap.size w wr ∧ Arr wr w.heap.size 22 vs ∧ vs.length = ll.length ∧ (∀ j, j < k → OI wr (w.heap.size + 1) wr.heap.size (vx vs j) (rx ll j)) ∧ (∀ i j, i < k → j < k → i ≠ j → ∀ b, (vx vs i).ownBlock = some b → (vx vs j).ownBlock ≠ some b)) (fun i _ => ll.length - (intOf i).toNat)
  case atStart => exact ⟨0, _, Nat.zero_le _, rfl, hb0, h0, by simp [zeros], fun j hj => by omega, fun i j hi => by omega⟩
  case round =>
    obtain ⟨k, vs, hk, rfl, hb, ha, hvl, hr, hne⟩ := hrel
    by_cases hlt : k < ll.length
    · obtain ⟨a1, rfl, hc⟩ := (SlF.kept hv0 (Kept.of hb)).at_ hlt
      have hf1 := ha.lt
      have Hvl := Lib.hid hvl
      clear hvl
      go_wp2_with fail
      refine (toInt64S_any (f k) (rx ll k) _ ((hf k hlt).kept (Kept.of hb)) (h2 k hlt)).mono ?_
      rintro e w1 ⟨u, rfl, ho1, hb1⟩
      obtain ⟨A1, c1, rfl⟩ := ints_of_ret ho1
      have ha1 := ha.below hb1 hf1
      have hc1 := ha1.cell (k := k) (by rw [Hvl.out]; exact hlt)
      have hfz := ha1.frozen k
      have hbw := hb.trans (hb1.mono hb.size)
      go_wp2
      refine ⟨⟨k + 1, vs.set k _, by omega, by go_num, hbw.setCell (Nat.le_refl _) _, ha1.set_ k _, by simpa using Hvl.out, fun j hj => ?_, fun i j hi hj hij b hb2 => ?_⟩, by simp [intOf]; omega⟩
      · have hvl := Hvl.out
        rw [vx_set (by omega)]
        have hsz := hb1.size
        by_cases e : j = k
        · subst e
          rw [if_pos rfl]
          refine OI.heap (w := w1) ⟨ho1.more hf1, fun b hb => ?_⟩ fun b hb => ?_
          · simpa using (ho1.lt b hb).2
          · exact Below.heap_setCell _ _ _ _ (by have := (ho1.lt b hb).1; intro he; subst he; simp at this; omega)
        · rw [if_neg e]
          have h3 := (hr j (by omega)).below hb1
          refine OI.heap (w := w1) (h3.mono (Nat.le_refl _) (by simpa using hsz)) fun b hb => ?_
          exact Below.heap_setCell _ _ _ _ (by have := (h3.1.lt b hb).1; intro he; subst he; simp at this; omega)
      · have hvl := Hvl.out
        rw [vx_set (by omega)] at hb2
        rw [vx_set (by omega)]
        by_cases ei : i = k
        · rw [if_pos ei] at hb2
          rw [if_neg (by omega)]
          intro hb3
          have h3 := (hr j (by omega)).2 b hb3
          have h4 := (ho1.lt b hb2).1
          omega
        · rw [if_neg ei] at hb2
          by_cases ej : j = k
          · rw [if_pos ej]
            intro hb3
            have h3 := (hr i (by omega)).2 b hb2
            have h4 := (ho1.lt b hb3).1
            omega
          · rw [if_neg ej]
            exact hne i j (by omega) (by omega) hij b hb2
    · obtain rfl : k = ll.length := by omega
      have Hvl := Lib.hid hvl
      clear hvl
      go_wp2
      go_ret
      refine ⟨_, rfl, ⟨vs, Hvl.out, ha.own (Nat.le_refl _) Hvl.out (by omega), fun b hb => ?_, fun j hj => (hr j hj).mono (by omega) (Nat.le_refl _), hne⟩, hb⟩
      simp [Value.ownBlock] at hb
      have := ha.lt
      omega

theorem ORw.old {w w' : World} {v : Value} {ll : List (List Int)} {B : Nat} (h : ORw w B w.heap.size v ll) (hb : Below w.heap.size w w') : ORw w' B w'.heap.size v ll := by
  obtain ⟨vs, h⟩ := h
  exact ⟨vs, ((h.kept (Only.of_below (B := w.heap.size) (C := w.heap.size) hb) (.inl (Nat.le_refl _))).mono (Nat.le_refl _) hb.size)⟩
/-- Of the blocks that w has, w' has turned none but those of S. -/
structure Chg (S : Nat → Prop) (w w' : World) : Prop where
  os : w'.os = w.os
  tape : w'.tape = w.tape
  output : w'.output = w.output
  size : w.heap.size ≤ w'.heap.size
  block : ∀ k, k < w.heap.size → ¬ S k → w'.heap[k]? = w.heap[k]?
theorem Chg.refl (S : Nat → Prop) (w : World) : Chg S w w := ⟨rfl, rfl, rfl, Nat.le_refl _, fun _ _ _ => rfl⟩
theorem Chg.grown {S : Nat → Prop} {a b c : World} {row : Option Nat} (h : Chg S a b) (k : b.grownBy c row) (hr : ∀ r, row = some r → S r) : Chg S a c :=
  ⟨k.os.trans h.os, k.tape.trans h.tape, k.output.trans h.output, Nat.le_trans h.size k.size, fun i hi hne => (k.block i (Nat.lt_of_lt_of_le hi h.size) (fun e => hne (hr i e.symm))).trans (h.block i hi hne)⟩
theorem Chg.below {S : Nat → Prop} {a b c : World} (h : Chg S a b) (k : Below b.heap.size b c) : Chg S a c :=
  ⟨k.os.trans h.os, k.tape.trans h.tape, k.output.trans h.output, Nat.le_trans h.size k.size, fun i hi hne => (k.block i (Nat.lt_of_lt_of_le hi h.size)).trans (h.block i hi hne)⟩
theorem Chg.only {S : Nat → Prop} {B C : Nat} {a b : World} (h : Chg S a b) (hS : ∀ k, S k → B ≤ k ∧ k < C) : Only B C a b :=
  ⟨h.os, h.tape, h.output, h.size, fun k hk hh => h.block k hk (fun hs => by have := hS k hs; omega)⟩

set_option maxHeartbeats 800000 in
theorem markInt64SS_any (v : Value) (vs : List Value) (ll : List (List Int)) (k0 : Int) (B C : Nat) (w : World) (hv : RowsV w B C v vs ll) (h0 : 0 ≤ k0) (h1 : k0 + sizeR ll ≤ 4611686018427387904) :
    Calls Try.prog 48 #[v, .int .i64 k0] w fun e w' => e = .returned (.int .i64 (k0 + sizeR ll)) ∧ RowsV w' B C v vs (markR k0 ll) ∧ Chg (fun b => ∃ j, j < ll.length ∧ (vx vs j).ownBlock = some b) w w' := by
  have hsl := SlF.of_own hv.own
  have hsl0 := hsl
  obtain ⟨A, c, rfl, hlc, hcm, hA⟩ := hsl
  clear hA
  go_enter Try.func48, Try.ntmps48
  go_wp2
  go_loopw [1, 5] (fun x i wr => ∃ (k : Nat) (mm : List (List Int)), k ≤ ll.length ∧ i = .int .i64 k ∧ x = .int .i64 (k0 + (offR ll k : Nat)) ∧ RowsV wr B C (.slice A ll.length c) vs mm ∧ mm.length = ll.length ∧ (∀ j, j < ll.length → (rx mm j).length = (rx ll j).length) ∧ (∀ j, j < k → rx mm j = upFrom (k0 + (offR ll j : Nat)) (rx ll j).length) ∧ Chg (fun b => ∃ j, j < ll.length ∧ (vx vs j).ownBlock = some b) w wr) (fun _ i _ => ll.length - (intOf i).toNat)
  case atStart => exact ⟨0, ll, Nat.zero_le _, rfl, by simp, hv, rfl, fun _ _ => rfl, fun j hj => by omega, Chg.refl _ _⟩
  case round =>
    obtain ⟨k, mm, hk, rfl, rfl, ha, hml, hle, hm, hch⟩ := hrel
    have Hml := Lib.hid hml
    clear hml
    have Hle := Lib.hid hle
    clear hle
    by_cases hlt : k < ll.length
    · have hsl := SlF.of_own ha.own
      rw [Hml.out] at hsl
      obtain ⟨a1, rfl, hc⟩ := hsl.at_ (k := k) hlt
      clear hsl
      have hrow := ha.row k (by rw [Hml.out]; exact hlt)
      have hoff := offR_succ hlt
      have htot : offR ll (k + 1) ≤ sizeR ll := offR_le (by omega) (Nat.le_refl _)
      have hcon := markInt64S_any _ _ (k0 + (offR ll k : Nat)) B _ hrow.1 (by omega) (by rw [Hle.out k hlt]; omega)
      rw [Hle.out k hlt, show k0 + (offR ll k : Nat) + ((rx ll k).length : Nat) = k0 + (offR ll (k + 1) : Nat) from by omega] at hcon
      have Hc := Lib.hid hcon
      have Hoff := Lib.hid hoff
      clear hcon hoff
      go_wp2_with fail
      refine Hc.out.mono ?_
      rintro e w1 ⟨rfl, ho1, hg1⟩
      go_wp2
      refine ⟨⟨k + 1, mm.set k (upFrom (k0 + (offR ll k : Nat)) (rx ll k).length), by omega, by go_num, rfl, ?_, by simpa using Hml.out, fun j hj => ?_, fun j hj => ?_, hch.grown hg1 fun r hr => ⟨k, hlt, hr⟩⟩, by simp [intOf]; omega⟩
      · have hml := Hml.out
        refine ⟨by simpa using ha.len, ?_, ha.lt, fun j hj => ?_, by simpa using ha.ne⟩
        · rw [List.length_set]
          exact owns_heap ha.own fun b hb => hg1.block b (ha.own.lt b hb).2 fun e => owns_ne ha.own hrow.1 row_type_ne hb e.symm
        · rw [List.length_set] at hj
          rw [rx_set (by omega)]
          by_cases e : j = k
          · subst e; rw [if_pos rfl]; exact ⟨ho1, hrow.2⟩
          · rw [if_neg e]
            have h3 := ha.row j hj
            exact h3.heap fun b hb => hg1.block b (h3.1.lt b hb).2 fun e2 => ha.ne j k hj (by omega) e b hb e2.symm
      · have hml := Hml.out
        rw [rx_set (by omega)]
        split
        · rename_i e; subst e; simp
        · exact Hle.out j hj
      · have hml := Hml.out
        rw [rx_set (by omega)]
        split
        · rename_i e; subst e; rfl
        · exact hm j (by omega)
    · obtain rfl : k = ll.length := by omega
      go_wp2
      go_ret
      have hmm : mm = markR k0 ll := rows_ext (by simpa using Hml.out) fun j hj => by
        rw [length_markR] at hj
        rw [rx_markR hj]; exact hm j hj
      subst hmm
      exact ⟨rfl, ha, hch⟩

set_option maxHeartbeats 400000 in
theorem heldInt64SS_any (v : Value) (ll : List (List Int)) (k0 : Int) (w : World) (hv : Rows w v (markR k0 ll)) (h0 : 0 ≤ k0) (h1 : k0 + sizeR ll ≤ 4611686018427387904) :
    Calls Try.prog 49 #[v, .int .i64 k0] w fun e w' => e = .returned (.int .i64 (k0 + sizeR ll)) ∧ ∃ q, w' = w.drewN q := by
  obtain ⟨f, hv, hf⟩ := hv
  obtain ⟨A, c, rfl, hlc, hcm, hA⟩ := hv
  rw [length_markR] at *
  go_enter Try.func49, Try.ntmps49
  go_wp2
  go_loopw [1, 5] (fun x i wr => ∃ k q : Nat, k ≤ ll.length ∧ i = .int .i64 k ∧ x = .int .i64 (k0 + (offR ll k : Nat)) ∧ wr = w.drewN q) (fun _ i _ => ll.length - (intOf i).toNat)
  case atStart => exact ⟨0, 0, Nat.zero_le _, rfl, by simp, rfl⟩
  case round =>
    obtain ⟨k, q, hk, rfl, rfl, rfl⟩ := hrel
    by_cases hlt : k < ll.length
    · obtain ⟨a1, rfl, hc1⟩ := hA k hlt
      have hoff := offR_succ hlt
      have htot : offR ll (k + 1) ≤ sizeR ll := offR_le (by omega) (Nat.le_refl _)
      have hfk := hf k hlt
      rw [rx_markR hlt] at hfk
      have hcon := heldInt64S_any (f k) (rx ll k).length (k0 + (offR ll k : Nat)) (w.drewN q) (hfk.kept (Kept.drewN _ _)) (by omega) (by omega)
      rw [show k0 + (offR ll k : Nat) + ((rx ll k).length : Nat) = k0 + (offR ll (k + 1) : Nat) from by omega] at hcon
      have Hc := Lib.hid hcon
      have hpos : ¬ k0 + (offR ll (k + 1) : Nat) < 0 := by omega
      clear hcon hoff hfk hf
      go_wp2_with (go_at_call 24; refine Hc.out.mono ?_; rintro e w' ⟨rfl, q2, rfl⟩)
      exact ⟨⟨k + 1, q + q2, by omega, by go_num, rfl, by simp⟩, by simp [intOf]; omega⟩
    · obtain rfl : k = ll.length := by omega
      go_wp2
      go_ret
      exact ⟨rfl, q, rfl⟩
end Go.Proofs.Ytpnophmanpfejaa
