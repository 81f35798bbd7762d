/- Parity games: read, and made by a call of its own; the walks of the laws' helpers on arenas and games that write or ask. Conditions: the lengths. -/
import Derived.Test.YtpnophmanpfejaaArena
import Derived.Test.YtpnophmanpfejaaSame
import Derived.Test.YtpnophmanpfejaaBools
import Derived.Test.YtpnophmanpfejaaLawBox
import Derived.Outline
namespace Go.Proofs.Ytpnophmanpfejaa
set_option linter.unusedSimpArgs false
set_option linter.unusedVariables false
open Go.RowKit

def markA (k0 : Int) (a : ArenaD) : ArenaD := ⟨upFrom k0 a.owner.length, markR (k0 + (a.owner.length : Nat)) a.next⟩

theorem Chg.trans {S : Nat → Prop} {a b c : World} (h : Chg S a b) (k : Chg S b c) : Chg S a c :=
  ⟨k.os.trans h.os, k.tape.trans h.tape, k.output.trans h.output, Nat.le_trans h.size k.size, fun i hi hne => (k.block i (Nat.lt_of_lt_of_le hi h.size) hne).trans (h.block i hi hne)⟩
theorem Chg.mono {S T : Nat → Prop} {a b : World} (h : Chg S a b) (hST : ∀ k, S k → T k) : Chg T a b := ⟨h.os, h.tape, h.output, h.size, fun k hk hT => h.block k hk fun hS => hT (hST k hS)⟩
theorem Chg.drew {S : Nat → Prop} {a b : World} (h : Chg S a b) : Chg S a b.drew := ⟨h.os, h.tape, h.output, h.size, h.block⟩
theorem Chg.of_grown {a b : World} {row : Option Nat} (h : a.grownBy b row) : Chg (fun k => row = some k) a b :=
  ⟨h.os, h.tape, h.output, h.size, fun k hk hne => h.block k hk fun e => hne e.symm⟩
theorem Chg.of_below {S : Nat → Prop} {a b : World} (h : Below a.heap.size a b) : Chg S a b := ⟨h.os, h.tape, h.output, h.size, fun k hk _ => h.block k hk⟩

theorem RowsV.chg {w w' : World} {B C : Nat} {v : Value} {vs : List Value} {ll : List (List Int)} (h : RowsV w B C v vs ll) {S : Nat → Prop} (hc : Chg S w w') (h1 : ∀ b, v.ownBlock = some b → ¬ S b) (h2 : ∀ k, k < ll.length → ∀ b, (vx vs k).ownBlock = some b → ¬ S b) : RowsV w' B C v vs ll :=
  h.heap (fun b hb => hc.block b (h.own.lt b hb).2 (h1 b hb)) fun k hk b hb => hc.block b ((h.row k hk).1.lt b hb).2 (h2 k hk b hb)
theorem OI.chg {w w' : World} {B C : Nat} {v : Value} {l : List Int} (h : OI w B C v l) {S : Nat → Prop} (hc : Chg S w w') (h1 : ∀ b, v.ownBlock = some b → ¬ S b) : OI w' B C v l :=
  h.heap' fun b hb => hc.block b (h.1.lt b hb).2 (h1 b hb)

/-- .. of bools. -/
theorem OB.chg {w w' : World} {B C : Nat} {v : Value} {l : List Bool} (h : OB w B C v l) {S : Nat → Prop} (hc : Chg S w w') (h1 : ∀ b, v.ownBlock = some b → ¬ S b) : OB w' B C v l := by
  refine ⟨⟨h.1.1, ?_⟩, h.2⟩
  rcases h.1.2 with hn | ⟨g, cap, cur, rfl, hg, hh, rest⟩
  · exact .inl hn
  · exact .inr ⟨g, cap, cur, rfl, hg, (hc.block g (Array.getElem?_eq_some_iff.1 hh).1 (h1 g rfl)).trans hh, rest⟩
/-- The blocks of an arena's numbers. -/
def footA (o : Value) (vs : List Value) (n : Nat) (b : Nat) : Prop := o.ownBlock = some b ∨ ∃ j, j < n ∧ (vx vs j).ownBlock = some b
set_option maxHeartbeats 400000 in
theorem markArena_any (o n : Value) (vs : List Value) (a : ArenaD) (k0 : Int) (B C : Nat) (w : World) (ho : OI w B C o a.owner) (hn : RowsV w B C n vs a.next) (hne : ∀ b, o.ownBlock = some b → ∀ k, k < a.next.length → (vx vs k).ownBlock ≠ some b) (h0 : 0 ≤ k0) (h1 : k0 + sizeA a ≤ 4611686018427387904) :
    Calls Try.prog 47 #[.agg #[o, n], .int .i64 k0] w fun e w' => e = .returned (.int .i64 (k0 + sizeA a)) ∧ OI w' B C o (upFrom k0 a.owner.length) ∧ RowsV w' B C n vs (markR (k0 + (a.owner.length : Nat)) a.next) ∧ Chg (footA o vs a.next.length) w w' := by
  unfold sizeA at *
  have hb : Below w.heap.size w (w.alloc (.cells #[o, n] 30)) := (Below.refl _ _).alloc (Nat.le_refl _) _
  have hX := Arr.new w 30 [o, n]
  have hol := fun b hb => (ho.1.lt b hb).2
  have hnl := fun k hk b hb => ((hn.row k hk).1.lt b hb).2
  replace ho := ho.below hb
  replace hn := hn.kept (Only.of_below (B := C) (C := B) hb) (.inl (Nat.le_refl _))
  have hxl := hX.lt
  go_enter Try.func47, Try.ntmps47
  go_wp2_with fail
  have hch0 : Chg (footA o vs a.next.length) w (w.alloc (.cells #[o, n] 30)) := Chg.of_below hb
  generalize w.alloc (.cells #[o, n] 30) = W at *
  clear hb
  refine (markInt64S_any o a.owner k0 B _ ho.1 h0 (by omega)).mono ?_
  rintro e w1 ⟨rfl, ho1, hg1⟩
  have hc1 := Chg.of_grown hg1
  have hX1 : Arr w1 w.heap.size 30 [o, n] := (hc1.block _ hxl fun e => by have := hol _ e; omega).trans hX
  have hx1 := hX1.c1
  have hn1 := hn.chg hc1 (fun b hb e => by exact absurd hb (owns_ne ho.1 hn.own (by decide) e)) (fun k hk b hb e => hne b e k hk hb)
  have hsum : k0 + (a.owner.length : Nat) + (sizeR a.next : Nat) = k0 + ((a.owner.length + sizeR a.next : Nat) : Int) := by omega
  have Hs := Lib.hid hsum
  clear hsum
  go_wp2_with fail
  refine (markInt64SS_any n vs a.next (k0 + (a.owner.length : Nat)) B C _ hn1 (by omega) (by omega)).mono ?_
  rintro e w2 ⟨rfl, hn2, hc2⟩
  go_wp2
  go_ret
  refine ⟨by rw [← Hs.out]; rfl, ?_, hn2, ?_⟩
  · exact OI.chg ⟨ho1, ho.2⟩ hc2 fun b hb ⟨j, hj, e⟩ => hne b hb j hj e
  · exact (hch0.trans (hc1.mono fun k hk => .inl hk)).trans (hc2.mono fun k hk => .inr hk)
theorem markArena_O (v : Value) (a : ArenaD) (k0 : Int) (B C : Nat) (w : World) (hv : OA w B C v a) (h0 : 0 ≤ k0) (h1 : k0 + sizeA a ≤ 4611686018427387904) :
    Calls Try.prog 47 #[v, .int .i64 k0] w fun e w' => e = .returned (.int .i64 (k0 + sizeA a)) ∧ OA w' B C v (markA k0 a) ∧ Only B C w w' := by
  obtain ⟨o, n, vs, rfl, ho, hn, hne⟩ := hv
  refine (markArena_any o n vs a k0 B C w ho hn hne h0 h1).mono fun e w' ⟨h2, h3, h4, h5⟩ => ⟨h2, ⟨o, n, vs, rfl, h3, h4, fun b hb k hk => hne b hb k (by simpa [markA] using hk)⟩, h5.only fun k hk => ?_⟩
  rcases hk with hk | ⟨j, hj, hk⟩
  · exact ⟨(ho.1.lt k hk).1, ho.2 k hk⟩
  · exact ⟨((hn.row j hj).1.lt k hk).1, (hn.row j hj).2 k hk⟩
set_option maxHeartbeats 400000 in
theorem heldArena_B (v : Value) (a : ArenaD) (k0 : Int) (w : World) (hv : IsArena w v (markA k0 a)) (h0 : 0 ≤ k0) (h1 : k0 + sizeA a ≤ 4611686018427387904) :
    Calls Try.prog 83 #[v, .int .i64 k0] w fun e w' => e = .returned (.int .i64 (k0 + sizeA a)) ∧ Below w.heap.size w w' := by
  obtain ⟨o, n, rfl, ho, hn⟩ := hv
  unfold sizeA at *
  have hb : Below w.heap.size w (w.alloc (.cells #[o, n] 30)) := (Below.refl _ _).alloc (Nat.le_refl _) _
  have hX := Arr.new w 30 [o, n]
  have hc1 := heldInt64S_any o a.owner.length k0 _ (ho.kept (Kept.of hb)) h0 (by omega)
  have hc2 := fun q => heldInt64SS_any n a.next (k0 + (a.owner.length : Nat)) ((w.alloc (.cells #[o, n] 30)).drewN q) ((hn.kept (Kept.of hb)).kept (Kept.drewN _ _)) (by omega) (by omega)
  have hp1 : ¬ k0 + ((a.owner.length : Nat) : Int) < 0 := by omega
  have hp2 : ¬ k0 + ((a.owner.length : Nat) : Int) + ((sizeR a.next : Nat) : Int) < 0 := by omega
  have hsum : k0 + (a.owner.length : Nat) + (sizeR a.next : Nat) = k0 + ((a.owner.length + sizeR a.next : Nat) : Int) := by omega
  have Hs := Lib.hid hsum
  have H1 := Lib.hid hc1
  have H2 := Lib.hid hc2
  clear hsum hc1 hc2
  go_enter Try.func83, Try.ntmps83
  go_wp2_with fail
  refine H1.out.mono ?_
  rintro e w' ⟨rfl, q, rfl⟩
  go_wp2_with fail
  refine (H2.out q).mono ?_
  rintro e w' ⟨rfl, q2, rfl⟩
  go_wp2
  go_ret
  exact ⟨by rw [← Hs.out]; rfl, by simpa using below_drewN hb _⟩

/-- An arena whose blocks have not turned. -/
theorem OA.heapFrom {w w' : World} {B C : Nat} {v : Value} {a : ArenaD} (h : OA w B C v a) (hh : ∀ b, B ≤ b → w'.heap[b]? = w.heap[b]?) : OA w' B C v a := by
  obtain ⟨o, n, vs, rfl, h1, h2, h3⟩ := h
  exact ⟨o, n, vs, rfl, h1.heap' fun b hb => hh b (h1.1.lt b hb).1, h2.heap (fun b hb => hh b (h2.own.lt b hb).1) (fun k hk b hb => hh b ((h2.row k hk).1.lt b hb).1), h3⟩

structure ParityD where
  arena : ArenaD
  prio : List Int
  deriving DecidableEq
/-- v is a game that reads as g. -/
def IsParity (w : World) (v : Value) (g : ParityD) : Prop := ∃ o n p, v = .agg #[o, n, p] ∧ Ints w o g.arena.owner ∧ Rows w n g.arena.next ∧ Ints w p g.prio
theorem IsParity.kept {w w' : World} {v : Value} {g : ParityD} (h : IsParity w v g) (hk : Kept w w') : IsParity w' v g := by
  obtain ⟨o, n, p, rfl, h1, h2, h3⟩ := h
  exact ⟨o, n, p, rfl, h1.kept hk, h2.kept hk, h3.kept hk⟩
theorem IsParity.open {w : World} {v : Value} {g : ParityD} (h : IsParity w v g) : ∃ o n p, v = .agg #[o, n, p] := by
  obtain ⟨o, n, p, h, _⟩ := h; exact ⟨o, n, p, h⟩
theorem IsParity.parts {w : World} {o n p : Value} {g : ParityD} (h : IsParity w (.agg #[o, n, p]) g) : IsArena w (.agg #[o, n]) g.arena ∧ Ints w p g.prio := by
  obtain ⟨o', n', p', he, h1, h2, h3⟩ := h
  simp only [Value.agg.injEq, Array.mk.injEq, List.cons.injEq, and_true] at he
  obtain ⟨rfl, rfl, rfl⟩ := he
  exact ⟨⟨_, _, rfl, h1, h2⟩, h3⟩
theorem IsParity.mk' {w : World} {o n p : Value} {g : ParityD} (h1 : IsArena w (.agg #[o, n]) g.arena) (h2 : Ints w p g.prio) : IsParity w (.agg #[o, n, p]) g := by
  obtain ⟨h3, h4⟩ := h1.parts
  exact ⟨o, n, p, rfl, h3, h4, h2⟩
/-- .. of a call's own, from block B on and below C. -/
def OP (w : World) (B C : Nat) (v : Value) (g : ParityD) : Prop :=
  ∃ o n p vs, v = .agg #[o, n, p] ∧ OI w B C o g.arena.owner ∧ RowsV w B C n vs g.arena.next ∧ OI w B C p g.prio ∧ (∀ b, o.ownBlock = some b → ∀ k, k < g.arena.next.length → (vx vs k).ownBlock ≠ some b) ∧ (∀ b, p.ownBlock = some b → o.ownBlock ≠ some b) ∧ (∀ b, p.ownBlock = some b → ∀ k, k < g.arena.next.length → (vx vs k).ownBlock ≠ some b)
theorem OP.parity {w : World} {B C : Nat} {v : Value} {g : ParityD} (h : OP w B C v g) : IsParity w v g := by
  obtain ⟨o, n, p, vs, rfl, h1, h2, h3, _⟩ := h
  exact ⟨o, n, p, rfl, h1.ints, h2.rows, h3.ints⟩
theorem OP.kept {w w' : World} {B C B' C' : Nat} {v : Value} {g : ParityD} (h : OP w B C v g) (ho : Only B' C' w w') (hd : C ≤ B' ∨ C' ≤ B) : OP w' B C v g := by
  obtain ⟨o, n, p, vs, rfl, h1, h2, h3, h4, h5, h6⟩ := h
  exact ⟨o, n, p, vs, rfl, h1.kept ho hd, h2.kept ho hd, h3.kept ho hd, h4, h5, h6⟩
theorem OP.below {w w' : World} {B C : Nat} {v : Value} {g : ParityD} (h : OP w B C v g) (hb : Below w.heap.size w w') : OP w' B C v g := h.kept (Only.of_below (B := C) (C := B) hb) (.inl (Nat.le_refl _))
theorem OP.mono {w : World} {B C B' C' : Nat} {v : Value} {g : ParityD} (h : OP w B C v g) (hB : B' ≤ B) (hC : C ≤ C') : OP w B' C' v g := by
  obtain ⟨o, n, p, vs, rfl, h1, h2, h3, h4, h5, h6⟩ := h
  exact ⟨o, n, p, vs, rfl, h1.mono hB hC, h2.mono hB hC, h3.mono hB hC, h4, h5, h6⟩
theorem OP.form {w : World} {B C : Nat} {v : Value} {g : ParityD} (h : OP w B C v g) : ∃ A c A' c' D d, v = .agg #[.slice A g.arena.owner.length c, .slice A' g.arena.next.length c', .slice D g.prio.length d] := by
  obtain ⟨o, n, p, vs, rfl, h1, h2, h3, _⟩ := h
  obtain ⟨A, c, rfl, _⟩ := h1.ints.form
  obtain ⟨A', c', rfl⟩ := h2.form
  obtain ⟨D, d, rfl, _⟩ := h3.ints.form
  exact ⟨A, c, A', c', D, d, rfl⟩
/-- An arena of one call and a row of a later one make a game. -/
theorem OP.join {w : World} {B C M : Nat} {o n p : Value} {g : ParityD} (h1 : OA w B M (.agg #[o, n]) g.arena) (h2 : OI w M C p g.prio) (hB : B ≤ M) (hC : M ≤ C) : OP w B C (.agg #[o, n, p]) g := by
  obtain ⟨o', n', vs, he, h3, h4, h5⟩ := h1
  simp only [Value.agg.injEq, Array.mk.injEq, List.cons.injEq, and_true] at he
  obtain ⟨rfl, rfl⟩ := he
  refine ⟨o, n, p, vs, rfl, h3.mono (Nat.le_refl _) hC, h4.mono (Nat.le_refl _) hC, h2.mono hB (Nat.le_refl _), h5, fun b hb e => ?_, fun b hb k hk e => ?_⟩
  · have := (h2.1.lt b hb).1; have := h3.2 b e; omega
  · have := (h2.1.lt b hb).1; have := (h4.row k hk).2 b e; omega
def sizeP (g : ParityD) : Nat := sizeA g.arena + g.prio.length
def bulkP (g : ParityD) : Nat := bulkA g.arena + g.prio.length
def markP (k0 : Int) (g : ParityD) : ParityD := ⟨markA k0 g.arena, upFrom (k0 + (sizeA g.arena : Nat)) g.prio.length⟩

theorem sizeA_le (a : ArenaD) : sizeA a ≤ bulkA a := by unfold sizeA bulkA; omega
theorem sizeP_le (g : ParityD) : sizeP g ≤ bulkP g := by have := sizeA_le g.arena; unfold sizeP bulkP; omega
set_option maxHeartbeats 400000 in
theorem szParity_any (v : Value) (g : ParityD) (left : Int) (w : World) (hv : IsParity w v g) (h0 : 0 ≤ left) (h1 : left ≤ 1048576) :
    Calls Try.prog 15 #[v, .int .i64 left] w fun e w' => e = .returned (.int .i64 (szLeft (bulkP g) left)) ∧ Below w.heap.size w w' := by
  obtain ⟨o, n, p, rfl⟩ := hv.open
  obtain ⟨ha, hp⟩ := hv.parts
  have hb : Below w.heap.size w (w.alloc (.cells #[o, n, p] 27)) := (Below.refl _ _).alloc (Nat.le_refl _) _
  have hX := Arr.new w 27 [o, n, p]
  have hc1 := szArena_any (.agg #[o, n]) g.arena left _ (ha.kept (Kept.of hb)) h0 h1
  have hxl := hX.lt
  by_cases g1 : (bulkA g.arena : Int) ≤ left
  · rw [szLeft_pos g1] at hc1
    rw [show bulkP g = bulkA g.arena + g.prio.length from rfl, szLeft_add g1]
    have hpos1 : ¬ left - ((bulkA g.arena : Nat) : Int) < 0 := by omega
    have hc2 := fun W hW => szInt64S_any p g.prio (left - (bulkA g.arena : Nat)) W (hp.kept hW) (by omega) (by omega)
    have H1 := Lib.hid hc1
    have H2 := Lib.hid hc2
    clear hc1 hc2
    have hpos2 : ∃ r2 : Int, szLeft g.prio.length (left - ((bulkA g.arena : Nat) : Int)) = r2 := ⟨_, rfl⟩
    obtain ⟨r2, hr2⟩ := hpos2
    rw [hr2]
    have hneg : r2 < 0 → r2 = -1 := fun h => by
      rw [← hr2] at h ⊢
      unfold szLeft at h ⊢
      split
      · rename_i hh; rw [if_pos hh] at h; omega
      · rfl
    have Hneg := Lib.hid hneg
    have Hr2 := Lib.hid hr2
    clear hr2 hneg
    have H2' : Hid (∀ W, Kept w W → Calls Try.prog 71 #[p, .int .i64 (left - (bulkA g.arena : Nat))] W fun e w' => e = .returned (.int .i64 r2) ∧ w' = W) := by
      refine Lib.hid fun W hW => ?_
      have := H2.out W hW
      rwa [Hr2.out] at this
    clear H2 g1
    generalize left - ((bulkA g.arena : Nat) : Int) = r1 at *
    go_enter Try.func15, Try.ntmps15
    go_wp2_with fail
    generalize w.alloc (.cells #[o, n, p] 27) = W at *
    refine H1.out.mono ?_
    rintro e w1 ⟨rfl, hb1⟩
    have hX1 := hX.below hb1 hxl
    have hx2 := hX1.c2
    have hbw := Below.up hb hb1
    go_wp2_with fail
    refine (H2'.out _ (Kept.of hbw)).mono ?_
    rintro e w2 ⟨rfl, hw2⟩
    subst w2
    by_cases g2 : r2 < 0
    · go_wp2
      go_ret
      exact ⟨by rw [Hneg.out g2]; rfl, hbw⟩
    · go_wp2
      go_ret
      exact ⟨rfl, hbw⟩
  · rw [szLeft_neg g1] at hc1
    rw [show bulkP g = bulkA g.arena + g.prio.length from rfl, szLeft_none g1]
    have H1 := Lib.hid hc1
    clear hc1 g1
    go_enter Try.func15, Try.ntmps15
    go_wp2_with fail
    refine H1.out.mono ?_
    rintro e w' ⟨rfl, hb1⟩
    go_wp2
    go_ret
    exact ⟨rfl, Below.up hb hb1⟩
set_option maxHeartbeats 800000 in
theorem toParity_B (v : Value) (g : ParityD) (w : World) (hv : IsParity w v g) (h1 : bulkP g ≤ 4194304) :
    Calls Try.prog 17 #[v] w fun e w' => ∃ u, e = .returned u ∧ OP w' w.heap.size w'.heap.size u g ∧ Below w.heap.size w w' := by
  obtain ⟨o, n, p, rfl⟩ := hv.open
  obtain ⟨ha, hp⟩ := hv.parts
  unfold bulkP at h1
  go_enter Try.func17, Try.ntmps17
  go_wp2_with fail
  have hb : Below w.heap.size w (((w.alloc (.cells #[o, n, p] 27)).alloc (.cells #[.slice none 0 0, .slice none 0 0, .slice none 0 0] 32)).alloc (.cells #[.slice none 0 0, .slice none 0 0, .slice none 0 0] 32)) :=
    (((Below.refl _ _).alloc (Nat.le_refl _) _).alloc (by simp) _).alloc (by simp; omega) _
  have hA : Arr (((w.alloc (.cells #[o, n, p] 27)).alloc (.cells #[.slice none 0 0, .slice none 0 0, .slice none 0 0] 32)).alloc (.cells #[.slice none 0 0, .slice none 0 0, .slice none 0 0] 32)) w.heap.size 27 [o, n, p] :=
    ((Arr.new w _ [o, n, p]).alloc _).alloc _
  have hO : Arr (((w.alloc (.cells #[o, n, p] 27)).alloc (.cells #[.slice none 0 0, .slice none 0 0, .slice none 0 0] 32)).alloc (.cells #[.slice none 0 0, .slice none 0 0, .slice none 0 0] 32)) (w.heap.size + 1) 32 [.slice none 0 0, .slice none 0 0, .slice none 0 0] := by
    have := (Arr.new (w.alloc (.cells #[o, n, p] 27)) 32 [.slice none 0 0, .slice none 0 0, .slice none 0 0]).alloc (.cells #[.slice none 0 0, .slice none 0 0, .slice none 0 0] 32)
    simpa using this
  have hX : Arr (((w.alloc (.cells #[o, n, p] 27)).alloc (.cells #[.slice none 0 0, .slice none 0 0, .slice none 0 0] 32)).alloc (.cells #[.slice none 0 0, .slice none 0 0, .slice none 0 0] 32)) (w.heap.size + 1 + 1) 32 [.slice none 0 0, .slice none 0 0, .slice none 0 0] := by
    have := Arr.new ((w.alloc (.cells #[o, n, p] 27)).alloc (.cells #[.slice none 0 0, .slice none 0 0, .slice none 0 0] 32)) 32 [.slice none 0 0, .slice none 0 0, .slice none 0 0]
    simpa using this
  generalize ((w.alloc (.cells #[o, n, p] 27)).alloc (.cells #[.slice none 0 0, .slice none 0 0, .slice none 0 0] 32)).alloc (.cells #[.slice none 0 0, .slice none 0 0, .slice none 0 0] 32) = W at *
  refine (toArena_any (.agg #[o, n]) g.arena _ (ha.kept (Kept.of hb)) (by omega)).mono ?_
  rintro e w1 ⟨u1, rfl, ho1, hb1⟩
  obtain ⟨A1, c1, A2, c2, hu1⟩ := ho1.form
  subst hu1
  replace hA := hA.below hb1 hA.lt
  replace hO := hO.below hb1 hO.lt
  have hXl := hX.lt
  replace hX := hX.below hb1 hX.lt
  have hx0 := hX.c0
  have hx1 := hX.c1
  have hxf0 := hX.frozen 0
  have hxf1 := hX.frozen 1
  have ha2 := hA.c2
  have hs1 := hb1.size
  have hbw1 : Below w.heap.size w w1 := hb.trans (hb1.mono hb.size)
  go_wp2_with fail
  have hX2 := (hX.set_ 0 (.slice A1 g.arena.owner.length c1)).set_ 1 (.slice A2 g.arena.next.length c2)
  have hO2 := (hO.far (p := ⟨w.heap.size + 1 + 1, 0, none⟩) (by simp) (.slice A1 g.arena.owner.length c1)).far (p := ⟨w.heap.size + 1 + 1, 1, none⟩) (by simp) (.slice A2 g.arena.next.length c2)
  have hb2 := (hbw1.setCell (p := ⟨w.heap.size + 1 + 1, 0, none⟩) (by simp; omega) (.slice A1 g.arena.owner.length c1)).setCell (p := ⟨w.heap.size + 1 + 1, 1, none⟩) (by simp; omega) (.slice A2 g.arena.next.length c2)
  have hx2' : ∀ b, W.heap.size ≤ b → (((w1.setCell ⟨w.heap.size + 1 + 1, 0, none⟩ (.slice A1 g.arena.owner.length c1)).setCell ⟨w.heap.size + 1 + 1, 1, none⟩ (.slice A2 g.arena.next.length c2))).heap[b]? = w1.heap[b]? := fun b hb => by
    rw [Below.heap_setCell _ _ _ _ (by simp; omega), Below.heap_setCell _ _ _ _ (by simp; omega)]
  have ho2 := OA.heapFrom ho1 hx2'
  have hs2 : ((w1.setCell ⟨w.heap.size + 1 + 1, 0, none⟩ (.slice A1 g.arena.owner.length c1)).setCell ⟨w.heap.size + 1 + 1, 1, none⟩ (.slice A2 g.arena.next.length c2)).heap.size = w1.heap.size := by simp
  clear hX hO ho1 hx0 hx1 hxf0 hxf1 ha2 hA hx2'
  generalize (w1.setCell ⟨w.heap.size + 1 + 1, 0, none⟩ (.slice A1 g.arena.owner.length c1)).setCell ⟨w.heap.size + 1 + 1, 1, none⟩ (.slice A2 g.arena.next.length c2) = W2 at *
  refine (toInt64S_any p g.prio _ (hp.kept (Kept.of hb2)) (by omega)).mono ?_
  rintro e w3 ⟨u2, rfl, ho3, hb3⟩
  obtain ⟨A3, c3, rfl⟩ := ints_of_ret ho3
  replace hX2 := hX2.below hb3 hX2.lt
  replace hO2 := hO2.below hb3 hO2.lt
  have ha3 := ho2.below hb3
  have hbw3 := hb2.trans (hb3.mono hb2.size)
  have hs3 := hb3.size
  have hx0 := hX2.c0
  have hx1 := hX2.c1
  have hx2 := hX2.c2
  have hx2f := hX2.frozen 2
  have ho0 := hO2.c0
  have ho1 := hO2.c1
  have ho2 := hO2.c2
  have ho0f := hO2.frozen 0
  have ho1f := hO2.frozen 1
  have ho2f := hO2.frozen 2
  have Hs2 := Lib.hid hs2
  clear hs2
  go_wp2_with fail
  clear hx0 hx1 hx2 hx2f ho0 ho1 ho2 ho0f ho1f ho2f
  have hO5 := (((hO2.far (p := ⟨w.heap.size + 1 + 1, 2, none⟩) (by simp) (.slice A3 g.prio.length c3)).set_ 0 (.slice A1 g.arena.owner.length c1)).set_ 1 (.slice A2 g.arena.next.length c2)).set_ 2 (.slice A3 g.prio.length c3)
  have hbw5 := (((hbw3.setCell (p := ⟨w.heap.size + 1 + 1, 2, none⟩) (by simp; omega) (.slice A3 g.prio.length c3)).setCell (p := ⟨w.heap.size + 1, 0, none⟩) (by simp) (.slice A1 g.arena.owner.length c1)).setCell (p := ⟨w.heap.size + 1, 1, none⟩) (by simp) (.slice A2 g.arena.next.length c2)).setCell (p := ⟨w.heap.size + 1, 2, none⟩) (by simp) (.slice A3 g.prio.length c3)
  have hch : ∀ b, W.heap.size ≤ b → ((((w3.setCell ⟨w.heap.size + 1 + 1, 2, none⟩ (.slice A3 g.prio.length c3)).setCell ⟨w.heap.size + 1, 0, none⟩ (.slice A1 g.arena.owner.length c1)).setCell ⟨w.heap.size + 1, 1, none⟩ (.slice A2 g.arena.next.length c2)).setCell ⟨w.heap.size + 1, 2, none⟩ (.slice A3 g.prio.length c3)).heap[b]? = w3.heap[b]? := fun b hb => by
    rw [Below.heap_setCell _ _ _ _ (by simp; omega), Below.heap_setCell _ _ _ _ (by simp; omega), Below.heap_setCell _ _ _ _ (by simp; omega), Below.heap_setCell _ _ _ _ (by simp; omega)]
  have hsz : ((((w3.setCell ⟨w.heap.size + 1 + 1, 2, none⟩ (.slice A3 g.prio.length c3)).setCell ⟨w.heap.size + 1, 0, none⟩ (.slice A1 g.arena.owner.length c1)).setCell ⟨w.heap.size + 1, 1, none⟩ (.slice A2 g.arena.next.length c2)).setCell ⟨w.heap.size + 1, 2, none⟩ (.slice A3 g.prio.length c3)).heap.size = w3.heap.size := by simp
  generalize (((w3.setCell ⟨w.heap.size + 1 + 1, 2, none⟩ (.slice A3 g.prio.length c3)).setCell ⟨w.heap.size + 1, 0, none⟩ (.slice A1 g.arena.owner.length c1)).setCell ⟨w.heap.size + 1, 1, none⟩ (.slice A2 g.arena.next.length c2)).setCell ⟨w.heap.size + 1, 2, none⟩ (.slice A3 g.prio.length c3) = W5 at *
  have q0 := hO5.c0
  have q1 := hO5.c1
  have q2 := hO5.c2
  have hs2 := Hs2.out
  refine bodyPost_ret (v := .agg #[.slice A1 g.arena.owner.length c1, .slice A2 g.arena.next.length c2, .slice A3 g.prio.length c3]) (by simp [results, Try.results17, go_sem, q0, q1, q2]) rfl ⟨_, rfl, ?_, hbw5⟩
  refine OP.join (M := W2.heap.size) (((ha3.heapFrom hch).mono (by omega) (by omega))) (OI.heap' (w := w3) ⟨ho3, fun b hb => by have := (ho3.lt b hb).2; omega⟩ fun b hb => hch b (by have := (ho3.lt b hb).1; omega)) (by omega) (by omega)
set_option maxHeartbeats 400000 in
theorem eqParity_B (v u : Value) (a b : ParityD) (w : World) (hv : IsParity w v a) (hu : IsParity w u b) :
    Calls Try.prog 21 #[v, u] w fun e w' => e = .returned (.bool (decide (a = b))) ∧ Below w.heap.size w w' := by
  obtain ⟨o, n, p, rfl⟩ := hv.open
  obtain ⟨o', n', p', rfl⟩ := hu.open
  obtain ⟨ha, hp⟩ := hv.parts
  obtain ⟨ha', hp'⟩ := hu.parts
  have hab : decide (a = b) = (decide (a.arena = b.arena) && decide (a.prio = b.prio)) := by
    cases a; cases b; simp
  rw [hab]
  clear hab
  have hb : Below w.heap.size w ((w.alloc (.cells #[o, n, p] 32)).alloc (.cells #[o', n', p'] 32)) := ((Below.refl _ _).alloc (Nat.le_refl _) _).alloc (by simp) _
  have hX : Arr ((w.alloc (.cells #[o, n, p] 32)).alloc (.cells #[o', n', p'] 32)) w.heap.size 32 [o, n, p] := (Arr.new w _ [o, n, p]).alloc _
  have hY : Arr ((w.alloc (.cells #[o, n, p] 32)).alloc (.cells #[o', n', p'] 32)) (w.heap.size + 1) 32 [o', n', p'] := by
    simpa using Arr.new (w.alloc (.cells #[o, n, p] 32)) 32 [o', n', p']
  have hd1 : ∃ d1, decide (a.arena = b.arena) = d1 := ⟨_, rfl⟩
  obtain ⟨d1, hd1⟩ := hd1
  have hd2 : ∃ d2, decide (a.prio = b.prio) = d2 := ⟨_, rfl⟩
  obtain ⟨d2, hd2⟩ := hd2
  have hc1 := eqArena_any (.agg #[o, n]) (.agg #[o', n']) a.arena b.arena _ (ha.kept (Kept.of hb)) (ha'.kept (Kept.of hb))
  have hc2 := fun W (hW : Kept w W) => eqInt64S_B p p' a.prio b.prio W (hp.kept hW) (hp'.kept hW)
  rw [hd1] at hc1
  rw [hd2] at hc2
  rw [hd1, hd2]
  clear hd1 hd2
  have H1 := Lib.hid hc1
  have H2 := Lib.hid hc2
  clear hc1 hc2
  have hxl := hX.lt
  have hyl := hY.lt
  cases d1
  · go_enter Try.func21, Try.ntmps21
    go_wp2_with fail
    refine H1.out.mono ?_
    rintro e w1 ⟨rfl, hb1⟩
    go_wp2
    go_ret
    exact ⟨rfl, Below.up hb hb1⟩
  · cases d2
    all_goals
      go_enter Try.func21, Try.ntmps21
      go_wp2_with fail
      refine H1.out.mono ?_
      rintro e w1 ⟨rfl, hb1⟩
      have hX1 := (hX.below hb1 hxl).c2
      have hY1 := (hY.below hb1 hyl).c2
      have hbw := Below.up hb hb1
      clear hb1 hb
      go_wp2_with fail
      refine (H2.out _ (Kept.of hbw)).mono ?_
      rintro e w2 ⟨rfl, hb2⟩
      go_wp2
      go_ret
      exact ⟨rfl, Below.up hbw hb2⟩
set_option maxHeartbeats 400000 in
theorem markParity_O (v : Value) (g : ParityD) (k0 : Int) (B C : Nat) (w : World) (hv : OP w B C v g) (h0 : 0 ≤ k0) (h1 : k0 + sizeP g ≤ 4611686018427387904) :
    Calls Try.prog 22 #[v, .int .i64 k0] w fun e w' => e = .returned (.int .i64 (k0 + sizeP g)) ∧ OP w' B C v (markP k0 g) ∧ Only B C w w' := by
  obtain ⟨o, n, p, vs, rfl, ho, hn, hp, hne, hpo, hpn⟩ := hv
  unfold sizeP at *
  have hb : Below w.heap.size w (w.alloc (.cells #[o, n, p] 32)) := (Below.refl _ _).alloc (Nat.le_refl _) _
  have hX := Arr.new w 32 [o, n, p]
  have hxl := hX.lt
  have hfl : ∀ b, footA o vs g.arena.next.length b → B ≤ b ∧ b < C ∧ b < w.heap.size := fun b h => by
    rcases h with h | ⟨j, hj, h⟩
    · exact ⟨(ho.1.lt b h).1, ho.2 b h, (ho.1.lt b h).2⟩
    · exact ⟨((hn.row j hj).1.lt b h).1, (hn.row j hj).2 b h, ((hn.row j hj).1.lt b h).2⟩
  have hpl := fun b hb => hp.1.lt b hb
  replace ho := ho.below hb
  replace hp := hp.below hb
  replace hn := hn.kept (Only.of_below (B := C) (C := B) hb) (.inl (Nat.le_refl _))
  have hsum : k0 + (sizeA g.arena : Nat) + (g.prio.length : Nat) = k0 + ((sizeA g.arena + g.prio.length : Nat) : Int) := by omega
  have Hs := Lib.hid hsum
  clear hsum
  go_enter Try.func22, Try.ntmps22
  go_wp2_with fail
  have o1 : Only B C w (w.alloc (.cells #[o, n, p] 32)) := Only.of_below hb
  generalize w.alloc (.cells #[o, n, p] 32) = W at *
  clear hb
  refine (markArena_any o n vs g.arena k0 B C _ ho hn hne h0 (by omega)).mono ?_
  rintro e w1 ⟨rfl, ho1, hn1, hc1⟩
  have hX1 : Arr w1 w.heap.size 32 [o, n, p] := (hc1.block _ hxl fun e => by have := hfl _ e; omega).trans hX
  have hx2 := hX1.c2
  have hp1 := hp.chg hc1 fun b hb e => by
    rcases e with e | ⟨j, hj, e⟩
    · exact hpo b hb e
    · exact hpn b hb j hj e
  go_wp2_with fail
  refine (markInt64S_any p g.prio (k0 + (sizeA g.arena : Nat)) B _ hp1.1 (by omega) (by omega)).mono ?_
  rintro e w2 ⟨rfl, hp2, hg2⟩
  have hc2 := Chg.of_grown hg2
  go_wp2
  go_ret
  refine ⟨by rw [← Hs.out]; rfl, ⟨o, n, p, vs, rfl, ?_, ?_, ⟨hp2, hp.2⟩, ?_, hpo, ?_⟩, ?_⟩
  · exact ho1.chg hc2 fun b hb e => hpo b e hb
  · exact hn1.chg hc2 (fun b hb e => by exact absurd hb (owns_ne hp.1 hn.own (by decide) e)) (fun k hk b hb e => hpn b e k (by simpa using hk) hb)
  · exact fun b hb k hk => hne b hb k (by simpa [markP, markA] using hk)
  · exact fun b hb k hk => hpn b hb k (by simpa [markP, markA] using hk)
  · have o2 : Only B C W w1 := hc1.only fun k hk => ⟨(hfl k hk).1, (hfl k hk).2.1⟩
    have o3 : Only B C w1 w2 := hc2.only fun k hk => ⟨(hpl k hk).1, hp.2 k hk⟩
    exact (o1.trans o2).trans o3
set_option maxHeartbeats 400000 in
theorem heldParity_B (v : Value) (g : ParityD) (k0 : Int) (w : World) (hv : IsParity w v (markP k0 g)) (h0 : 0 ≤ k0) (h1 : k0 + sizeP g ≤ 4611686018427387904) :
    Calls Try.prog 27 #[v, .int .i64 k0] w fun e w' => e = .returned (.int .i64 (k0 + sizeP g)) ∧ Below w.heap.size w w' := by
  obtain ⟨o, n, p, rfl⟩ := hv.open
  obtain ⟨ha, hp⟩ := hv.parts
  unfold sizeP at *
  have hb : Below w.heap.size w (w.alloc (.cells #[o, n, p] 32)) := (Below.refl _ _).alloc (Nat.le_refl _) _
  have hX := Arr.new w 32 [o, n, p]
  have hxl := hX.lt
  have hc1 := heldArena_B (.agg #[o, n]) g.arena k0 _ (ha.kept (Kept.of hb)) h0 (by omega)
  have hc2 := fun W (hW : Kept w W) => heldInt64S_any p g.prio.length (k0 + (sizeA g.arena : Nat)) W (hp.kept hW) (by omega) (by omega)
  have hp1 : ¬ k0 + ((sizeA g.arena : Nat) : Int) < 0 := by omega
  have hp2 : ¬ k0 + ((sizeA g.arena : Nat) : Int) + ((g.prio.length : Nat) : Int) < 0 := by omega
  have hsum : k0 + (sizeA g.arena : Nat) + (g.prio.length : Nat) = k0 + ((sizeA g.arena + g.prio.length : Nat) : Int) := by omega
  have Hs := Lib.hid hsum
  have H1 := Lib.hid hc1
  have H2 := Lib.hid hc2
  clear hsum hc1 hc2
  go_enter Try.func27, Try.ntmps27
  go_wp2_with fail
  refine H1.out.mono ?_
  rintro e w1 ⟨rfl, hb1⟩
  have hx2 := (hX.below hb1 hxl).c2
  have hbw := Below.up hb hb1
  clear hb hb1
  go_wp2_with fail
  refine (H2.out _ (Kept.of hbw)).mono ?_
  rintro e w2 ⟨rfl, q2, rfl⟩
  go_wp2
  go_ret
  exact ⟨by rw [← Hs.out]; rfl, below_drewN hbw _⟩
end Go.Proofs.Ytpnophmanpfejaa
