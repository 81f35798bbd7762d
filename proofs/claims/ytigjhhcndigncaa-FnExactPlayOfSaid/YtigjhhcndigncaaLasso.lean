/- The walks of the laws' helpers at Lasso. Conditions: the lengths. Printed by gen_two.py. -/
import Derived.Test.YtigjhhcndigncaaTwo
namespace Go.Proofs.Ytigjhhcndigncaa
set_option linter.unusedSimpArgs false
set_option linter.unusedVariables false
open Go.RowKit

set_option maxHeartbeats 400000 in
theorem eqLasso_B (v u : Value) (a b : TwoD) (w : World) (hv : IsTwo w v a) (hu : IsTwo w u b) :
    Calls Try.prog 47 #[v, u] w fun e w' => e = .returned (.bool (decide (a = b))) ∧ Below w.heap.size w w' := by
  obtain ⟨o, n, rfl, ho, hn⟩ := hv
  obtain ⟨o', n', rfl, ho', hn'⟩ := hu
  have hb : Below w.heap.size w ((w.alloc (.cells #[o, n] 55)).alloc (.cells #[o', n'] 55)) := ((Below.refl _ _).alloc (Nat.le_refl _) _).alloc (by simp) _
  have hc1 := eqInt64S_any o o' a.fst b.fst _ (ho.kept (Kept.of hb)) (ho'.kept (Kept.of hb))
  have hc2 := fun q => eqInt64S_any n n' a.snd b.snd (((w.alloc (.cells #[o, n] 55)).alloc (.cells #[o', n'] 55)).drewN q) ((hn.kept (Kept.of hb)).kept (Kept.drewN _ _)) ((hn'.kept (Kept.of hb)).kept (Kept.drewN _ _))
  have H1 := Lib.hid hc1
  have H2 := Lib.hid hc2
  clear hc1 hc2
  have hab : decide (a = b) = (decide (a.fst = b.fst) && decide (a.snd = b.snd)) := by
    cases a; cases b; simp
  rw [hab]
  clear hab
  cases hd1 : decide (a.fst = b.fst)
  · go_enter Try.func47, Try.ntmps47
    go_wp2_with fail
    refine H1.out.mono ?_
    rintro e w' ⟨rfl, q, rfl⟩
    go_wp2
    go_ret
    exact ⟨rfl, below_drewN hb _⟩
  · cases hd2 : decide (a.snd = b.snd)
    all_goals
      go_enter Try.func47, Try.ntmps47
      go_wp2_with fail
      refine H1.out.mono ?_
      rintro e w' ⟨rfl, q, rfl⟩
      go_wp2_with fail
      refine (H2.out q).mono ?_
      rintro e w' ⟨rfl, q2, rfl⟩
      go_wp2
      go_ret
      exact ⟨rfl, by simpa using below_drewN hb _⟩

set_option maxHeartbeats 400000 in
theorem markLasso_O (v : Value) (a : TwoD) (k0 : Int) (B C : Nat) (w : World) (hv : OT w B C v a) (h0 : 0 ≤ k0) (h1 : k0 + sizeT a ≤ 4611686018427387904) :
    Calls Try.prog 48 #[v, .int .i64 k0] w fun e w' => e = .returned (.int .i64 (k0 + sizeT a)) ∧ OT w' B C v (markT k0 a) ∧ Only B C w w' := by
  obtain ⟨o, n, rfl, ho, hn, hne⟩ := hv
  unfold sizeT at *
  have hb : Below w.heap.size w (w.alloc (.cells #[o, n] 55)) := (Below.refl _ _).alloc (Nat.le_refl _) _
  have hX := Arr.new w 55 [o, n]
  replace ho := ho.below hb
  replace hn := hn.below hb
  have hol := ho.1.lt
  have hnl := hn.1.lt
  go_enter Try.func48, Try.ntmps48
  go_wp2_with fail
  generalize hW : w.alloc (.cells #[o, n] 55) = W at *
  have hBl : ∀ b, o.ownBlock = some b → b ≠ w.heap.size := fun b hb he => by
    subst he
    rcases ho.1.2 with ⟨rfl, _⟩ | ⟨g, cap, cur, rfl, hg, hh, _⟩
    · simp [Value.ownBlock] at hb
    · simp only [Value.ownBlock, Option.some.injEq] at hb
      subst hb
      rw [hX] at hh
      injection hh with hh
      injection hh with _ ht
      exact absurd ht (by decide)
  clear hW
  refine (markInt64S_any o a.fst k0 B _ ho.1 h0 (by omega)).mono ?_
  rintro e w1 ⟨rfl, ho1, hg1⟩
  have hX1 : Arr w1 w.heap.size 55 [o, n] := (hg1.block _ hX.lt fun e => hBl _ e.symm rfl).trans hX
  have hx1 := hX1.c1
  have hn1 : OwnInts w1 B n a.snd := (hn.heap' fun b hb => hg1.block b (hnl b hb).2 fun e => hne b e.symm hb).1
  go_wp2_with fail
  refine (markInt64S_any n a.snd (k0 + (a.fst.length : Nat)) B _ hn1 (by omega) (by omega)).mono ?_
  rintro e w2 ⟨rfl, hn2, hg2⟩
  have hsum : k0 + (a.fst.length : Nat) + (a.snd.length : Nat) = k0 + ((a.fst.length + a.snd.length : Nat) : Int) := by omega
  have Hs := Lib.hid hsum
  clear hsum
  go_wp2
  go_ret
  refine ⟨by rw [← Hs.out]; rfl, ⟨o, n, rfl, ⟨?_, ho.2⟩, ⟨hn2, hn.2⟩, hne⟩, ?_⟩
  · exact (OI.heap' (C := C) ⟨ho1, ho.2⟩ fun b hb => hg2.block b (ho1.lt b hb).2 fun e => hne b hb e.symm).1
  · have o1 : Only B C w W := Only.of_below hb
    have o2 : Only B C W w1 := Only.grown hg1 fun k hk => ⟨(hol k hk).1, ho.2 k hk⟩
    have o3 : Only B C w1 w2 := Only.grown hg2 fun k hk => ⟨(hnl k hk).1, hn.2 k hk⟩
    exact (o1.trans o2).trans o3
set_option maxHeartbeats 400000 in
theorem heldLasso_B (v : Value) (a : TwoD) (k0 : Int) (w : World) (hv : IsTwo w v (markT k0 a)) (h0 : 0 ≤ k0) (h1 : k0 + sizeT a ≤ 4611686018427387904) :
    Calls Try.prog 49 #[v, .int .i64 k0] w fun e w' => e = .returned (.int .i64 (k0 + sizeT a)) ∧ Below w.heap.size w w' := by
  obtain ⟨o, n, rfl, ho, hn⟩ := hv
  unfold sizeT at *
  have hb : Below w.heap.size w (w.alloc (.cells #[o, n] 55)) := (Below.refl _ _).alloc (Nat.le_refl _) _
  have hX := Arr.new w 55 [o, n]
  have hc1 := heldInt64S_any o a.fst.length k0 _ (ho.kept (Kept.of hb)) h0 (by omega)
  have hc2 := fun q => heldInt64S_any n a.snd.length (k0 + (a.fst.length : Nat)) ((w.alloc (.cells #[o, n] 55)).drewN q) ((hn.kept (Kept.of hb)).kept (Kept.drewN _ _)) (by omega) (by omega)
  have hp1 : ¬ k0 + ((a.fst.length : Nat) : Int) < 0 := by omega
  have hp2 : ¬ k0 + ((a.fst.length : Nat) : Int) + ((a.snd.length : Nat) : Int) < 0 := by omega
  have hsum : k0 + (a.fst.length : Nat) + (a.snd.length : Nat) = k0 + ((a.fst.length + a.snd.length : Nat) : Int) := by omega
  have Hs := Lib.hid hsum
  have H1 := Lib.hid hc1
  have H2 := Lib.hid hc2
  clear hsum hc1 hc2
  go_enter Try.func49, Try.ntmps49
  go_wp2_with fail
  refine H1.out.mono ?_
  rintro e w' ⟨rfl, q, rfl⟩
  go_wp2_with fail
  refine (H2.out q).mono ?_
  rintro e w' ⟨rfl, q2, rfl⟩
  go_wp2
  go_ret
  exact ⟨by rw [← Hs.out]; rfl, by simpa using below_drewN hb _⟩
end Go.Proofs.Ytigjhhcndigncaa
