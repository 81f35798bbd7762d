/- The walk of the law on WonIn: it returns true and writes nothing that was there. Printed by gen_laws2.py. -/
import Derived.Test.YtmkmghjmfaoobaaGameSpec
import Derived.Test.YtmkmghjmfaoobaaPkB
import Derived.Deep.RegionHeld3
namespace Go.Proofs.Ytmkmghjmfaoobaa
set_option linter.unusedSimpArgs false
set_option linter.unusedVariables false
open Go.RowKit

set_option maxRecDepth 100000 in
set_option maxHeartbeats 2000000 in
theorem FnExactWonIn_true (v0 : Value) (l0 : ParityD) (v1 : Value) (l1 : List Int) (w : World) (hl0 : IsParity w v0 l0) (hl1 : Ints w v1 l1) :
    Calls Try.prog 4 #[v0, v1] w fun e w' => e = .returned (.bool true) ∧ Below w.heap.size w w' := by
  obtain ⟨p0x0, p0x1, p0x2, he0⟩ := hl0.open
  subst he0
  obtain ⟨A1, c1, rfl, hlc1, hcm1⟩ := hl1.form
  have hB0 := Arr.new w 27 [p0x0, p0x1, p0x2]
  have hbw : Below w.heap.size w (w.alloc (.cells #[p0x0, p0x1, p0x2] 27)) := ((Below.refl _ _).alloc (Nat.le_refl _) (.cells #[p0x0, p0x1, p0x2] 27))
  have hBl0 := hB0.lt
  by_cases g1 : l1.length ≤ 1048576
  · skip
    by_cases g0 : (bulkP l0 : Int) ≤ 1048576
    · skip
      have hz0 : szLeft (bulkP l0) (1048576) = 1048576 - bulkP l0 := szLeft_pos g0
      have hp0 : ¬ 1048576 - (bulkP l0 : Int) < 0 := by omega
      have hD0 : (wonE l0 l1).length ≤ 1048576 := wonE_len l0 l1
      have hD1 : (wonO l0 l1).length ≤ 1048576 := wonO_len l0 l1
      have hSz0 := sizeP_le l0
      go_enter Try.func4, Try.ntmps4
      have hB0z := hB0.lt
      have hB0c0 := hB0.c0
      have hB0c1 := hB0.c1
      have hB0c2 := hB0.c2
      go_wp2_with fail
      refine (szParity_any _ l0 (1048576) _ (hl0.kept (Kept.of hbw)) (by omega) (by omega)).mono ?_
      rintro e w1 ⟨rfl, hb1⟩
      clear hB0c0 hB0c1 hB0c2 hB0z
      replace hB0 := hB0.below hb1 hB0.lt
      replace hbw := Below.up hbw hb1
      have hb1s := hb1.size
      have hB0z := hB0.lt
      have hB0c0 := hB0.c0
      have hB0c1 := hB0.c1
      have hB0c2 := hB0.c2
      clear hb1
      go_wp2_with fail
      refine (toParity_B _ l0 _ (hl0.kept (Kept.of hbw)) (by omega)).mono ?_
      rintro e w2 ⟨t0, rfl, ht0, hb2⟩
      clear hB0c0 hB0c1 hB0c2 hB0z
      replace hB0 := hB0.below hb2 hB0.lt
      replace hbw := Below.up hbw hb2
      have hb2s := hb2.size
      have hB0z := hB0.lt
      have hB0c0 := hB0.c0
      have hB0c1 := hB0.c1
      have hB0c2 := hB0.c2
      clear hb2
      go_wp2_with fail
      refine (toInt64S_B _ l1 _ (hl1.kept (Kept.of hbw)) (by omega)).mono ?_
      rintro e w3 ⟨t1, rfl, ht1, hb3⟩
      clear hB0c0 hB0c1 hB0c2 hB0z
      replace hB0 := hB0.below hb3 hB0.lt
      replace ht0 := ht0.below hb3
      replace hbw := Below.up hbw hb3
      have hb3s := hb3.size
      have hB0z := hB0.lt
      have hB0c0 := hB0.c0
      have hB0c1 := hB0.c1
      have hB0c2 := hB0.c2
      clear hb3
      clear hz0 hp0
      go_wp2_with fail
      refine (specWonIn_any t0 l0 t1 l1 _ ht0.parity ht1.ints (by omega)).mono ?_
      rintro e w4 ⟨r0, r1, Br0, Cr0, Br1, Cr1, rfl, hr0, hr1, hrd, hb4⟩
      clear hB0c0 hB0c1 hB0c2 hB0z
      replace hB0 := hB0.below hb4 hB0.lt
      replace ht0 := ht0.below hb4
      replace ht1 := ht1.below hb4
      replace hbw := Below.up hbw hb4
      have hb4s := hb4.size
      have hB0z := hB0.lt
      have hB0c0 := hB0.c0
      have hB0c1 := hB0.c1
      have hB0c2 := hB0.c2
      clear hb4
      clear ht0
      clear ht1
      go_wp2_with fail
      refine (toParity_B _ l0 _ (hl0.kept (Kept.of hbw)) (by omega)).mono ?_
      rintro e w5 ⟨x0, rfl, hx0, hb5⟩
      clear hB0c0 hB0c1 hB0c2 hB0z
      replace hB0 := hB0.below hb5 hB0.lt
      replace hr0 := hr0.below hb5
      replace hr1 := hr1.below hb5
      replace hbw := Below.up hbw hb5
      have hb5s := hb5.size
      have hB0z := hB0.lt
      have hB0c0 := hB0.c0
      have hB0c1 := hB0.c1
      have hB0c2 := hB0.c2
      clear hb5
      obtain ⟨x0A, x0a, x0B, x0b, x0C, x0c, he⟩ := hx0.form
      subst he
      go_wp2_with fail
      have hb6 := (Below.refl _ w5).alloc (Nat.le_refl _) (.cells #[.slice x0A l0.arena.owner.length x0a, .slice x0B l0.arena.next.length x0b, .slice x0C l0.prio.length x0c] 32)
      have hXx0 := Arr.new w5 32 [.slice x0A l0.arena.owner.length x0a, .slice x0B l0.arena.next.length x0b, .slice x0C l0.prio.length x0c]
      generalize w5.alloc (.cells #[.slice x0A l0.arena.owner.length x0a, .slice x0B l0.arena.next.length x0b, .slice x0C l0.prio.length x0c] 32) = w6 at *
      clear hB0c0 hB0c1 hB0c2 hB0z
      replace hB0 := hB0.below hb6 hB0.lt
      replace hr0 := hr0.below hb6
      replace hr1 := hr1.below hb6
      replace hx0 := hx0.below hb6
      replace hbw := Below.up hbw hb6
      have hb6s := hb6.size
      have hB0z := hB0.lt
      have hB0c0 := hB0.c0
      have hB0c1 := hB0.c1
      have hB0c2 := hB0.c2
      clear hb6
      have hXx0l := hXx0.lt
      have hXx0c0 := hXx0.c0
      have hXx0c1 := hXx0.c1
      have hXx0c2 := hXx0.c2
      have hXx0z := hXx0.lt
      refine (toInt64S_B _ l1 _ (hl1.kept (Kept.of hbw)) (by omega)).mono ?_
      rintro e w7 ⟨x1, rfl, hx1, hb7⟩
      clear hB0c0 hB0c1 hB0c2 hXx0c0 hXx0c1 hXx0c2 hB0z hXx0z
      replace hB0 := hB0.below hb7 hB0.lt
      replace hXx0 := hXx0.below hb7 hXx0.lt
      replace hr0 := hr0.below hb7
      replace hr1 := hr1.below hb7
      replace hx0 := hx0.below hb7
      replace hbw := Below.up hbw hb7
      have hb7s := hb7.size
      have hB0z := hB0.lt
      have hB0c0 := hB0.c0
      have hB0c1 := hB0.c1
      have hB0c2 := hB0.c2
      have hXx0z := hXx0.lt
      have hXx0c0 := hXx0.c0
      have hXx0c1 := hXx0.c1
      have hXx0c2 := hXx0.c2
      clear hb7
      go_wp2_with fail
      refine (WonIn_any _ l0 x1 l1 _ hx0.parity hx1.ints).mono ?_
      rintro e w8 ⟨y0, y1, By0, Cy0, By1, Cy1, rfl, hy0, hy1, hyd, hb8⟩
      clear hB0c0 hB0c1 hB0c2 hXx0c0 hXx0c1 hXx0c2 hB0z hXx0z
      replace hB0 := hB0.below hb8 hB0.lt
      replace hXx0 := hXx0.below hb8 hXx0.lt
      replace hr0 := hr0.below hb8
      replace hr1 := hr1.below hb8
      replace hx0 := hx0.below hb8
      replace hx1 := hx1.below hb8
      replace hbw := Below.up hbw hb8
      have hb8s := hb8.size
      have hB0z := hB0.lt
      have hB0c0 := hB0.c0
      have hB0c1 := hB0.c1
      have hB0c2 := hB0.c2
      have hXx0z := hXx0.lt
      have hXx0c0 := hXx0.c0
      have hXx0c1 := hXx0.c1
      have hXx0c2 := hXx0.c2
      clear hb8
      go_wp2_with fail
      refine (eqInt64S_B _ _ (wonE l0 l1) (wonE l0 l1) _ hy0.ints hr0.ints).mono ?_
      rintro e w9 ⟨rfl, hb9⟩
      clear hB0c0 hB0c1 hB0c2 hXx0c0 hXx0c1 hXx0c2 hB0z hXx0z
      replace hB0 := hB0.below hb9 hB0.lt
      replace hXx0 := hXx0.below hb9 hXx0.lt
      replace hr0 := hr0.below hb9
      replace hr1 := hr1.below hb9
      replace hx0 := hx0.below hb9
      replace hx1 := hx1.below hb9
      replace hy0 := hy0.below hb9
      replace hy1 := hy1.below hb9
      replace hbw := Below.up hbw hb9
      have hb9s := hb9.size
      have hB0z := hB0.lt
      have hB0c0 := hB0.c0
      have hB0c1 := hB0.c1
      have hB0c2 := hB0.c2
      have hXx0z := hXx0.lt
      have hXx0c0 := hXx0.c0
      have hXx0c1 := hXx0.c1
      have hXx0c2 := hXx0.c2
      clear hb9
      go_wp2_with fail
      refine (eqInt64S_B _ _ (wonO l0 l1) (wonO l0 l1) _ hy1.ints hr1.ints).mono ?_
      rintro e w10 ⟨rfl, hb10⟩
      clear hB0c0 hB0c1 hB0c2 hXx0c0 hXx0c1 hXx0c2 hB0z hXx0z
      replace hB0 := hB0.below hb10 hB0.lt
      replace hXx0 := hXx0.below hb10 hXx0.lt
      replace hr0 := hr0.below hb10
      replace hr1 := hr1.below hb10
      replace hx0 := hx0.below hb10
      replace hx1 := hx1.below hb10
      replace hy0 := hy0.below hb10
      replace hy1 := hy1.below hb10
      replace hbw := Below.up hbw hb10
      have hb10s := hb10.size
      have hB0z := hB0.lt
      have hB0c0 := hB0.c0
      have hB0c1 := hB0.c1
      have hB0c2 := hB0.c2
      have hXx0z := hXx0.lt
      have hXx0c0 := hXx0.c0
      have hXx0c1 := hXx0.c1
      have hXx0c2 := hXx0.c2
      clear hb10
      go_wp2_with fail
      go_region_held3 (fun W => W.cell? ⟨w.heap.size, 0, none⟩ = some p0x0 ∧ W.cell? ⟨w.heap.size, 1, none⟩ = some p0x1 ∧ W.cell? ⟨w.heap.size, 2, none⟩ = some p0x2 ∧ W.cell? ⟨w5.heap.size, 0, none⟩ = some (.slice x0A l0.arena.owner.length x0a) ∧ W.cell? ⟨w5.heap.size, 1, none⟩ = some (.slice x0B l0.arena.next.length x0b) ∧ W.cell? ⟨w5.heap.size, 2, none⟩ = some (.slice x0C l0.prio.length x0c))
        (first | exact ⟨(hB0).c0, (hB0).c1, (hB0).c2, (hXx0).c0, (hXx0).c1, (hXx0).c2⟩ | exact ⟨(hB0.below hb11 hB0.lt).c0, (hB0.below hb11 hB0.lt).c1, (hB0.below hb11 hB0.lt).c2, (hXx0.below hb11 hXx0.lt).c0, (hXx0.below hb11 hXx0.lt).c1, (hXx0.below hb11 hXx0.lt).c2⟩ | exact ⟨((hB0.below hb11 hB0.lt).below hb12 (hB0.below hb11 hB0.lt).lt).c0, ((hB0.below hb11 hB0.lt).below hb12 (hB0.below hb11 hB0.lt).lt).c1, ((hB0.below hb11 hB0.lt).below hb12 (hB0.below hb11 hB0.lt).lt).c2, ((hXx0.below hb11 hXx0.lt).below hb12 (hXx0.below hb11 hXx0.lt).lt).c0, ((hXx0.below hb11 hXx0.lt).below hb12 (hXx0.below hb11 hXx0.lt).lt).c1, ((hXx0.below hb11 hXx0.lt).below hb12 (hXx0.below hb11 hXx0.lt).lt).c2⟩)
        (first | (go_at_call 12; refine (toParity_B _ l0 _ ((hl0.kept (Kept.of hbw)).kept (Kept.drew _)) (by omega)).mono ?_; rintro e w11 ⟨z0, rfl, hz0, hb11⟩; replace hb11 := below_of_drew hb11) | (go_at_call 14; refine (eqParity_B _ _ l0 l0 _ (hx0.below hb11).parity hz0.parity).mono ?_; rintro e w12 ⟨rfl, hb12⟩))
      clear hB0c0 hB0c1 hB0c2 hXx0c0 hXx0c1 hXx0c2 hB0z hXx0z
      replace hB0 := hB0.below hb11 hB0.lt
      replace hXx0 := hXx0.below hb11 hXx0.lt
      replace hr0 := hr0.below hb11
      replace hr1 := hr1.below hb11
      replace hx0 := hx0.below hb11
      replace hx1 := hx1.below hb11
      replace hy0 := hy0.below hb11
      replace hy1 := hy1.below hb11
      replace hbw := Below.up hbw hb11
      have hb11s := hb11.size
      have hB0z := hB0.lt
      have hB0c0 := hB0.c0
      have hB0c1 := hB0.c1
      have hB0c2 := hB0.c2
      have hXx0z := hXx0.lt
      have hXx0c0 := hXx0.c0
      have hXx0c1 := hXx0.c1
      have hXx0c2 := hXx0.c2
      clear hB0c0 hB0c1 hB0c2 hXx0c0 hXx0c1 hXx0c2 hB0z hXx0z
      replace hB0 := hB0.below hb12 hB0.lt
      replace hXx0 := hXx0.below hb12 hXx0.lt
      replace hr0 := hr0.below hb12
      replace hr1 := hr1.below hb12
      replace hx0 := hx0.below hb12
      replace hx1 := hx1.below hb12
      replace hy0 := hy0.below hb12
      replace hy1 := hy1.below hb12
      replace hbw := Below.up hbw hb12
      have hb12s := hb12.size
      have hB0z := hB0.lt
      have hB0c0 := hB0.c0
      have hB0c1 := hB0.c1
      have hB0c2 := hB0.c2
      have hXx0z := hXx0.lt
      have hXx0c0 := hXx0.c0
      have hXx0c1 := hXx0.c1
      have hXx0c2 := hXx0.c2
      clear hb11 hb12 hz0
      go_wp2_with fail
      refine (toInt64S_B _ l1 _ (hl1.kept (Kept.of hbw)) (by omega)).mono ?_
      rintro e w13 ⟨z1, rfl, hz1, hb13⟩
      clear hB0c0 hB0c1 hB0c2 hXx0c0 hXx0c1 hXx0c2 hB0z hXx0z
      replace hB0 := hB0.below hb13 hB0.lt
      replace hXx0 := hXx0.below hb13 hXx0.lt
      replace hr0 := hr0.below hb13
      replace hr1 := hr1.below hb13
      replace hx0 := hx0.below hb13
      replace hx1 := hx1.below hb13
      replace hy0 := hy0.below hb13
      replace hy1 := hy1.below hb13
      replace hbw := Below.up hbw hb13
      have hb13s := hb13.size
      have hB0z := hB0.lt
      have hB0c0 := hB0.c0
      have hB0c1 := hB0.c1
      have hB0c2 := hB0.c2
      have hXx0z := hXx0.lt
      have hXx0c0 := hXx0.c0
      have hXx0c1 := hXx0.c1
      have hXx0c2 := hXx0.c2
      clear hb13
      go_wp2_with fail
      refine (eqInt64S_B _ _ l1 l1 _ hx1.ints hz1.ints).mono ?_
      rintro e w14 ⟨rfl, hb14⟩
      clear hB0c0 hB0c1 hB0c2 hXx0c0 hXx0c1 hXx0c2 hB0z hXx0z
      replace hB0 := hB0.below hb14 hB0.lt
      replace hXx0 := hXx0.below hb14 hXx0.lt
      replace hr0 := hr0.below hb14
      replace hr1 := hr1.below hb14
      replace hx0 := hx0.below hb14
      replace hx1 := hx1.below hb14
      replace hy0 := hy0.below hb14
      replace hy1 := hy1.below hb14
      replace hz1 := hz1.below hb14
      replace hbw := Below.up hbw hb14
      have hb14s := hb14.size
      have hB0z := hB0.lt
      have hB0c0 := hB0.c0
      have hB0c1 := hB0.c1
      have hB0c2 := hB0.c2
      have hXx0z := hXx0.lt
      have hXx0c0 := hXx0.c0
      have hXx0c1 := hXx0.c1
      have hXx0c2 := hXx0.c2
      clear hb14
      clear hz1
      go_wp2_with fail
      refine (markParity_O _ (l0) _ _ _ _ hx0 (by omega) (by omega)).mono ?_
      rintro e w15 ⟨rfl, hmx0, hb15⟩
      have hb15s := hb15.size
      clear hB0c0 hB0c1 hB0c2 hXx0c0 hXx0c1 hXx0c2 hB0z hXx0z
      replace hB0 := hB0.only hb15 (by omega)
      replace hXx0 := hXx0.only hb15 (by omega)
      replace hr0 := hr0.kept hb15 (by omega)
      replace hr1 := hr1.kept hb15 (by omega)
      replace hx1 := hx1.kept hb15 (by omega)
      replace hy0 := hy0.kept hb15 (by omega)
      replace hy1 := hy1.kept hb15 (by omega)
      replace hbw := hb15.below hbw (by omega) (by omega)
      clear hx0 hb15
      have hB0z := hB0.lt
      have hB0c0 := hB0.c0
      have hB0c1 := hB0.c1
      have hB0c2 := hB0.c2
      have hXx0z := hXx0.lt
      have hXx0c0 := hXx0.c0
      have hXx0c1 := hXx0.c1
      have hXx0c2 := hXx0.c2
      clear hmx0
      go_wp2_with fail
      refine (markInt64S_O _ (l1) _ _ _ _ hx1 (by omega) (by omega)).mono ?_
      rintro e w16 ⟨rfl, hmx1, hb16⟩
      have hb16s := hb16.size
      clear hB0c0 hB0c1 hB0c2 hXx0c0 hXx0c1 hXx0c2 hB0z hXx0z
      replace hB0 := hB0.only hb16 (by omega)
      replace hXx0 := hXx0.only hb16 (by omega)
      replace hr0 := hr0.kept hb16 (by omega)
      replace hr1 := hr1.kept hb16 (by omega)
      replace hy0 := hy0.kept hb16 (by omega)
      replace hy1 := hy1.kept hb16 (by omega)
      replace hbw := hb16.below hbw (by omega) (by omega)
      clear hx1 hb16
      have hB0z := hB0.lt
      have hB0c0 := hB0.c0
      have hB0c1 := hB0.c1
      have hB0c2 := hB0.c2
      have hXx0z := hXx0.lt
      have hXx0c0 := hXx0.c0
      have hXx0c1 := hXx0.c1
      have hXx0c2 := hXx0.c2
      clear hmx1
      go_wp2_with fail
      refine (eqInt64S_B _ _ (wonE l0 l1) (wonE l0 l1) _ hy0.ints hr0.ints).mono ?_
      rintro e w17 ⟨rfl, hb17⟩
      clear hB0c0 hB0c1 hB0c2 hXx0c0 hXx0c1 hXx0c2 hB0z hXx0z
      replace hB0 := hB0.below hb17 hB0.lt
      replace hXx0 := hXx0.below hb17 hXx0.lt
      replace hr0 := hr0.below hb17
      replace hr1 := hr1.below hb17
      replace hy0 := hy0.below hb17
      replace hy1 := hy1.below hb17
      replace hbw := Below.up hbw hb17
      have hb17s := hb17.size
      have hB0z := hB0.lt
      have hB0c0 := hB0.c0
      have hB0c1 := hB0.c1
      have hB0c2 := hB0.c2
      have hXx0z := hXx0.lt
      have hXx0c0 := hXx0.c0
      have hXx0c1 := hXx0.c1
      have hXx0c2 := hXx0.c2
      clear hb17
      go_wp2_with fail
      refine (eqInt64S_B _ _ (wonO l0 l1) (wonO l0 l1) _ hy1.ints hr1.ints).mono ?_
      rintro e w18 ⟨rfl, hb18⟩
      clear hB0c0 hB0c1 hB0c2 hXx0c0 hXx0c1 hXx0c2 hB0z hXx0z
      replace hB0 := hB0.below hb18 hB0.lt
      replace hXx0 := hXx0.below hb18 hXx0.lt
      replace hr0 := hr0.below hb18
      replace hr1 := hr1.below hb18
      replace hy0 := hy0.below hb18
      replace hy1 := hy1.below hb18
      replace hbw := Below.up hbw hb18
      have hb18s := hb18.size
      have hB0z := hB0.lt
      have hB0c0 := hB0.c0
      have hB0c1 := hB0.c1
      have hB0c2 := hB0.c2
      have hXx0z := hXx0.lt
      have hXx0c0 := hXx0.c0
      have hXx0c1 := hXx0.c1
      have hXx0c2 := hXx0.c2
      clear hb18
      go_wp2_with fail
      refine (markInt64S_O _ (wonE l0 l1) _ _ _ _ hy0 (by omega) (by omega)).mono ?_
      rintro e w19 ⟨rfl, hmy0, hb19⟩
      have hb19s := hb19.size
      clear hB0c0 hB0c1 hB0c2 hXx0c0 hXx0c1 hXx0c2 hB0z hXx0z
      replace hB0 := hB0.only hb19 (by omega)
      replace hXx0 := hXx0.only hb19 (by omega)
      replace hr0 := hr0.kept hb19 (by omega)
      replace hr1 := hr1.kept hb19 (by omega)
      replace hy1 := hy1.kept hb19 (by omega)
      replace hbw := hb19.below hbw (by omega) (by omega)
      clear hy0 hb19
      have hB0z := hB0.lt
      have hB0c0 := hB0.c0
      have hB0c1 := hB0.c1
      have hB0c2 := hB0.c2
      have hXx0z := hXx0.lt
      have hXx0c0 := hXx0.c0
      have hXx0c1 := hXx0.c1
      have hXx0c2 := hXx0.c2
      go_wp2_with fail
      refine (markInt64S_O _ (wonO l0 l1) _ _ _ _ hy1 (by omega) (by omega)).mono ?_
      rintro e w20 ⟨rfl, hmy1, hb20⟩
      have hb20s := hb20.size
      clear hB0c0 hB0c1 hB0c2 hXx0c0 hXx0c1 hXx0c2 hB0z hXx0z
      replace hB0 := hB0.only hb20 (by omega)
      replace hXx0 := hXx0.only hb20 (by omega)
      replace hr0 := hr0.kept hb20 (by omega)
      replace hr1 := hr1.kept hb20 (by omega)
      replace hmy0 := hmy0.kept hb20 (by omega)
      replace hbw := hb20.below hbw (by omega) (by omega)
      clear hy1 hb20
      have hB0z := hB0.lt
      have hB0c0 := hB0.c0
      have hB0c1 := hB0.c1
      have hB0c2 := hB0.c2
      have hXx0z := hXx0.lt
      have hXx0c0 := hXx0.c0
      have hXx0c1 := hXx0.c1
      have hXx0c2 := hXx0.c2
      go_wp2_with fail
      refine (heldInt64S_B _ (wonE l0 l1) _ _ hmy0.ints (by omega) (by omega)).mono ?_
      rintro e w21 ⟨rfl, hb21⟩
      clear hB0c0 hB0c1 hB0c2 hXx0c0 hXx0c1 hXx0c2 hB0z hXx0z
      replace hB0 := hB0.below hb21 hB0.lt
      replace hXx0 := hXx0.below hb21 hXx0.lt
      replace hr0 := hr0.below hb21
      replace hr1 := hr1.below hb21
      replace hmy0 := hmy0.below hb21
      replace hmy1 := hmy1.below hb21
      replace hbw := Below.up hbw hb21
      have hb21s := hb21.size
      have hB0z := hB0.lt
      have hB0c0 := hB0.c0
      have hB0c1 := hB0.c1
      have hB0c2 := hB0.c2
      have hXx0z := hXx0.lt
      have hXx0c0 := hXx0.c0
      have hXx0c1 := hXx0.c1
      have hXx0c2 := hXx0.c2
      clear hb21
      go_wp2_with fail
      refine (heldInt64S_B _ (wonO l0 l1) _ _ hmy1.ints (by omega) (by omega)).mono ?_
      rintro e w22 ⟨rfl, hb22⟩
      clear hB0c0 hB0c1 hB0c2 hXx0c0 hXx0c1 hXx0c2 hB0z hXx0z
      replace hB0 := hB0.below hb22 hB0.lt
      replace hXx0 := hXx0.below hb22 hXx0.lt
      replace hr0 := hr0.below hb22
      replace hr1 := hr1.below hb22
      replace hmy0 := hmy0.below hb22
      replace hmy1 := hmy1.below hb22
      replace hbw := Below.up hbw hb22
      have hb22s := hb22.size
      have hB0z := hB0.lt
      have hB0c0 := hB0.c0
      have hB0c1 := hB0.c1
      have hB0c2 := hB0.c2
      have hXx0z := hXx0.lt
      have hXx0c0 := hXx0.c0
      have hXx0c1 := hXx0.c1
      have hXx0c2 := hXx0.c2
      clear hb22
      go_wp2_with fail
      refine (toParity_B _ l0 _ (hl0.kept (Kept.of hbw)) (by omega)).mono ?_
      rintro e w23 ⟨s0, rfl, hs0, hb23⟩
      clear hB0c0 hB0c1 hB0c2 hXx0c0 hXx0c1 hXx0c2 hB0z hXx0z
      replace hB0 := hB0.below hb23 hB0.lt
      replace hXx0 := hXx0.below hb23 hXx0.lt
      replace hr0 := hr0.below hb23
      replace hr1 := hr1.below hb23
      replace hmy0 := hmy0.below hb23
      replace hmy1 := hmy1.below hb23
      replace hbw := Below.up hbw hb23
      have hb23s := hb23.size
      have hB0z := hB0.lt
      have hB0c0 := hB0.c0
      have hB0c1 := hB0.c1
      have hB0c2 := hB0.c2
      have hXx0z := hXx0.lt
      have hXx0c0 := hXx0.c0
      have hXx0c1 := hXx0.c1
      have hXx0c2 := hXx0.c2
      clear hb23
      go_wp2_with fail
      refine (toInt64S_B _ l1 _ (hl1.kept (Kept.of hbw)) (by omega)).mono ?_
      rintro e w24 ⟨s1, rfl, hs1, hb24⟩
      clear hB0c0 hB0c1 hB0c2 hXx0c0 hXx0c1 hXx0c2 hB0z hXx0z
      replace hB0 := hB0.below hb24 hB0.lt
      replace hXx0 := hXx0.below hb24 hXx0.lt
      replace hr0 := hr0.below hb24
      replace hr1 := hr1.below hb24
      replace hmy0 := hmy0.below hb24
      replace hmy1 := hmy1.below hb24
      replace hs0 := hs0.below hb24
      replace hbw := Below.up hbw hb24
      have hb24s := hb24.size
      have hB0z := hB0.lt
      have hB0c0 := hB0.c0
      have hB0c1 := hB0.c1
      have hB0c2 := hB0.c2
      have hXx0z := hXx0.lt
      have hXx0c0 := hXx0.c0
      have hXx0c1 := hXx0.c1
      have hXx0c2 := hXx0.c2
      clear hb24
      go_wp2_with fail
      refine (WonIn_any s0 l0 s1 l1 _ hs0.parity hs1.ints).mono ?_
      rintro e w25 ⟨h0, h1, Bh0, Ch0, Bh1, Ch1, rfl, hh0, hh1, hhd, hb25⟩
      clear hB0c0 hB0c1 hB0c2 hXx0c0 hXx0c1 hXx0c2 hB0z hXx0z
      replace hB0 := hB0.below hb25 hB0.lt
      replace hXx0 := hXx0.below hb25 hXx0.lt
      replace hr0 := hr0.below hb25
      replace hr1 := hr1.below hb25
      replace hmy0 := hmy0.below hb25
      replace hmy1 := hmy1.below hb25
      replace hs0 := hs0.below hb25
      replace hs1 := hs1.below hb25
      replace hbw := Below.up hbw hb25
      have hb25s := hb25.size
      have hB0z := hB0.lt
      have hB0c0 := hB0.c0
      have hB0c1 := hB0.c1
      have hB0c2 := hB0.c2
      have hXx0z := hXx0.lt
      have hXx0c0 := hXx0.c0
      have hXx0c1 := hXx0.c1
      have hXx0c2 := hXx0.c2
      clear hb25
      clear hs0
      clear hs1
      go_wp2_with fail
      refine (eqInt64S_B _ _ (wonE l0 l1) (wonE l0 l1) _ hh0.ints hr0.ints).mono ?_
      rintro e w26 ⟨rfl, hb26⟩
      clear hB0c0 hB0c1 hB0c2 hXx0c0 hXx0c1 hXx0c2 hB0z hXx0z
      replace hB0 := hB0.below hb26 hB0.lt
      replace hXx0 := hXx0.below hb26 hXx0.lt
      replace hr0 := hr0.below hb26
      replace hr1 := hr1.below hb26
      replace hmy0 := hmy0.below hb26
      replace hmy1 := hmy1.below hb26
      replace hh0 := hh0.below hb26
      replace hh1 := hh1.below hb26
      replace hbw := Below.up hbw hb26
      have hb26s := hb26.size
      have hB0z := hB0.lt
      have hB0c0 := hB0.c0
      have hB0c1 := hB0.c1
      have hB0c2 := hB0.c2
      have hXx0z := hXx0.lt
      have hXx0c0 := hXx0.c0
      have hXx0c1 := hXx0.c1
      have hXx0c2 := hXx0.c2
      clear hb26
      go_wp2_with fail
      refine (eqInt64S_B _ _ (wonO l0 l1) (wonO l0 l1) _ hh1.ints hr1.ints).mono ?_
      rintro e w27 ⟨rfl, hb27⟩
      clear hB0c0 hB0c1 hB0c2 hXx0c0 hXx0c1 hXx0c2 hB0z hXx0z
      replace hB0 := hB0.below hb27 hB0.lt
      replace hXx0 := hXx0.below hb27 hXx0.lt
      replace hr0 := hr0.below hb27
      replace hr1 := hr1.below hb27
      replace hmy0 := hmy0.below hb27
      replace hmy1 := hmy1.below hb27
      replace hh0 := hh0.below hb27
      replace hh1 := hh1.below hb27
      replace hbw := Below.up hbw hb27
      have hb27s := hb27.size
      have hB0z := hB0.lt
      have hB0c0 := hB0.c0
      have hB0c1 := hB0.c1
      have hB0c2 := hB0.c2
      have hXx0z := hXx0.lt
      have hXx0c0 := hXx0.c0
      have hXx0c1 := hXx0.c1
      have hXx0c2 := hXx0.c2
      clear hb27
      go_wp2_with fail
      refine (heldInt64S_B _ (wonE l0 l1) _ _ hmy0.ints (by omega) (by omega)).mono ?_
      rintro e w28 ⟨rfl, hb28⟩
      clear hB0c0 hB0c1 hB0c2 hXx0c0 hXx0c1 hXx0c2 hB0z hXx0z
      replace hB0 := hB0.below hb28 hB0.lt
      replace hXx0 := hXx0.below hb28 hXx0.lt
      replace hr0 := hr0.below hb28
      replace hr1 := hr1.below hb28
      replace hmy0 := hmy0.below hb28
      replace hmy1 := hmy1.below hb28
      replace hh0 := hh0.below hb28
      replace hh1 := hh1.below hb28
      replace hbw := Below.up hbw hb28
      have hb28s := hb28.size
      have hB0z := hB0.lt
      have hB0c0 := hB0.c0
      have hB0c1 := hB0.c1
      have hB0c2 := hB0.c2
      have hXx0z := hXx0.lt
      have hXx0c0 := hXx0.c0
      have hXx0c1 := hXx0.c1
      have hXx0c2 := hXx0.c2
      clear hb28
      go_wp2_with fail
      refine (heldInt64S_B _ (wonO l0 l1) _ _ hmy1.ints (by omega) (by omega)).mono ?_
      rintro e w29 ⟨rfl, hb29⟩
      clear hB0c0 hB0c1 hB0c2 hXx0c0 hXx0c1 hXx0c2 hB0z hXx0z
      replace hB0 := hB0.below hb29 hB0.lt
      replace hXx0 := hXx0.below hb29 hXx0.lt
      replace hr0 := hr0.below hb29
      replace hr1 := hr1.below hb29
      replace hmy0 := hmy0.below hb29
      replace hmy1 := hmy1.below hb29
      replace hh0 := hh0.below hb29
      replace hh1 := hh1.below hb29
      replace hbw := Below.up hbw hb29
      have hb29s := hb29.size
      have hB0z := hB0.lt
      have hB0c0 := hB0.c0
      have hB0c1 := hB0.c1
      have hB0c2 := hB0.c2
      have hXx0z := hXx0.lt
      have hXx0c0 := hXx0.c0
      have hXx0c1 := hXx0.c1
      have hXx0c2 := hXx0.c2
      clear hb29
      go_wp2
      go_ret
      exact ⟨rfl, hbw⟩
    · have hz0 : szLeft (bulkP l0) (1048576) = -1 := szLeft_neg g0
      go_enter Try.func4, Try.ntmps4
      have hB0z := hB0.lt
      have hB0c0 := hB0.c0
      have hB0c1 := hB0.c1
      have hB0c2 := hB0.c2
      go_wp2_with fail
      refine (szParity_any _ l0 (1048576) _ (hl0.kept (Kept.of hbw)) (by omega) (by omega)).mono ?_
      rintro e w1 ⟨rfl, hb1⟩
      clear hB0c0 hB0c1 hB0c2 hB0z
      replace hB0 := hB0.below hb1 hB0.lt
      replace hbw := Below.up hbw hb1
      have hb1s := hb1.size
      have hB0z := hB0.lt
      have hB0c0 := hB0.c0
      have hB0c1 := hB0.c1
      have hB0c2 := hB0.c2
      clear hb1
      go_wp2
      go_ret
      exact ⟨rfl, hbw⟩
  · skip
    go_enter Try.func4, Try.ntmps4
    have hB0z := hB0.lt
    have hB0c0 := hB0.c0
    have hB0c1 := hB0.c1
    have hB0c2 := hB0.c2
    go_wp2
    go_ret
    exact ⟨rfl, hbw⟩

end Go.Proofs.Ytmkmghjmfaoobaa
