/- The walk of the law on PlayOf: it returns true and writes nothing that was there. Printed by gen_laws2.py. -/
import Derived.Test.YtigjhhcndigncaaPlayWalks
import Derived.Test.YtigjhhcndigncaaLasso
import Derived.Test.YtigjhhcndigncaaLawBox
import Derived.Deep.RegionHeld3
namespace Go.Proofs.Ytigjhhcndigncaa
set_option linter.unusedSimpArgs false
set_option linter.unusedVariables false
open Go.RowKit

set_option maxRecDepth 100000 in
set_option maxHeartbeats 2000000 in
theorem FnExactPlayOf_true (v0 : Value) (l0 : ArenaD) (v1 : Value) (l1 : List Int) (v2 : Value) (l2 : List Int) (a3 : Int) (w : World) (hl0 : IsArena w v0 l0) (hl1 : Ints w v1 l1) (hl2 : Ints w v2 l2) (ha3 : -9223372036854775808 ≤ a3 ∧ a3 ≤ 9223372036854775807) :
    Calls Try.prog 11 #[v0, v1, v2, .int .i64 a3] w fun e w' => e = .returned (.bool true) ∧ Below w.heap.size w w' := by
  obtain ⟨p0x0, p0x1, he0⟩ := hl0.open
  subst he0
  obtain ⟨A1, c1, rfl, hlc1, hcm1⟩ := hl1.form
  obtain ⟨A2, c2, rfl, hlc2, hcm2⟩ := hl2.form
  have hB0 := Arr.new w 25 [p0x0, p0x1]
  have hbw : Below w.heap.size w (w.alloc (.cells #[p0x0, p0x1] 25)) := ((Below.refl _ _).alloc (Nat.le_refl _) (.cells #[p0x0, p0x1] 25))
  have hBl0 := hB0.lt
  by_cases g1 : l1.length ≤ 1048576
  · skip
    by_cases g2 : l2.length ≤ 1048576
    · skip
      by_cases g0 : (bulkA l0 : Int) ≤ 1048576
      · skip
        have hz0 : szLeft (bulkA l0) (1048576) = 1048576 - bulkA l0 := szLeft_pos g0
        have hp0 : ¬ 1048576 - (bulkA l0 : Int) < 0 := by omega
        have hD0 := playG_size l0 l1 l2 a3
        have hSz0 := sizeA_le l0
        go_enter Try.func11, Try.ntmps11
        have hB0z := hB0.lt
        have hB0c0 := hB0.c0
        have hB0c1 := hB0.c1
        go_wp2_with fail
        refine (szArena_any _ l0 (1048576) _ (hl0.kept (Kept.of hbw)) (by omega) (by omega)).mono ?_
        rintro e w1 ⟨rfl, hb1⟩
        clear hB0c0 hB0c1 hB0z
        replace hB0 := hB0.below hb1 hB0.lt
        replace hbw := Below.up hbw hb1
        have hb1s := hb1.size
        have hB0z := hB0.lt
        have hB0c0 := hB0.c0
        have hB0c1 := hB0.c1
        clear hb1
        go_wp2_with fail
        refine (toArena_B _ l0 _ (hl0.kept (Kept.of hbw)) (by omega)).mono ?_
        rintro e w2 ⟨t0, rfl, ht0, hb2⟩
        clear hB0c0 hB0c1 hB0z
        replace hB0 := hB0.below hb2 hB0.lt
        replace hbw := Below.up hbw hb2
        have hb2s := hb2.size
        have hB0z := hB0.lt
        have hB0c0 := hB0.c0
        have hB0c1 := hB0.c1
        clear hb2
        go_wp2_with fail
        refine (toInt64S_B _ l1 _ (hl1.kept (Kept.of hbw)) (by omega)).mono ?_
        rintro e w3 ⟨t1, rfl, ht1, hb3⟩
        clear hB0c0 hB0c1 hB0z
        replace hB0 := hB0.below hb3 hB0.lt
        replace ht0 := ht0.below hb3
        replace hbw := Below.up hbw hb3
        have hb3s := hb3.size
        have hB0z := hB0.lt
        have hB0c0 := hB0.c0
        have hB0c1 := hB0.c1
        clear hb3
        go_wp2_with fail
        refine (toInt64S_B _ l2 _ (hl2.kept (Kept.of hbw)) (by omega)).mono ?_
        rintro e w4 ⟨t2, rfl, ht2, hb4⟩
        clear hB0c0 hB0c1 hB0z
        replace hB0 := hB0.below hb4 hB0.lt
        replace ht0 := ht0.below hb4
        replace ht1 := ht1.below hb4
        replace hbw := Below.up hbw hb4
        have hb4s := hb4.size
        have hB0z := hB0.lt
        have hB0c0 := hB0.c0
        have hB0c1 := hB0.c1
        clear hb4
        clear hz0 hp0
        go_wp2_with fail
        refine (specPlayOf_any t0 l0 t1 l1 t2 l2 a3 _ ht0.arena ht1.ints ht2.ints).mono ?_
        rintro e w5 ⟨r0, rfl, hr0, hb5⟩
        clear hB0c0 hB0c1 hB0z
        replace hB0 := hB0.below hb5 hB0.lt
        replace ht0 := ht0.below hb5
        replace ht1 := ht1.below hb5
        replace ht2 := ht2.below hb5
        replace hbw := Below.up hbw hb5
        have hb5s := hb5.size
        have hB0z := hB0.lt
        have hB0c0 := hB0.c0
        have hB0c1 := hB0.c1
        clear hb5
        clear ht0
        clear ht1
        clear ht2
        obtain ⟨r0A, r0a, r0B, r0b, he⟩ := hr0.form
        subst he
        go_wp2_with fail
        have hb6 := (Below.refl _ w5).alloc (Nat.le_refl _) (.cells #[.slice r0A (playG l0 l1 l2 a3).fst.length r0a, .slice r0B (playG l0 l1 l2 a3).snd.length r0b] 55)
        have hXr0 := Arr.new w5 55 [.slice r0A (playG l0 l1 l2 a3).fst.length r0a, .slice r0B (playG l0 l1 l2 a3).snd.length r0b]
        generalize w5.alloc (.cells #[.slice r0A (playG l0 l1 l2 a3).fst.length r0a, .slice r0B (playG l0 l1 l2 a3).snd.length r0b] 55) = w6 at *
        clear hB0c0 hB0c1 hB0z
        replace hB0 := hB0.below hb6 hB0.lt
        replace hr0 := hr0.below hb6
        replace hbw := Below.up hbw hb6
        have hb6s := hb6.size
        have hB0z := hB0.lt
        have hB0c0 := hB0.c0
        have hB0c1 := hB0.c1
        clear hb6
        have hXr0l := hXr0.lt
        have hXr0c0 := hXr0.c0
        have hXr0c1 := hXr0.c1
        have hXr0z := hXr0.lt
        refine (toArena_B _ l0 _ (hl0.kept (Kept.of hbw)) (by omega)).mono ?_
        rintro e w7 ⟨x0, rfl, hx0, hb7⟩
        clear hB0c0 hB0c1 hXr0c0 hXr0c1 hB0z hXr0z
        replace hB0 := hB0.below hb7 hB0.lt
        replace hXr0 := hXr0.below hb7 hXr0.lt
        replace hr0 := hr0.below hb7
        replace hbw := Below.up hbw hb7
        have hb7s := hb7.size
        have hB0z := hB0.lt
        have hB0c0 := hB0.c0
        have hB0c1 := hB0.c1
        have hXr0z := hXr0.lt
        have hXr0c0 := hXr0.c0
        have hXr0c1 := hXr0.c1
        clear hb7
        obtain ⟨x0A, x0a, x0B, x0b, he⟩ := hx0.form
        subst he
        go_wp2_with fail
        have hb8 := (Below.refl _ w7).alloc (Nat.le_refl _) (.cells #[.slice x0A l0.owner.length x0a, .slice x0B l0.next.length x0b] 28)
        have hXx0 := Arr.new w7 28 [.slice x0A l0.owner.length x0a, .slice x0B l0.next.length x0b]
        generalize w7.alloc (.cells #[.slice x0A l0.owner.length x0a, .slice x0B l0.next.length x0b] 28) = w8 at *
        clear hB0c0 hB0c1 hXr0c0 hXr0c1 hB0z hXr0z
        replace hB0 := hB0.below hb8 hB0.lt
        replace hXr0 := hXr0.below hb8 hXr0.lt
        replace hr0 := hr0.below hb8
        replace hx0 := hx0.below hb8
        replace hbw := Below.up hbw hb8
        have hb8s := hb8.size
        have hB0z := hB0.lt
        have hB0c0 := hB0.c0
        have hB0c1 := hB0.c1
        have hXr0z := hXr0.lt
        have hXr0c0 := hXr0.c0
        have hXr0c1 := hXr0.c1
        clear hb8
        have hXx0l := hXx0.lt
        have hXx0c0 := hXx0.c0
        have hXx0c1 := hXx0.c1
        have hXx0z := hXx0.lt
        refine (toInt64S_B _ l1 _ (hl1.kept (Kept.of hbw)) (by omega)).mono ?_
        rintro e w9 ⟨x1, rfl, hx1, hb9⟩
        clear hB0c0 hB0c1 hXr0c0 hXr0c1 hXx0c0 hXx0c1 hB0z hXr0z hXx0z
        replace hB0 := hB0.below hb9 hB0.lt
        replace hXr0 := hXr0.below hb9 hXr0.lt
        replace hXx0 := hXx0.below hb9 hXx0.lt
        replace hr0 := hr0.below hb9
        replace hx0 := hx0.below hb9
        replace hbw := Below.up hbw hb9
        have hb9s := hb9.size
        have hB0z := hB0.lt
        have hB0c0 := hB0.c0
        have hB0c1 := hB0.c1
        have hXr0z := hXr0.lt
        have hXr0c0 := hXr0.c0
        have hXr0c1 := hXr0.c1
        have hXx0z := hXx0.lt
        have hXx0c0 := hXx0.c0
        have hXx0c1 := hXx0.c1
        clear hb9
        go_wp2_with fail
        refine (toInt64S_B _ l2 _ (hl2.kept (Kept.of hbw)) (by omega)).mono ?_
        rintro e w10 ⟨x2, rfl, hx2, hb10⟩
        clear hB0c0 hB0c1 hXr0c0 hXr0c1 hXx0c0 hXx0c1 hB0z hXr0z hXx0z
        replace hB0 := hB0.below hb10 hB0.lt
        replace hXr0 := hXr0.below hb10 hXr0.lt
        replace hXx0 := hXx0.below hb10 hXx0.lt
        replace hr0 := hr0.below hb10
        replace hx0 := hx0.below hb10
        replace hx1 := hx1.below hb10
        replace hbw := Below.up hbw hb10
        have hb10s := hb10.size
        have hB0z := hB0.lt
        have hB0c0 := hB0.c0
        have hB0c1 := hB0.c1
        have hXr0z := hXr0.lt
        have hXr0c0 := hXr0.c0
        have hXr0c1 := hXr0.c1
        have hXx0z := hXx0.lt
        have hXx0c0 := hXx0.c0
        have hXx0c1 := hXx0.c1
        clear hb10
        go_wp2_with fail
        refine (PlayOf_any _ l0 x1 l1 x2 l2 a3 _ hx0.arena hx1.ints hx2.ints).mono ?_
        rintro e w11 ⟨y0, rfl, hy0, hb11⟩
        clear hB0c0 hB0c1 hXr0c0 hXr0c1 hXx0c0 hXx0c1 hB0z hXr0z hXx0z
        replace hB0 := hB0.below hb11 hB0.lt
        replace hXr0 := hXr0.below hb11 hXr0.lt
        replace hXx0 := hXx0.below hb11 hXx0.lt
        replace hr0 := hr0.below hb11
        replace hx0 := hx0.below hb11
        replace hx1 := hx1.below hb11
        replace hx2 := hx2.below hb11
        replace hbw := Below.up hbw hb11
        have hb11s := hb11.size
        have hB0z := hB0.lt
        have hB0c0 := hB0.c0
        have hB0c1 := hB0.c1
        have hXr0z := hXr0.lt
        have hXr0c0 := hXr0.c0
        have hXr0c1 := hXr0.c1
        have hXx0z := hXx0.lt
        have hXx0c0 := hXx0.c0
        have hXx0c1 := hXx0.c1
        clear hb11
        obtain ⟨y0A, y0a, y0B, y0b, he⟩ := hy0.form
        subst he
        go_wp2_with fail
        have hb12 := (Below.refl _ w11).alloc (Nat.le_refl _) (.cells #[.slice y0A (playG l0 l1 l2 a3).fst.length y0a, .slice y0B (playG l0 l1 l2 a3).snd.length y0b] 55)
        have hXy0 := Arr.new w11 55 [.slice y0A (playG l0 l1 l2 a3).fst.length y0a, .slice y0B (playG l0 l1 l2 a3).snd.length y0b]
        generalize w11.alloc (.cells #[.slice y0A (playG l0 l1 l2 a3).fst.length y0a, .slice y0B (playG l0 l1 l2 a3).snd.length y0b] 55) = w12 at *
        clear hB0c0 hB0c1 hXr0c0 hXr0c1 hXx0c0 hXx0c1 hB0z hXr0z hXx0z
        replace hB0 := hB0.below hb12 hB0.lt
        replace hXr0 := hXr0.below hb12 hXr0.lt
        replace hXx0 := hXx0.below hb12 hXx0.lt
        replace hr0 := hr0.below hb12
        replace hx0 := hx0.below hb12
        replace hx1 := hx1.below hb12
        replace hx2 := hx2.below hb12
        replace hy0 := hy0.below hb12
        replace hbw := Below.up hbw hb12
        have hb12s := hb12.size
        have hB0z := hB0.lt
        have hB0c0 := hB0.c0
        have hB0c1 := hB0.c1
        have hXr0z := hXr0.lt
        have hXr0c0 := hXr0.c0
        have hXr0c1 := hXr0.c1
        have hXx0z := hXx0.lt
        have hXx0c0 := hXx0.c0
        have hXx0c1 := hXx0.c1
        clear hb12
        have hXy0l := hXy0.lt
        have hXy0c0 := hXy0.c0
        have hXy0c1 := hXy0.c1
        have hXy0z := hXy0.lt
        refine (eqLasso_B _ _ (playG l0 l1 l2 a3) (playG l0 l1 l2 a3) _ hy0.two hr0.two).mono ?_
        rintro e w13 ⟨rfl, hb13⟩
        clear hB0c0 hB0c1 hXr0c0 hXr0c1 hXx0c0 hXx0c1 hXy0c0 hXy0c1 hB0z hXr0z hXx0z hXy0z
        replace hB0 := hB0.below hb13 hB0.lt
        replace hXr0 := hXr0.below hb13 hXr0.lt
        replace hXx0 := hXx0.below hb13 hXx0.lt
        replace hXy0 := hXy0.below hb13 hXy0.lt
        replace hr0 := hr0.below hb13
        replace hx0 := hx0.below hb13
        replace hx1 := hx1.below hb13
        replace hx2 := hx2.below hb13
        replace hy0 := hy0.below hb13
        replace hbw := Below.up hbw hb13
        have hb13s := hb13.size
        have hB0z := hB0.lt
        have hB0c0 := hB0.c0
        have hB0c1 := hB0.c1
        have hXr0z := hXr0.lt
        have hXr0c0 := hXr0.c0
        have hXr0c1 := hXr0.c1
        have hXx0z := hXx0.lt
        have hXx0c0 := hXx0.c0
        have hXx0c1 := hXx0.c1
        have hXy0z := hXy0.lt
        have hXy0c0 := hXy0.c0
        have hXy0c1 := hXy0.c1
        clear hb13
        go_wp2_with fail
        go_region_held3 (fun W => W.cell? ⟨w.heap.size, 0, none⟩ = some p0x0 ∧ W.cell? ⟨w.heap.size, 1, none⟩ = some p0x1 ∧ W.cell? ⟨w7.heap.size, 0, none⟩ = some (.slice x0A l0.owner.length x0a) ∧ W.cell? ⟨w7.heap.size, 1, none⟩ = some (.slice x0B l0.next.length x0b))
          (first | exact ⟨(hB0).c0, (hB0).c1, (hXx0).c0, (hXx0).c1⟩ | exact ⟨(hB0.below hb14 hB0.lt).c0, (hB0.below hb14 hB0.lt).c1, (hXx0.below hb14 hXx0.lt).c0, (hXx0.below hb14 hXx0.lt).c1⟩ | exact ⟨((hB0.below hb14 hB0.lt).below hb15 (hB0.below hb14 hB0.lt).lt).c0, ((hB0.below hb14 hB0.lt).below hb15 (hB0.below hb14 hB0.lt).lt).c1, ((hXx0.below hb14 hXx0.lt).below hb15 (hXx0.below hb14 hXx0.lt).lt).c0, ((hXx0.below hb14 hXx0.lt).below hb15 (hXx0.below hb14 hXx0.lt).lt).c1⟩)
          (first | (go_at_call 17; refine (toArena_B _ l0 _ ((hl0.kept (Kept.of hbw)).kept (Kept.drew _)) (by omega)).mono ?_; rintro e w14 ⟨z0, rfl, hz0, hb14⟩; replace hb14 := below_of_drew hb14) | (go_at_call 21; refine (eqArena_B _ _ l0 l0 _ (hx0.below hb14).arena hz0.arena).mono ?_; rintro e w15 ⟨rfl, hb15⟩))
        clear hB0c0 hB0c1 hXr0c0 hXr0c1 hXx0c0 hXx0c1 hXy0c0 hXy0c1 hB0z hXr0z hXx0z hXy0z
        replace hB0 := hB0.below hb14 hB0.lt
        replace hXr0 := hXr0.below hb14 hXr0.lt
        replace hXx0 := hXx0.below hb14 hXx0.lt
        replace hXy0 := hXy0.below hb14 hXy0.lt
        replace hr0 := hr0.below hb14
        replace hx0 := hx0.below hb14
        replace hx1 := hx1.below hb14
        replace hx2 := hx2.below hb14
        replace hy0 := hy0.below hb14
        replace hbw := Below.up hbw hb14
        have hb14s := hb14.size
        have hB0z := hB0.lt
        have hB0c0 := hB0.c0
        have hB0c1 := hB0.c1
        have hXr0z := hXr0.lt
        have hXr0c0 := hXr0.c0
        have hXr0c1 := hXr0.c1
        have hXx0z := hXx0.lt
        have hXx0c0 := hXx0.c0
        have hXx0c1 := hXx0.c1
        have hXy0z := hXy0.lt
        have hXy0c0 := hXy0.c0
        have hXy0c1 := hXy0.c1
        clear hB0c0 hB0c1 hXr0c0 hXr0c1 hXx0c0 hXx0c1 hXy0c0 hXy0c1 hB0z hXr0z hXx0z hXy0z
        replace hB0 := hB0.below hb15 hB0.lt
        replace hXr0 := hXr0.below hb15 hXr0.lt
        replace hXx0 := hXx0.below hb15 hXx0.lt
        replace hXy0 := hXy0.below hb15 hXy0.lt
        replace hr0 := hr0.below hb15
        replace hx0 := hx0.below hb15
        replace hx1 := hx1.below hb15
        replace hx2 := hx2.below hb15
        replace hy0 := hy0.below hb15
        replace hbw := Below.up hbw hb15
        have hb15s := hb15.size
        have hB0z := hB0.lt
        have hB0c0 := hB0.c0
        have hB0c1 := hB0.c1
        have hXr0z := hXr0.lt
        have hXr0c0 := hXr0.c0
        have hXr0c1 := hXr0.c1
        have hXx0z := hXx0.lt
        have hXx0c0 := hXx0.c0
        have hXx0c1 := hXx0.c1
        have hXy0z := hXy0.lt
        have hXy0c0 := hXy0.c0
        have hXy0c1 := hXy0.c1
        clear hb14 hb15 hz0
        go_wp2_with fail
        refine (toInt64S_B _ l1 _ (hl1.kept (Kept.of hbw)) (by omega)).mono ?_
        rintro e w16 ⟨z1, rfl, hz1, hb16⟩
        clear hB0c0 hB0c1 hXr0c0 hXr0c1 hXx0c0 hXx0c1 hXy0c0 hXy0c1 hB0z hXr0z hXx0z hXy0z
        replace hB0 := hB0.below hb16 hB0.lt
        replace hXr0 := hXr0.below hb16 hXr0.lt
        replace hXx0 := hXx0.below hb16 hXx0.lt
        replace hXy0 := hXy0.below hb16 hXy0.lt
        replace hr0 := hr0.below hb16
        replace hx0 := hx0.below hb16
        replace hx1 := hx1.below hb16
        replace hx2 := hx2.below hb16
        replace hy0 := hy0.below hb16
        replace hbw := Below.up hbw hb16
        have hb16s := hb16.size
        have hB0z := hB0.lt
        have hB0c0 := hB0.c0
        have hB0c1 := hB0.c1
        have hXr0z := hXr0.lt
        have hXr0c0 := hXr0.c0
        have hXr0c1 := hXr0.c1
        have hXx0z := hXx0.lt
        have hXx0c0 := hXx0.c0
        have hXx0c1 := hXx0.c1
        have hXy0z := hXy0.lt
        have hXy0c0 := hXy0.c0
        have hXy0c1 := hXy0.c1
        clear hb16
        go_wp2_with fail
        refine (eqInt64S_B _ _ l1 l1 _ hx1.ints hz1.ints).mono ?_
        rintro e w17 ⟨rfl, hb17⟩
        clear hB0c0 hB0c1 hXr0c0 hXr0c1 hXx0c0 hXx0c1 hXy0c0 hXy0c1 hB0z hXr0z hXx0z hXy0z
        replace hB0 := hB0.below hb17 hB0.lt
        replace hXr0 := hXr0.below hb17 hXr0.lt
        replace hXx0 := hXx0.below hb17 hXx0.lt
        replace hXy0 := hXy0.below hb17 hXy0.lt
        replace hr0 := hr0.below hb17
        replace hx0 := hx0.below hb17
        replace hx1 := hx1.below hb17
        replace hx2 := hx2.below hb17
        replace hy0 := hy0.below hb17
        replace hz1 := hz1.below hb17
        replace hbw := Below.up hbw hb17
        have hb17s := hb17.size
        have hB0z := hB0.lt
        have hB0c0 := hB0.c0
        have hB0c1 := hB0.c1
        have hXr0z := hXr0.lt
        have hXr0c0 := hXr0.c0
        have hXr0c1 := hXr0.c1
        have hXx0z := hXx0.lt
        have hXx0c0 := hXx0.c0
        have hXx0c1 := hXx0.c1
        have hXy0z := hXy0.lt
        have hXy0c0 := hXy0.c0
        have hXy0c1 := hXy0.c1
        clear hb17
        clear hz1
        go_wp2_with fail
        refine (toInt64S_B _ l2 _ (hl2.kept (Kept.of hbw)) (by omega)).mono ?_
        rintro e w18 ⟨z2, rfl, hz2, hb18⟩
        clear hB0c0 hB0c1 hXr0c0 hXr0c1 hXx0c0 hXx0c1 hXy0c0 hXy0c1 hB0z hXr0z hXx0z hXy0z
        replace hB0 := hB0.below hb18 hB0.lt
        replace hXr0 := hXr0.below hb18 hXr0.lt
        replace hXx0 := hXx0.below hb18 hXx0.lt
        replace hXy0 := hXy0.below hb18 hXy0.lt
        replace hr0 := hr0.below hb18
        replace hx0 := hx0.below hb18
        replace hx1 := hx1.below hb18
        replace hx2 := hx2.below hb18
        replace hy0 := hy0.below hb18
        replace hbw := Below.up hbw hb18
        have hb18s := hb18.size
        have hB0z := hB0.lt
        have hB0c0 := hB0.c0
        have hB0c1 := hB0.c1
        have hXr0z := hXr0.lt
        have hXr0c0 := hXr0.c0
        have hXr0c1 := hXr0.c1
        have hXx0z := hXx0.lt
        have hXx0c0 := hXx0.c0
        have hXx0c1 := hXx0.c1
        have hXy0z := hXy0.lt
        have hXy0c0 := hXy0.c0
        have hXy0c1 := hXy0.c1
        clear hb18
        go_wp2_with fail
        refine (eqInt64S_B _ _ l2 l2 _ hx2.ints hz2.ints).mono ?_
        rintro e w19 ⟨rfl, hb19⟩
        clear hB0c0 hB0c1 hXr0c0 hXr0c1 hXx0c0 hXx0c1 hXy0c0 hXy0c1 hB0z hXr0z hXx0z hXy0z
        replace hB0 := hB0.below hb19 hB0.lt
        replace hXr0 := hXr0.below hb19 hXr0.lt
        replace hXx0 := hXx0.below hb19 hXx0.lt
        replace hXy0 := hXy0.below hb19 hXy0.lt
        replace hr0 := hr0.below hb19
        replace hx0 := hx0.below hb19
        replace hx1 := hx1.below hb19
        replace hx2 := hx2.below hb19
        replace hy0 := hy0.below hb19
        replace hz2 := hz2.below hb19
        replace hbw := Below.up hbw hb19
        have hb19s := hb19.size
        have hB0z := hB0.lt
        have hB0c0 := hB0.c0
        have hB0c1 := hB0.c1
        have hXr0z := hXr0.lt
        have hXr0c0 := hXr0.c0
        have hXr0c1 := hXr0.c1
        have hXx0z := hXx0.lt
        have hXx0c0 := hXx0.c0
        have hXx0c1 := hXx0.c1
        have hXy0z := hXy0.lt
        have hXy0c0 := hXy0.c0
        have hXy0c1 := hXy0.c1
        clear hb19
        clear hz2
        go_wp2_with fail
        refine (markArena_O _ (l0) _ _ _ _ hx0 (by omega) (by omega)).mono ?_
        rintro e w20 ⟨rfl, hmx0, hb20⟩
        have hb20s := hb20.size
        clear hB0c0 hB0c1 hXr0c0 hXr0c1 hXx0c0 hXx0c1 hXy0c0 hXy0c1 hB0z hXr0z hXx0z hXy0z
        replace hB0 := hB0.only hb20 (by omega)
        replace hXr0 := hXr0.only hb20 (by omega)
        replace hXx0 := hXx0.only hb20 (by omega)
        replace hXy0 := hXy0.only hb20 (by omega)
        replace hr0 := hr0.kept hb20 (by omega)
        replace hx1 := hx1.kept hb20 (by omega)
        replace hx2 := hx2.kept hb20 (by omega)
        replace hy0 := hy0.kept hb20 (by omega)
        replace hbw := hb20.below hbw (by omega) (by omega)
        clear hx0 hb20
        have hB0z := hB0.lt
        have hB0c0 := hB0.c0
        have hB0c1 := hB0.c1
        have hXr0z := hXr0.lt
        have hXr0c0 := hXr0.c0
        have hXr0c1 := hXr0.c1
        have hXx0z := hXx0.lt
        have hXx0c0 := hXx0.c0
        have hXx0c1 := hXx0.c1
        have hXy0z := hXy0.lt
        have hXy0c0 := hXy0.c0
        have hXy0c1 := hXy0.c1
        clear hmx0
        go_wp2_with fail
        refine (markInt64S_O _ (l1) _ _ _ _ hx1 (by omega) (by omega)).mono ?_
        rintro e w21 ⟨rfl, hmx1, hb21⟩
        have hb21s := hb21.size
        clear hB0c0 hB0c1 hXr0c0 hXr0c1 hXx0c0 hXx0c1 hXy0c0 hXy0c1 hB0z hXr0z hXx0z hXy0z
        replace hB0 := hB0.only hb21 (by omega)
        replace hXr0 := hXr0.only hb21 (by omega)
        replace hXx0 := hXx0.only hb21 (by omega)
        replace hXy0 := hXy0.only hb21 (by omega)
        replace hr0 := hr0.kept hb21 (by omega)
        replace hx2 := hx2.kept hb21 (by omega)
        replace hy0 := hy0.kept hb21 (by omega)
        replace hbw := hb21.below hbw (by omega) (by omega)
        clear hx1 hb21
        have hB0z := hB0.lt
        have hB0c0 := hB0.c0
        have hB0c1 := hB0.c1
        have hXr0z := hXr0.lt
        have hXr0c0 := hXr0.c0
        have hXr0c1 := hXr0.c1
        have hXx0z := hXx0.lt
        have hXx0c0 := hXx0.c0
        have hXx0c1 := hXx0.c1
        have hXy0z := hXy0.lt
        have hXy0c0 := hXy0.c0
        have hXy0c1 := hXy0.c1
        clear hmx1
        go_wp2_with fail
        refine (markInt64S_O _ (l2) _ _ _ _ hx2 (by omega) (by omega)).mono ?_
        rintro e w22 ⟨rfl, hmx2, hb22⟩
        have hb22s := hb22.size
        clear hB0c0 hB0c1 hXr0c0 hXr0c1 hXx0c0 hXx0c1 hXy0c0 hXy0c1 hB0z hXr0z hXx0z hXy0z
        replace hB0 := hB0.only hb22 (by omega)
        replace hXr0 := hXr0.only hb22 (by omega)
        replace hXx0 := hXx0.only hb22 (by omega)
        replace hXy0 := hXy0.only hb22 (by omega)
        replace hr0 := hr0.kept hb22 (by omega)
        replace hy0 := hy0.kept hb22 (by omega)
        replace hbw := hb22.below hbw (by omega) (by omega)
        clear hx2 hb22
        have hB0z := hB0.lt
        have hB0c0 := hB0.c0
        have hB0c1 := hB0.c1
        have hXr0z := hXr0.lt
        have hXr0c0 := hXr0.c0
        have hXr0c1 := hXr0.c1
        have hXx0z := hXx0.lt
        have hXx0c0 := hXx0.c0
        have hXx0c1 := hXx0.c1
        have hXy0z := hXy0.lt
        have hXy0c0 := hXy0.c0
        have hXy0c1 := hXy0.c1
        clear hmx2
        go_wp2_with fail
        refine (eqLasso_B _ _ (playG l0 l1 l2 a3) (playG l0 l1 l2 a3) _ hy0.two hr0.two).mono ?_
        rintro e w23 ⟨rfl, hb23⟩
        clear hB0c0 hB0c1 hXr0c0 hXr0c1 hXx0c0 hXx0c1 hXy0c0 hXy0c1 hB0z hXr0z hXx0z hXy0z
        replace hB0 := hB0.below hb23 hB0.lt
        replace hXr0 := hXr0.below hb23 hXr0.lt
        replace hXx0 := hXx0.below hb23 hXx0.lt
        replace hXy0 := hXy0.below hb23 hXy0.lt
        replace hr0 := hr0.below hb23
        replace hy0 := hy0.below hb23
        replace hbw := Below.up hbw hb23
        have hb23s := hb23.size
        have hB0z := hB0.lt
        have hB0c0 := hB0.c0
        have hB0c1 := hB0.c1
        have hXr0z := hXr0.lt
        have hXr0c0 := hXr0.c0
        have hXr0c1 := hXr0.c1
        have hXx0z := hXx0.lt
        have hXx0c0 := hXx0.c0
        have hXx0c1 := hXx0.c1
        have hXy0z := hXy0.lt
        have hXy0c0 := hXy0.c0
        have hXy0c1 := hXy0.c1
        clear hb23
        go_wp2_with fail
        refine (markLasso_O _ (playG l0 l1 l2 a3) _ _ _ _ hy0 (by omega) (by omega)).mono ?_
        rintro e w24 ⟨rfl, hmy0, hb24⟩
        have hb24s := hb24.size
        clear hB0c0 hB0c1 hXr0c0 hXr0c1 hXx0c0 hXx0c1 hXy0c0 hXy0c1 hB0z hXr0z hXx0z hXy0z
        replace hB0 := hB0.only hb24 (by omega)
        replace hXr0 := hXr0.only hb24 (by omega)
        replace hXx0 := hXx0.only hb24 (by omega)
        replace hXy0 := hXy0.only hb24 (by omega)
        replace hr0 := hr0.kept hb24 (by omega)
        replace hbw := hb24.below hbw (by omega) (by omega)
        clear hy0 hb24
        have hB0z := hB0.lt
        have hB0c0 := hB0.c0
        have hB0c1 := hB0.c1
        have hXr0z := hXr0.lt
        have hXr0c0 := hXr0.c0
        have hXr0c1 := hXr0.c1
        have hXx0z := hXx0.lt
        have hXx0c0 := hXx0.c0
        have hXx0c1 := hXx0.c1
        have hXy0z := hXy0.lt
        have hXy0c0 := hXy0.c0
        have hXy0c1 := hXy0.c1
        go_wp2_with fail
        refine (heldLasso_B _ (playG l0 l1 l2 a3) _ _ hmy0.two (by omega) (by omega)).mono ?_
        rintro e w25 ⟨rfl, hb25⟩
        clear hB0c0 hB0c1 hXr0c0 hXr0c1 hXx0c0 hXx0c1 hXy0c0 hXy0c1 hB0z hXr0z hXx0z hXy0z
        replace hB0 := hB0.below hb25 hB0.lt
        replace hXr0 := hXr0.below hb25 hXr0.lt
        replace hXx0 := hXx0.below hb25 hXx0.lt
        replace hXy0 := hXy0.below hb25 hXy0.lt
        replace hr0 := hr0.below hb25
        replace hmy0 := hmy0.below hb25
        replace hbw := Below.up hbw hb25
        have hb25s := hb25.size
        have hB0z := hB0.lt
        have hB0c0 := hB0.c0
        have hB0c1 := hB0.c1
        have hXr0z := hXr0.lt
        have hXr0c0 := hXr0.c0
        have hXr0c1 := hXr0.c1
        have hXx0z := hXx0.lt
        have hXx0c0 := hXx0.c0
        have hXx0c1 := hXx0.c1
        have hXy0z := hXy0.lt
        have hXy0c0 := hXy0.c0
        have hXy0c1 := hXy0.c1
        clear hb25
        go_wp2_with fail
        refine (toArena_B _ l0 _ (hl0.kept (Kept.of hbw)) (by omega)).mono ?_
        rintro e w26 ⟨s0, rfl, hs0, hb26⟩
        clear hB0c0 hB0c1 hXr0c0 hXr0c1 hXx0c0 hXx0c1 hXy0c0 hXy0c1 hB0z hXr0z hXx0z hXy0z
        replace hB0 := hB0.below hb26 hB0.lt
        replace hXr0 := hXr0.below hb26 hXr0.lt
        replace hXx0 := hXx0.below hb26 hXx0.lt
        replace hXy0 := hXy0.below hb26 hXy0.lt
        replace hr0 := hr0.below hb26
        replace hmy0 := hmy0.below hb26
        replace hbw := Below.up hbw hb26
        have hb26s := hb26.size
        have hB0z := hB0.lt
        have hB0c0 := hB0.c0
        have hB0c1 := hB0.c1
        have hXr0z := hXr0.lt
        have hXr0c0 := hXr0.c0
        have hXr0c1 := hXr0.c1
        have hXx0z := hXx0.lt
        have hXx0c0 := hXx0.c0
        have hXx0c1 := hXx0.c1
        have hXy0z := hXy0.lt
        have hXy0c0 := hXy0.c0
        have hXy0c1 := hXy0.c1
        clear hb26
        go_wp2_with fail
        refine (toInt64S_B _ l1 _ (hl1.kept (Kept.of hbw)) (by omega)).mono ?_
        rintro e w27 ⟨s1, rfl, hs1, hb27⟩
        clear hB0c0 hB0c1 hXr0c0 hXr0c1 hXx0c0 hXx0c1 hXy0c0 hXy0c1 hB0z hXr0z hXx0z hXy0z
        replace hB0 := hB0.below hb27 hB0.lt
        replace hXr0 := hXr0.below hb27 hXr0.lt
        replace hXx0 := hXx0.below hb27 hXx0.lt
        replace hXy0 := hXy0.below hb27 hXy0.lt
        replace hr0 := hr0.below hb27
        replace hmy0 := hmy0.below hb27
        replace hs0 := hs0.below hb27
        replace hbw := Below.up hbw hb27
        have hb27s := hb27.size
        have hB0z := hB0.lt
        have hB0c0 := hB0.c0
        have hB0c1 := hB0.c1
        have hXr0z := hXr0.lt
        have hXr0c0 := hXr0.c0
        have hXr0c1 := hXr0.c1
        have hXx0z := hXx0.lt
        have hXx0c0 := hXx0.c0
        have hXx0c1 := hXx0.c1
        have hXy0z := hXy0.lt
        have hXy0c0 := hXy0.c0
        have hXy0c1 := hXy0.c1
        clear hb27
        go_wp2_with fail
        refine (toInt64S_B _ l2 _ (hl2.kept (Kept.of hbw)) (by omega)).mono ?_
        rintro e w28 ⟨s2, rfl, hs2, hb28⟩
        clear hB0c0 hB0c1 hXr0c0 hXr0c1 hXx0c0 hXx0c1 hXy0c0 hXy0c1 hB0z hXr0z hXx0z hXy0z
        replace hB0 := hB0.below hb28 hB0.lt
        replace hXr0 := hXr0.below hb28 hXr0.lt
        replace hXx0 := hXx0.below hb28 hXx0.lt
        replace hXy0 := hXy0.below hb28 hXy0.lt
        replace hr0 := hr0.below hb28
        replace hmy0 := hmy0.below hb28
        replace hs0 := hs0.below hb28
        replace hs1 := hs1.below hb28
        replace hbw := Below.up hbw hb28
        have hb28s := hb28.size
        have hB0z := hB0.lt
        have hB0c0 := hB0.c0
        have hB0c1 := hB0.c1
        have hXr0z := hXr0.lt
        have hXr0c0 := hXr0.c0
        have hXr0c1 := hXr0.c1
        have hXx0z := hXx0.lt
        have hXx0c0 := hXx0.c0
        have hXx0c1 := hXx0.c1
        have hXy0z := hXy0.lt
        have hXy0c0 := hXy0.c0
        have hXy0c1 := hXy0.c1
        clear hb28
        go_wp2_with fail
        refine (PlayOf_any s0 l0 s1 l1 s2 l2 a3 _ hs0.arena hs1.ints hs2.ints).mono ?_
        rintro e w29 ⟨h0, rfl, hh0, hb29⟩
        clear hB0c0 hB0c1 hXr0c0 hXr0c1 hXx0c0 hXx0c1 hXy0c0 hXy0c1 hB0z hXr0z hXx0z hXy0z
        replace hB0 := hB0.below hb29 hB0.lt
        replace hXr0 := hXr0.below hb29 hXr0.lt
        replace hXx0 := hXx0.below hb29 hXx0.lt
        replace hXy0 := hXy0.below hb29 hXy0.lt
        replace hr0 := hr0.below hb29
        replace hmy0 := hmy0.below hb29
        replace hs0 := hs0.below hb29
        replace hs1 := hs1.below hb29
        replace hs2 := hs2.below hb29
        replace hbw := Below.up hbw hb29
        have hb29s := hb29.size
        have hB0z := hB0.lt
        have hB0c0 := hB0.c0
        have hB0c1 := hB0.c1
        have hXr0z := hXr0.lt
        have hXr0c0 := hXr0.c0
        have hXr0c1 := hXr0.c1
        have hXx0z := hXx0.lt
        have hXx0c0 := hXx0.c0
        have hXx0c1 := hXx0.c1
        have hXy0z := hXy0.lt
        have hXy0c0 := hXy0.c0
        have hXy0c1 := hXy0.c1
        clear hb29
        clear hs0
        clear hs1
        clear hs2
        obtain ⟨h0A, h0a, h0B, h0b, he⟩ := hh0.form
        subst he
        go_wp2_with fail
        have hb30 := (Below.refl _ w29).alloc (Nat.le_refl _) (.cells #[.slice h0A (playG l0 l1 l2 a3).fst.length h0a, .slice h0B (playG l0 l1 l2 a3).snd.length h0b] 55)
        have hXh0 := Arr.new w29 55 [.slice h0A (playG l0 l1 l2 a3).fst.length h0a, .slice h0B (playG l0 l1 l2 a3).snd.length h0b]
        generalize w29.alloc (.cells #[.slice h0A (playG l0 l1 l2 a3).fst.length h0a, .slice h0B (playG l0 l1 l2 a3).snd.length h0b] 55) = w30 at *
        clear hB0c0 hB0c1 hXr0c0 hXr0c1 hXx0c0 hXx0c1 hXy0c0 hXy0c1 hB0z hXr0z hXx0z hXy0z
        replace hB0 := hB0.below hb30 hB0.lt
        replace hXr0 := hXr0.below hb30 hXr0.lt
        replace hXx0 := hXx0.below hb30 hXx0.lt
        replace hXy0 := hXy0.below hb30 hXy0.lt
        replace hr0 := hr0.below hb30
        replace hmy0 := hmy0.below hb30
        replace hh0 := hh0.below hb30
        replace hbw := Below.up hbw hb30
        have hb30s := hb30.size
        have hB0z := hB0.lt
        have hB0c0 := hB0.c0
        have hB0c1 := hB0.c1
        have hXr0z := hXr0.lt
        have hXr0c0 := hXr0.c0
        have hXr0c1 := hXr0.c1
        have hXx0z := hXx0.lt
        have hXx0c0 := hXx0.c0
        have hXx0c1 := hXx0.c1
        have hXy0z := hXy0.lt
        have hXy0c0 := hXy0.c0
        have hXy0c1 := hXy0.c1
        clear hb30
        have hXh0l := hXh0.lt
        have hXh0c0 := hXh0.c0
        have hXh0c1 := hXh0.c1
        have hXh0z := hXh0.lt
        refine (eqLasso_B _ _ (playG l0 l1 l2 a3) (playG l0 l1 l2 a3) _ hh0.two hr0.two).mono ?_
        rintro e w31 ⟨rfl, hb31⟩
        clear hB0c0 hB0c1 hXr0c0 hXr0c1 hXx0c0 hXx0c1 hXy0c0 hXy0c1 hXh0c0 hXh0c1 hB0z hXr0z hXx0z hXy0z hXh0z
        replace hB0 := hB0.below hb31 hB0.lt
        replace hXr0 := hXr0.below hb31 hXr0.lt
        replace hXx0 := hXx0.below hb31 hXx0.lt
        replace hXy0 := hXy0.below hb31 hXy0.lt
        replace hXh0 := hXh0.below hb31 hXh0.lt
        replace hr0 := hr0.below hb31
        replace hmy0 := hmy0.below hb31
        replace hh0 := hh0.below hb31
        replace hbw := Below.up hbw hb31
        have hb31s := hb31.size
        have hB0z := hB0.lt
        have hB0c0 := hB0.c0
        have hB0c1 := hB0.c1
        have hXr0z := hXr0.lt
        have hXr0c0 := hXr0.c0
        have hXr0c1 := hXr0.c1
        have hXx0z := hXx0.lt
        have hXx0c0 := hXx0.c0
        have hXx0c1 := hXx0.c1
        have hXy0z := hXy0.lt
        have hXy0c0 := hXy0.c0
        have hXy0c1 := hXy0.c1
        have hXh0z := hXh0.lt
        have hXh0c0 := hXh0.c0
        have hXh0c1 := hXh0.c1
        clear hb31
        go_wp2_with fail
        refine (heldLasso_B _ (playG l0 l1 l2 a3) _ _ hmy0.two (by omega) (by omega)).mono ?_
        rintro e w32 ⟨rfl, hb32⟩
        clear hB0c0 hB0c1 hXr0c0 hXr0c1 hXx0c0 hXx0c1 hXy0c0 hXy0c1 hXh0c0 hXh0c1 hB0z hXr0z hXx0z hXy0z hXh0z
        replace hB0 := hB0.below hb32 hB0.lt
        replace hXr0 := hXr0.below hb32 hXr0.lt
        replace hXx0 := hXx0.below hb32 hXx0.lt
        replace hXy0 := hXy0.below hb32 hXy0.lt
        replace hXh0 := hXh0.below hb32 hXh0.lt
        replace hr0 := hr0.below hb32
        replace hmy0 := hmy0.below hb32
        replace hh0 := hh0.below hb32
        replace hbw := Below.up hbw hb32
        have hb32s := hb32.size
        have hB0z := hB0.lt
        have hB0c0 := hB0.c0
        have hB0c1 := hB0.c1
        have hXr0z := hXr0.lt
        have hXr0c0 := hXr0.c0
        have hXr0c1 := hXr0.c1
        have hXx0z := hXx0.lt
        have hXx0c0 := hXx0.c0
        have hXx0c1 := hXx0.c1
        have hXy0z := hXy0.lt
        have hXy0c0 := hXy0.c0
        have hXy0c1 := hXy0.c1
        have hXh0z := hXh0.lt
        have hXh0c0 := hXh0.c0
        have hXh0c1 := hXh0.c1
        clear hb32
        go_wp2
        go_ret
        exact ⟨rfl, hbw⟩
      · have hz0 : szLeft (bulkA l0) (1048576) = -1 := szLeft_neg g0
        go_enter Try.func11, Try.ntmps11
        have hB0z := hB0.lt
        have hB0c0 := hB0.c0
        have hB0c1 := hB0.c1
        go_wp2_with fail
        refine (szArena_any _ l0 (1048576) _ (hl0.kept (Kept.of hbw)) (by omega) (by omega)).mono ?_
        rintro e w1 ⟨rfl, hb1⟩
        clear hB0c0 hB0c1 hB0z
        replace hB0 := hB0.below hb1 hB0.lt
        replace hbw := Below.up hbw hb1
        have hb1s := hb1.size
        have hB0z := hB0.lt
        have hB0c0 := hB0.c0
        have hB0c1 := hB0.c1
        clear hb1
        go_wp2
        go_ret
        exact ⟨rfl, hbw⟩
    · skip
      go_enter Try.func11, Try.ntmps11
      have hB0z := hB0.lt
      have hB0c0 := hB0.c0
      have hB0c1 := hB0.c1
      go_wp2
      go_ret
      exact ⟨rfl, hbw⟩
  · skip
    go_enter Try.func11, Try.ntmps11
    have hB0z := hB0.lt
    have hB0c0 := hB0.c0
    have hB0c1 := hB0.c1
    go_wp2
    go_ret
    exact ⟨rfl, hbw⟩

end Go.Proofs.Ytigjhhcndigncaa
