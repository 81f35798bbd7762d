/- The walk of the law on BothOf: it returns true and writes nothing that was there. Printed by gen_laws2.py. -/
import Derived.Test.YtigjhhcndigncaaSortWalks
import Derived.Test.YtigjhhcndigncaaLawBox
import Derived.Deep.RegionHeld3
namespace Go.Proofs.Ytigjhhcndigncaa
set_option linter.unusedSimpArgs false
set_option linter.unusedVariables false
open Go.RowKit

set_option maxRecDepth 100000 in
set_option maxHeartbeats 2000000 in
theorem FnExactBothOf_true (v0 : Value) (l0 : List Int) (v1 : Value) (l1 : List Int) (w : World) (hl0 : Ints w v0 l0) (hl1 : Ints w v1 l1) :
    Calls Try.prog 14 #[v0, v1] w fun e w' => e = .returned (.bool true) ∧ Below w.heap.size w w' := by
  obtain ⟨A0, c0, rfl, hlc0, hcm0⟩ := hl0.form
  obtain ⟨A1, c1, rfl, hlc1, hcm1⟩ := hl1.form
  have hbw : Below w.heap.size w w := (Below.refl _ _)
  by_cases g0 : l0.length ≤ 1048576
  · skip
    by_cases g1 : l1.length ≤ 1048576
    · skip
      have hD0 : (BothOf l0 l1).length ≤ 1048576 := BothOf_bulk l0 l1
      go_enter Try.func14, Try.ntmps14
      go_wp2_with fail
      refine (toInt64S_B _ l0 _ (hl0.kept (Kept.of hbw)) (by omega)).mono ?_
      rintro e w1 ⟨t0, rfl, ht0, hb1⟩
      replace hbw := Below.up hbw hb1
      have hb1s := hb1.size
      clear hb1
      go_wp2_with fail
      refine (toInt64S_B _ l1 _ (hl1.kept (Kept.of hbw)) (by omega)).mono ?_
      rintro e w2 ⟨t1, rfl, ht1, hb2⟩
      replace ht0 := ht0.below hb2
      replace hbw := Below.up hbw hb2
      have hb2s := hb2.size
      clear hb2
      go_wp2_with fail
      refine (specBothOf_any t0 l0 t1 l1 _ ht0.ints ht1.ints).mono ?_
      rintro e w3 ⟨r0, rfl, hr0, hb3⟩
      replace ht0 := ht0.below hb3
      replace ht1 := ht1.below hb3
      replace hbw := Below.up hbw hb3
      have hb3s := hb3.size
      clear hb3
      clear ht0
      clear ht1
      replace hr0 := OI.of hr0
      go_wp2_with fail
      refine (toInt64S_B _ l0 _ (hl0.kept (Kept.of hbw)) (by omega)).mono ?_
      rintro e w4 ⟨x0, rfl, hx0, hb4⟩
      replace hr0 := hr0.below hb4
      replace hbw := Below.up hbw hb4
      have hb4s := hb4.size
      clear hb4
      go_wp2_with fail
      refine (toInt64S_B _ l1 _ (hl1.kept (Kept.of hbw)) (by omega)).mono ?_
      rintro e w5 ⟨x1, rfl, hx1, hb5⟩
      replace hr0 := hr0.below hb5
      replace hx0 := hx0.below hb5
      replace hbw := Below.up hbw hb5
      have hb5s := hb5.size
      clear hb5
      go_wp2_with fail
      refine (implBothOf_any x0 l0 x1 l1 _ hx0.ints hx1.ints).mono ?_
      rintro e w6 ⟨y0, rfl, hy0, hb6⟩
      replace hr0 := hr0.below hb6
      replace hx0 := hx0.below hb6
      replace hx1 := hx1.below hb6
      replace hbw := Below.up hbw hb6
      have hb6s := hb6.size
      clear hb6
      replace hy0 := OI.of hy0
      go_wp2_with fail
      refine (eqInt64S_B _ _ (BothOf l0 l1) (BothOf l0 l1) _ hy0.ints hr0.ints).mono ?_
      rintro e w7 ⟨rfl, hb7⟩
      replace hr0 := hr0.below hb7
      replace hx0 := hx0.below hb7
      replace hx1 := hx1.below hb7
      replace hy0 := hy0.below hb7
      replace hbw := Below.up hbw hb7
      have hb7s := hb7.size
      clear hb7
      go_wp2_with fail
      refine (toInt64S_B _ l0 _ (hl0.kept (Kept.of hbw)) (by omega)).mono ?_
      rintro e w8 ⟨z0, rfl, hz0, hb8⟩
      replace hr0 := hr0.below hb8
      replace hx0 := hx0.below hb8
      replace hx1 := hx1.below hb8
      replace hy0 := hy0.below hb8
      replace hbw := Below.up hbw hb8
      have hb8s := hb8.size
      clear hb8
      go_wp2_with fail
      refine (eqInt64S_B _ _ l0 l0 _ hx0.ints hz0.ints).mono ?_
      rintro e w9 ⟨rfl, hb9⟩
      replace hr0 := hr0.below hb9
      replace hx0 := hx0.below hb9
      replace hx1 := hx1.below hb9
      replace hy0 := hy0.below hb9
      replace hz0 := hz0.below hb9
      replace hbw := Below.up hbw hb9
      have hb9s := hb9.size
      clear hb9
      clear hz0
      go_wp2_with fail
      refine (toInt64S_B _ l1 _ (hl1.kept (Kept.of hbw)) (by omega)).mono ?_
      rintro e w10 ⟨z1, rfl, hz1, hb10⟩
      replace hr0 := hr0.below hb10
      replace hx0 := hx0.below hb10
      replace hx1 := hx1.below hb10
      replace hy0 := hy0.below hb10
      replace hbw := Below.up hbw hb10
      have hb10s := hb10.size
      clear hb10
      go_wp2_with fail
      refine (eqInt64S_B _ _ l1 l1 _ hx1.ints hz1.ints).mono ?_
      rintro e w11 ⟨rfl, hb11⟩
      replace hr0 := hr0.below hb11
      replace hx0 := hx0.below hb11
      replace hx1 := hx1.below hb11
      replace hy0 := hy0.below hb11
      replace hz1 := hz1.below hb11
      replace hbw := Below.up hbw hb11
      have hb11s := hb11.size
      clear hb11
      clear hz1
      go_wp2_with fail
      refine (markInt64S_O _ (l0) _ _ _ _ hx0 (by omega) (by omega)).mono ?_
      rintro e w12 ⟨rfl, hmx0, hb12⟩
      have hb12s := hb12.size
      replace hr0 := hr0.kept hb12 (by omega)
      replace hx1 := hx1.kept hb12 (by omega)
      replace hy0 := hy0.kept hb12 (by omega)
      replace hbw := hb12.below hbw (by omega) (by omega)
      clear hx0 hb12
      clear hmx0
      go_wp2_with fail
      refine (markInt64S_O _ (l1) _ _ _ _ hx1 (by omega) (by omega)).mono ?_
      rintro e w13 ⟨rfl, hmx1, hb13⟩
      have hb13s := hb13.size
      replace hr0 := hr0.kept hb13 (by omega)
      replace hy0 := hy0.kept hb13 (by omega)
      replace hbw := hb13.below hbw (by omega) (by omega)
      clear hx1 hb13
      clear hmx1
      go_wp2_with fail
      refine (eqInt64S_B _ _ (BothOf l0 l1) (BothOf l0 l1) _ hy0.ints hr0.ints).mono ?_
      rintro e w14 ⟨rfl, hb14⟩
      replace hr0 := hr0.below hb14
      replace hy0 := hy0.below hb14
      replace hbw := Below.up hbw hb14
      have hb14s := hb14.size
      clear hb14
      go_wp2_with fail
      refine (markInt64S_O _ (BothOf l0 l1) _ _ _ _ hy0 (by omega) (by omega)).mono ?_
      rintro e w15 ⟨rfl, hmy0, hb15⟩
      have hb15s := hb15.size
      replace hr0 := hr0.kept hb15 (by omega)
      replace hbw := hb15.below hbw (by omega) (by omega)
      clear hy0 hb15
      go_wp2_with fail
      refine (heldInt64S_B _ (BothOf l0 l1) _ _ hmy0.ints (by omega) (by omega)).mono ?_
      rintro e w16 ⟨rfl, hb16⟩
      replace hr0 := hr0.below hb16
      replace hmy0 := hmy0.below hb16
      replace hbw := Below.up hbw hb16
      have hb16s := hb16.size
      clear hb16
      go_wp2_with fail
      refine (toInt64S_B _ l0 _ (hl0.kept (Kept.of hbw)) (by omega)).mono ?_
      rintro e w17 ⟨s0, rfl, hs0, hb17⟩
      replace hr0 := hr0.below hb17
      replace hmy0 := hmy0.below hb17
      replace hbw := Below.up hbw hb17
      have hb17s := hb17.size
      clear hb17
      go_wp2_with fail
      refine (toInt64S_B _ l1 _ (hl1.kept (Kept.of hbw)) (by omega)).mono ?_
      rintro e w18 ⟨s1, rfl, hs1, hb18⟩
      replace hr0 := hr0.below hb18
      replace hmy0 := hmy0.below hb18
      replace hs0 := hs0.below hb18
      replace hbw := Below.up hbw hb18
      have hb18s := hb18.size
      clear hb18
      go_wp2_with fail
      refine (implBothOf_any s0 l0 s1 l1 _ hs0.ints hs1.ints).mono ?_
      rintro e w19 ⟨h0, rfl, hh0, hb19⟩
      replace hr0 := hr0.below hb19
      replace hmy0 := hmy0.below hb19
      replace hs0 := hs0.below hb19
      replace hs1 := hs1.below hb19
      replace hbw := Below.up hbw hb19
      have hb19s := hb19.size
      clear hb19
      clear hs0
      clear hs1
      replace hh0 := OI.of hh0
      go_wp2_with fail
      refine (eqInt64S_B _ _ (BothOf l0 l1) (BothOf l0 l1) _ hh0.ints hr0.ints).mono ?_
      rintro e w20 ⟨rfl, hb20⟩
      replace hr0 := hr0.below hb20
      replace hmy0 := hmy0.below hb20
      replace hh0 := hh0.below hb20
      replace hbw := Below.up hbw hb20
      have hb20s := hb20.size
      clear hb20
      go_wp2_with fail
      refine (heldInt64S_B _ (BothOf l0 l1) _ _ hmy0.ints (by omega) (by omega)).mono ?_
      rintro e w21 ⟨rfl, hb21⟩
      replace hr0 := hr0.below hb21
      replace hmy0 := hmy0.below hb21
      replace hh0 := hh0.below hb21
      replace hbw := Below.up hbw hb21
      have hb21s := hb21.size
      clear hb21
      go_wp2
      go_ret
      exact ⟨rfl, hbw⟩
    · skip
      go_enter Try.func14, Try.ntmps14
      go_wp2
      go_ret
      exact ⟨rfl, hbw⟩
  · skip
    go_enter Try.func14, Try.ntmps14
    go_wp2
    go_ret
    exact ⟨rfl, hbw⟩

end Go.Proofs.Ytigjhhcndigncaa
