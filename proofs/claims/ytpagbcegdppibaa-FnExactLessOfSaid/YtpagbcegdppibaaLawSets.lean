/- The walks of the laws on sets: each returns true and writes nothing that was there. Printed by gen_exact.py. -/
import Derived.Test.YtpagbcegdppibaaSetWalks3
import Derived.Test.YtpagbcegdppibaaObj
namespace Go.Proofs.Ytpagbcegdppibaa
set_option linter.unusedSimpArgs false
set_option linter.unusedVariables false
open Go.RowKit

set_option maxHeartbeats 1000000 in
theorem FnExactSetOk_true (v0 : Value) (l0 : List Int) (a1 : Int) (w : World) (hl0 : Ints w v0 l0) (ha1 : -9223372036854775808 ≤ a1 ∧ a1 ≤ 9223372036854775807) :
    Calls Try.prog 4 #[v0, .int .i64 a1] w fun e w' => e = .returned (.bool true) ∧ Below w.heap.size w w' := by
  obtain ⟨A0, c0, rfl, hlc0, hcm0, hA0⟩ := id hl0
  clear hA0
  by_cases g0 : l0.length ≤ 1048576
  · skip
    go_enter Try.func4, Try.ntmps4
    have hbw : Below w.heap.size w w := Below.refl _ _
    go_wp2_with fail
    refine (toInt64S_B _ l0 _ (hl0.kept (Kept.of hbw)) (by omega)).mono ?_
    rintro e w1 ⟨t0, rfl, ht0, hb1⟩
    have hs1 := hb1.size
    replace hbw := Below.up hbw hb1
    go_wp2_with fail
    refine (drew_below (specSetOk_any t0 l0 a1 _ ht0.ints)).mono ?_
    rintro e w2 ⟨rfl, hb2⟩
    have hs2 := hb2.size
    replace hbw := Below.up hbw hb2
    replace ht0 := ht0.below hb2
    clear ht0
    go_wp2_with fail
    refine (toInt64S_B _ l0 _ (hl0.kept (Kept.of hbw)) (by omega)).mono ?_
    rintro e w3 ⟨x0, rfl, hx0, hb3⟩
    have hs3 := hb3.size
    replace hbw := Below.up hbw hb3
    go_wp2_with fail
    refine (same_below (SetOk_any x0 l0 a1 _ hx0.ints)).mono ?_
    rintro e w4 ⟨rfl, hb4⟩
    have hs4 := hb4.size
    replace hbw := Below.up hbw hb4
    replace hx0 := hx0.below hb4
    go_wp2_with fail
    refine (toInt64S_B _ l0 _ (hl0.kept (Kept.of hbw)) (by omega)).mono ?_
    rintro e w5 ⟨z0, rfl, hz0, hb5⟩
    have hs5 := hb5.size
    replace hbw := Below.up hbw hb5
    replace hx0 := hx0.below hb5
    go_wp2_with fail
    refine (eqInt64S_B x0 z0 _ _ _ hx0.ints hz0.ints).mono ?_
    rintro e w6 ⟨rfl, hb6⟩
    have hs6 := hb6.size
    replace hbw := Below.up hbw hb6
    replace hx0 := hx0.below hb6
    replace hz0 := hz0.below hb6
    clear hz0
    go_wp2
    go_ret
    exact ⟨rfl, hbw⟩
  · go_enter Try.func4, Try.ntmps4
    go_wp2
    go_ret
    exact ⟨rfl, Below.refl _ _⟩

set_option maxHeartbeats 1000000 in
theorem FnExactHasIn_true (v0 : Value) (l0 : List Int) (a1 : Int) (w : World) (hl0 : Ints w v0 l0) (ha1 : -9223372036854775808 ≤ a1 ∧ a1 ≤ 9223372036854775807) :
    Calls Try.prog 6 #[v0, .int .i64 a1] w fun e w' => e = .returned (.bool true) ∧ Below w.heap.size w w' := by
  obtain ⟨A0, c0, rfl, hlc0, hcm0, hA0⟩ := id hl0
  clear hA0
  by_cases g0 : l0.length ≤ 1048576
  · skip
    go_enter Try.func6, Try.ntmps6
    have hbw : Below w.heap.size w w := Below.refl _ _
    go_wp2_with fail
    refine (toInt64S_B _ l0 _ (hl0.kept (Kept.of hbw)) (by omega)).mono ?_
    rintro e w1 ⟨t0, rfl, ht0, hb1⟩
    have hs1 := hb1.size
    replace hbw := Below.up hbw hb1
    go_wp2_with fail
    refine (drew_below (specHasIn_any t0 l0 a1 _ ht0.ints)).mono ?_
    rintro e w2 ⟨rfl, hb2⟩
    have hs2 := hb2.size
    replace hbw := Below.up hbw hb2
    replace ht0 := ht0.below hb2
    clear ht0
    go_wp2_with fail
    refine (toInt64S_B _ l0 _ (hl0.kept (Kept.of hbw)) (by omega)).mono ?_
    rintro e w3 ⟨x0, rfl, hx0, hb3⟩
    have hs3 := hb3.size
    replace hbw := Below.up hbw hb3
    go_wp2_with fail
    refine (same_below (HasIn_any x0 l0 a1 _ hx0.ints)).mono ?_
    rintro e w4 ⟨rfl, hb4⟩
    have hs4 := hb4.size
    replace hbw := Below.up hbw hb4
    replace hx0 := hx0.below hb4
    go_wp2_with fail
    refine (toInt64S_B _ l0 _ (hl0.kept (Kept.of hbw)) (by omega)).mono ?_
    rintro e w5 ⟨z0, rfl, hz0, hb5⟩
    have hs5 := hb5.size
    replace hbw := Below.up hbw hb5
    replace hx0 := hx0.below hb5
    go_wp2_with fail
    refine (eqInt64S_B x0 z0 _ _ _ hx0.ints hz0.ints).mono ?_
    rintro e w6 ⟨rfl, hb6⟩
    have hs6 := hb6.size
    replace hbw := Below.up hbw hb6
    replace hx0 := hx0.below hb6
    replace hz0 := hz0.below hb6
    clear hz0
    go_wp2
    go_ret
    exact ⟨rfl, hbw⟩
  · go_enter Try.func6, Try.ntmps6
    go_wp2
    go_ret
    exact ⟨rfl, Below.refl _ _⟩

set_option maxHeartbeats 1000000 in
theorem FnExactPartIn_true (v0 : Value) (l0 : List Int) (v1 : Value) (l1 : List Int) (w : World) (hl0 : Ints w v0 l0) (hl1 : Ints w v1 l1) :
    Calls Try.prog 9 #[v0, v1] w fun e w' => e = .returned (.bool true) ∧ Below w.heap.size w w' := by
  obtain ⟨A0, c0, rfl, hlc0, hcm0, hA0⟩ := id hl0
  clear hA0
  obtain ⟨A1, c1, rfl, hlc1, hcm1, hA1⟩ := id hl1
  clear hA1
  by_cases g0 : l0.length ≤ 1048576
  · skip
    by_cases g1 : l1.length ≤ 1048576
    · skip
      go_enter Try.func9, Try.ntmps9
      have hbw : Below w.heap.size w w := Below.refl _ _
      go_wp2_with fail
      refine (toInt64S_B _ l0 _ (hl0.kept (Kept.of hbw)) (by omega)).mono ?_
      rintro e w1 ⟨t0, rfl, ht0, hb1⟩
      have hs1 := hb1.size
      replace hbw := Below.up hbw hb1
      go_wp2_with fail
      refine (toInt64S_B _ l1 _ (hl1.kept (Kept.of hbw)) (by omega)).mono ?_
      rintro e w2 ⟨t1, rfl, ht1, hb2⟩
      have hs2 := hb2.size
      replace hbw := Below.up hbw hb2
      replace ht0 := ht0.below hb2
      go_wp2_with fail
      refine (id (specPartIn_any t0 t1 l0 l1 _ ht0.ints ht1.ints (by omega))).mono ?_
      rintro e w3 ⟨rfl, hb3⟩
      have hs3 := hb3.size
      replace hbw := Below.up hbw hb3
      replace ht0 := ht0.below hb3
      replace ht1 := ht1.below hb3
      clear ht0
      clear ht1
      go_wp2_with fail
      refine (toInt64S_B _ l0 _ (hl0.kept (Kept.of hbw)) (by omega)).mono ?_
      rintro e w4 ⟨x0, rfl, hx0, hb4⟩
      have hs4 := hb4.size
      replace hbw := Below.up hbw hb4
      go_wp2_with fail
      refine (toInt64S_B _ l1 _ (hl1.kept (Kept.of hbw)) (by omega)).mono ?_
      rintro e w5 ⟨x1, rfl, hx1, hb5⟩
      have hs5 := hb5.size
      replace hbw := Below.up hbw hb5
      replace hx0 := hx0.below hb5
      go_wp2_with fail
      refine (id (PartIn_any x0 x1 l0 l1 _ hx0.ints hx1.ints (by omega) (by omega))).mono ?_
      rintro e w6 ⟨rfl, hb6⟩
      have hs6 := hb6.size
      replace hbw := Below.up hbw hb6
      replace hx0 := hx0.below hb6
      replace hx1 := hx1.below hb6
      go_wp2_with fail
      refine (toInt64S_B _ l0 _ (hl0.kept (Kept.of hbw)) (by omega)).mono ?_
      rintro e w7 ⟨z0, rfl, hz0, hb7⟩
      have hs7 := hb7.size
      replace hbw := Below.up hbw hb7
      replace hx0 := hx0.below hb7
      replace hx1 := hx1.below hb7
      go_wp2_with fail
      refine (eqInt64S_B x0 z0 _ _ _ hx0.ints hz0.ints).mono ?_
      rintro e w8 ⟨rfl, hb8⟩
      have hs8 := hb8.size
      replace hbw := Below.up hbw hb8
      replace hx0 := hx0.below hb8
      replace hx1 := hx1.below hb8
      replace hz0 := hz0.below hb8
      clear hz0
      go_wp2_with fail
      refine (toInt64S_B _ l1 _ (hl1.kept (Kept.of hbw)) (by omega)).mono ?_
      rintro e w9 ⟨z1, rfl, hz1, hb9⟩
      have hs9 := hb9.size
      replace hbw := Below.up hbw hb9
      replace hx0 := hx0.below hb9
      replace hx1 := hx1.below hb9
      go_wp2_with fail
      refine (eqInt64S_B x1 z1 _ _ _ hx1.ints hz1.ints).mono ?_
      rintro e w10 ⟨rfl, hb10⟩
      have hs10 := hb10.size
      replace hbw := Below.up hbw hb10
      replace hx0 := hx0.below hb10
      replace hx1 := hx1.below hb10
      replace hz1 := hz1.below hb10
      clear hz1
      go_wp2
      go_ret
      exact ⟨rfl, hbw⟩
    · go_enter Try.func9, Try.ntmps9
      go_wp2
      go_ret
      exact ⟨rfl, Below.refl _ _⟩
  · go_enter Try.func9, Try.ntmps9
    go_wp2
    go_ret
    exact ⟨rfl, Below.refl _ _⟩

set_option maxHeartbeats 1000000 in
theorem FnExactAllOf_true (a0 : Int) (w : World) (ha0 : -9223372036854775808 ≤ a0 ∧ a0 ≤ 9223372036854775807) :
    Calls Try.prog 5 #[.int .i64 a0] w fun e w' => e = .returned (.bool true) ∧ Below w.heap.size w w' := by
  have hD := allL_len a0
  go_enter Try.func5, Try.ntmps5
  have hbw : Below w.heap.size w w := Below.refl _ _
  go_wp2_with fail
  refine (specAllOf_any  a0 _ ).mono ?_
  rintro e w1 ⟨r0, rfl, hr0, hb1⟩
  have hs1 := hb1.size
  replace hbw := Below.up hbw hb1
  replace hr0 := OI.of hr0
  go_wp2_with fail
  refine (implAllOf_any  a0 _ ).mono ?_
  rintro e w2 ⟨y0, rfl, hy0, hb2⟩
  have hs2 := hb2.size
  replace hbw := Below.up hbw hb2
  replace hr0 := hr0.below hb2
  replace hy0 := OI.of hy0
  go_wp2_with fail
  refine (eqInt64S_B y0 r0 _ _ _ hy0.ints hr0.ints).mono ?_
  rintro e w3 ⟨rfl, hb3⟩
  have hs3 := hb3.size
  replace hbw := Below.up hbw hb3
  replace hr0 := hr0.below hb3
  replace hy0 := hy0.below hb3
  go_wp2_with fail
  refine (markInt64S_O y0 (allL a0) _ _ _ _ hy0 (by omega) (by omega)).mono ?_
  rintro e w4 ⟨rfl, hmy0, hb4⟩
  have hs4 := hb4.size
  replace hr0 := hr0.kept hb4 (by omega)
  replace hbw := hb4.below hbw (by omega) (by omega)
  clear hy0
  go_wp2_with fail
  refine (heldInt64S_B y0 (allL a0) _ _ hmy0.ints (by omega) (by omega)).mono ?_
  rintro e w5 ⟨rfl, hb5⟩
  have hs5 := hb5.size
  replace hbw := Below.up hbw hb5
  replace hr0 := hr0.below hb5
  replace hmy0 := hmy0.below hb5
  go_wp2_with fail
  refine (implAllOf_any  a0 _ ).mono ?_
  rintro e w6 ⟨h0, rfl, hh0, hb6⟩
  have hs6 := hb6.size
  replace hbw := Below.up hbw hb6
  replace hr0 := hr0.below hb6
  replace hmy0 := hmy0.below hb6
  replace hh0 := OI.of hh0
  go_wp2_with fail
  refine (eqInt64S_B h0 r0 _ _ _ hh0.ints hr0.ints).mono ?_
  rintro e w7 ⟨rfl, hb7⟩
  have hs7 := hb7.size
  replace hbw := Below.up hbw hb7
  replace hr0 := hr0.below hb7
  replace hmy0 := hmy0.below hb7
  replace hh0 := hh0.below hb7
  clear hh0
  go_wp2_with fail
  refine (heldInt64S_B y0 (allL a0) _ _ hmy0.ints (by omega) (by omega)).mono ?_
  rintro e w8 ⟨rfl, hb8⟩
  have hs8 := hb8.size
  replace hbw := Below.up hbw hb8
  replace hr0 := hr0.below hb8
  replace hmy0 := hmy0.below hb8
  go_wp2
  go_ret
  exact ⟨rfl, hbw⟩

set_option maxHeartbeats 1000000 in
theorem FnExactMeetOf_true (v0 : Value) (l0 : List Int) (v1 : Value) (l1 : List Int) (w : World) (hl0 : Ints w v0 l0) (hl1 : Ints w v1 l1) :
    Calls Try.prog 8 #[v0, v1] w fun e w' => e = .returned (.bool true) ∧ Below w.heap.size w w' := by
  obtain ⟨A0, c0, rfl, hlc0, hcm0, hA0⟩ := id hl0
  clear hA0
  obtain ⟨A1, c1, rfl, hlc1, hcm1, hA1⟩ := id hl1
  clear hA1
  by_cases g0 : l0.length ≤ 1048576
  · skip
    by_cases g1 : l1.length ≤ 1048576
    · skip
      have hD := MeetOf_len l0 l1
      go_enter Try.func8, Try.ntmps8
      have hbw : Below w.heap.size w w := Below.refl _ _
      go_wp2_with fail
      refine (toInt64S_B _ l0 _ (hl0.kept (Kept.of hbw)) (by omega)).mono ?_
      rintro e w1 ⟨t0, rfl, ht0, hb1⟩
      have hs1 := hb1.size
      replace hbw := Below.up hbw hb1
      go_wp2_with fail
      refine (toInt64S_B _ l1 _ (hl1.kept (Kept.of hbw)) (by omega)).mono ?_
      rintro e w2 ⟨t1, rfl, ht1, hb2⟩
      have hs2 := hb2.size
      replace hbw := Below.up hbw hb2
      replace ht0 := ht0.below hb2
      go_wp2_with fail
      refine (specMeetOf_any t0 t1 l0 l1 _ ht0.ints ht1.ints (by omega)).mono ?_
      rintro e w3 ⟨r0, rfl, hr0, hb3⟩
      have hs3 := hb3.size
      replace hbw := Below.up hbw hb3
      replace ht0 := ht0.below hb3
      replace ht1 := ht1.below hb3
      clear ht0
      clear ht1
      replace hr0 := OI.of hr0
      go_wp2_with fail
      refine (toInt64S_B _ l0 _ (hl0.kept (Kept.of hbw)) (by omega)).mono ?_
      rintro e w4 ⟨x0, rfl, hx0, hb4⟩
      have hs4 := hb4.size
      replace hbw := Below.up hbw hb4
      replace hr0 := hr0.below hb4
      go_wp2_with fail
      refine (toInt64S_B _ l1 _ (hl1.kept (Kept.of hbw)) (by omega)).mono ?_
      rintro e w5 ⟨x1, rfl, hx1, hb5⟩
      have hs5 := hb5.size
      replace hbw := Below.up hbw hb5
      replace hr0 := hr0.below hb5
      replace hx0 := hx0.below hb5
      go_wp2_with fail
      refine (implMeetOf_any x0 x1 l0 l1 _ hx0.ints hx1.ints (by omega)).mono ?_
      rintro e w6 ⟨y0, rfl, hy0, hb6⟩
      have hs6 := hb6.size
      replace hbw := Below.up hbw hb6
      replace hr0 := hr0.below hb6
      replace hx0 := hx0.below hb6
      replace hx1 := hx1.below hb6
      replace hy0 := OI.of hy0
      go_wp2_with fail
      refine (eqInt64S_B y0 r0 _ _ _ hy0.ints hr0.ints).mono ?_
      rintro e w7 ⟨rfl, hb7⟩
      have hs7 := hb7.size
      replace hbw := Below.up hbw hb7
      replace hr0 := hr0.below hb7
      replace hx0 := hx0.below hb7
      replace hx1 := hx1.below hb7
      replace hy0 := hy0.below hb7
      go_wp2_with fail
      refine (toInt64S_B _ l0 _ (hl0.kept (Kept.of hbw)) (by omega)).mono ?_
      rintro e w8 ⟨z0, rfl, hz0, hb8⟩
      have hs8 := hb8.size
      replace hbw := Below.up hbw hb8
      replace hr0 := hr0.below hb8
      replace hx0 := hx0.below hb8
      replace hx1 := hx1.below hb8
      replace hy0 := hy0.below hb8
      go_wp2_with fail
      refine (eqInt64S_B x0 z0 _ _ _ hx0.ints hz0.ints).mono ?_
      rintro e w9 ⟨rfl, hb9⟩
      have hs9 := hb9.size
      replace hbw := Below.up hbw hb9
      replace hr0 := hr0.below hb9
      replace hx0 := hx0.below hb9
      replace hx1 := hx1.below hb9
      replace hy0 := hy0.below hb9
      replace hz0 := hz0.below hb9
      clear hz0
      go_wp2_with fail
      refine (toInt64S_B _ l1 _ (hl1.kept (Kept.of hbw)) (by omega)).mono ?_
      rintro e w10 ⟨z1, rfl, hz1, hb10⟩
      have hs10 := hb10.size
      replace hbw := Below.up hbw hb10
      replace hr0 := hr0.below hb10
      replace hx0 := hx0.below hb10
      replace hx1 := hx1.below hb10
      replace hy0 := hy0.below hb10
      go_wp2_with fail
      refine (eqInt64S_B x1 z1 _ _ _ hx1.ints hz1.ints).mono ?_
      rintro e w11 ⟨rfl, hb11⟩
      have hs11 := hb11.size
      replace hbw := Below.up hbw hb11
      replace hr0 := hr0.below hb11
      replace hx0 := hx0.below hb11
      replace hx1 := hx1.below hb11
      replace hy0 := hy0.below hb11
      replace hz1 := hz1.below hb11
      clear hz1
      go_wp2_with fail
      refine (markInt64S_O x0 (l0) _ _ _ _ hx0 (by omega) (by omega)).mono ?_
      rintro e w12 ⟨rfl, hmx0, hb12⟩
      have hs12 := hb12.size
      replace hr0 := hr0.kept hb12 (by omega)
      replace hx1 := hx1.kept hb12 (by omega)
      replace hy0 := hy0.kept hb12 (by omega)
      replace hbw := hb12.below hbw (by omega) (by omega)
      clear hx0
      clear hmx0
      go_wp2_with fail
      refine (markInt64S_O x1 (l1) _ _ _ _ hx1 (by omega) (by omega)).mono ?_
      rintro e w13 ⟨rfl, hmx1, hb13⟩
      have hs13 := hb13.size
      replace hr0 := hr0.kept hb13 (by omega)
      replace hy0 := hy0.kept hb13 (by omega)
      replace hbw := hb13.below hbw (by omega) (by omega)
      clear hx1
      clear hmx1
      go_wp2_with fail
      refine (eqInt64S_B y0 r0 _ _ _ hy0.ints hr0.ints).mono ?_
      rintro e w14 ⟨rfl, hb14⟩
      have hs14 := hb14.size
      replace hbw := Below.up hbw hb14
      replace hr0 := hr0.below hb14
      replace hy0 := hy0.below hb14
      go_wp2_with fail
      refine (markInt64S_O y0 (MeetOf l0 l1) _ _ _ _ hy0 (by omega) (by omega)).mono ?_
      rintro e w15 ⟨rfl, hmy0, hb15⟩
      have hs15 := hb15.size
      replace hr0 := hr0.kept hb15 (by omega)
      replace hbw := hb15.below hbw (by omega) (by omega)
      clear hy0
      go_wp2_with fail
      refine (heldInt64S_B y0 (MeetOf l0 l1) _ _ hmy0.ints (by omega) (by omega)).mono ?_
      rintro e w16 ⟨rfl, hb16⟩
      have hs16 := hb16.size
      replace hbw := Below.up hbw hb16
      replace hr0 := hr0.below hb16
      replace hmy0 := hmy0.below hb16
      go_wp2_with fail
      refine (toInt64S_B _ l0 _ (hl0.kept (Kept.of hbw)) (by omega)).mono ?_
      rintro e w17 ⟨s0, rfl, hs0, hb17⟩
      have hs17 := hb17.size
      replace hbw := Below.up hbw hb17
      replace hr0 := hr0.below hb17
      replace hmy0 := hmy0.below hb17
      go_wp2_with fail
      refine (toInt64S_B _ l1 _ (hl1.kept (Kept.of hbw)) (by omega)).mono ?_
      rintro e w18 ⟨s1, rfl, hs1, hb18⟩
      have hs18 := hb18.size
      replace hbw := Below.up hbw hb18
      replace hr0 := hr0.below hb18
      replace hmy0 := hmy0.below hb18
      replace hs0 := hs0.below hb18
      go_wp2_with fail
      refine (implMeetOf_any s0 s1 l0 l1 _ hs0.ints hs1.ints (by omega)).mono ?_
      rintro e w19 ⟨h0, rfl, hh0, hb19⟩
      have hs19 := hb19.size
      replace hbw := Below.up hbw hb19
      replace hr0 := hr0.below hb19
      replace hmy0 := hmy0.below hb19
      replace hs0 := hs0.below hb19
      replace hs1 := hs1.below hb19
      clear hs0
      clear hs1
      replace hh0 := OI.of hh0
      go_wp2_with fail
      refine (eqInt64S_B h0 r0 _ _ _ hh0.ints hr0.ints).mono ?_
      rintro e w20 ⟨rfl, hb20⟩
      have hs20 := hb20.size
      replace hbw := Below.up hbw hb20
      replace hr0 := hr0.below hb20
      replace hmy0 := hmy0.below hb20
      replace hh0 := hh0.below hb20
      clear hh0
      go_wp2_with fail
      refine (heldInt64S_B y0 (MeetOf l0 l1) _ _ hmy0.ints (by omega) (by omega)).mono ?_
      rintro e w21 ⟨rfl, hb21⟩
      have hs21 := hb21.size
      replace hbw := Below.up hbw hb21
      replace hr0 := hr0.below hb21
      replace hmy0 := hmy0.below hb21
      go_wp2
      go_ret
      exact ⟨rfl, hbw⟩
    · go_enter Try.func8, Try.ntmps8
      go_wp2
      go_ret
      exact ⟨rfl, Below.refl _ _⟩
  · go_enter Try.func8, Try.ntmps8
    go_wp2
    go_ret
    exact ⟨rfl, Below.refl _ _⟩

set_option maxHeartbeats 1000000 in
theorem FnExactLessOf_true (v0 : Value) (l0 : List Int) (v1 : Value) (l1 : List Int) (w : World) (hl0 : Ints w v0 l0) (hl1 : Ints w v1 l1) :
    Calls Try.prog 10 #[v0, v1] w fun e w' => e = .returned (.bool true) ∧ Below w.heap.size w w' := by
  obtain ⟨A0, c0, rfl, hlc0, hcm0, hA0⟩ := id hl0
  clear hA0
  obtain ⟨A1, c1, rfl, hlc1, hcm1, hA1⟩ := id hl1
  clear hA1
  by_cases g0 : l0.length ≤ 1048576
  · skip
    by_cases g1 : l1.length ≤ 1048576
    · skip
      have hD := LessOf_len l0 l1
      go_enter Try.func10, Try.ntmps10
      have hbw : Below w.heap.size w w := Below.refl _ _
      go_wp2_with fail
      refine (toInt64S_B _ l0 _ (hl0.kept (Kept.of hbw)) (by omega)).mono ?_
      rintro e w1 ⟨t0, rfl, ht0, hb1⟩
      have hs1 := hb1.size
      replace hbw := Below.up hbw hb1
      go_wp2_with fail
      refine (toInt64S_B _ l1 _ (hl1.kept (Kept.of hbw)) (by omega)).mono ?_
      rintro e w2 ⟨t1, rfl, ht1, hb2⟩
      have hs2 := hb2.size
      replace hbw := Below.up hbw hb2
      replace ht0 := ht0.below hb2
      go_wp2_with fail
      refine (specLessOf_any t0 t1 l0 l1 _ ht0.ints ht1.ints (by omega)).mono ?_
      rintro e w3 ⟨r0, rfl, hr0, hb3⟩
      have hs3 := hb3.size
      replace hbw := Below.up hbw hb3
      replace ht0 := ht0.below hb3
      replace ht1 := ht1.below hb3
      clear ht0
      clear ht1
      replace hr0 := OI.of hr0
      go_wp2_with fail
      refine (toInt64S_B _ l0 _ (hl0.kept (Kept.of hbw)) (by omega)).mono ?_
      rintro e w4 ⟨x0, rfl, hx0, hb4⟩
      have hs4 := hb4.size
      replace hbw := Below.up hbw hb4
      replace hr0 := hr0.below hb4
      go_wp2_with fail
      refine (toInt64S_B _ l1 _ (hl1.kept (Kept.of hbw)) (by omega)).mono ?_
      rintro e w5 ⟨x1, rfl, hx1, hb5⟩
      have hs5 := hb5.size
      replace hbw := Below.up hbw hb5
      replace hr0 := hr0.below hb5
      replace hx0 := hx0.below hb5
      go_wp2_with fail
      refine (implLessOf_any x0 x1 l0 l1 _ hx0.ints hx1.ints (by omega) (by omega)).mono ?_
      rintro e w6 ⟨y0, rfl, hy0, hb6⟩
      have hs6 := hb6.size
      replace hbw := Below.up hbw hb6
      replace hr0 := hr0.below hb6
      replace hx0 := hx0.below hb6
      replace hx1 := hx1.below hb6
      replace hy0 := OI.of hy0
      go_wp2_with fail
      refine (eqInt64S_B y0 r0 _ _ _ hy0.ints hr0.ints).mono ?_
      rintro e w7 ⟨rfl, hb7⟩
      have hs7 := hb7.size
      replace hbw := Below.up hbw hb7
      replace hr0 := hr0.below hb7
      replace hx0 := hx0.below hb7
      replace hx1 := hx1.below hb7
      replace hy0 := hy0.below hb7
      go_wp2_with fail
      refine (toInt64S_B _ l0 _ (hl0.kept (Kept.of hbw)) (by omega)).mono ?_
      rintro e w8 ⟨z0, rfl, hz0, hb8⟩
      have hs8 := hb8.size
      replace hbw := Below.up hbw hb8
      replace hr0 := hr0.below hb8
      replace hx0 := hx0.below hb8
      replace hx1 := hx1.below hb8
      replace hy0 := hy0.below hb8
      go_wp2_with fail
      refine (eqInt64S_B x0 z0 _ _ _ hx0.ints hz0.ints).mono ?_
      rintro e w9 ⟨rfl, hb9⟩
      have hs9 := hb9.size
      replace hbw := Below.up hbw hb9
      replace hr0 := hr0.below hb9
      replace hx0 := hx0.below hb9
      replace hx1 := hx1.below hb9
      replace hy0 := hy0.below hb9
      replace hz0 := hz0.below hb9
      clear hz0
      go_wp2_with fail
      refine (toInt64S_B _ l1 _ (hl1.kept (Kept.of hbw)) (by omega)).mono ?_
      rintro e w10 ⟨z1, rfl, hz1, hb10⟩
      have hs10 := hb10.size
      replace hbw := Below.up hbw hb10
      replace hr0 := hr0.below hb10
      replace hx0 := hx0.below hb10
      replace hx1 := hx1.below hb10
      replace hy0 := hy0.below hb10
      go_wp2_with fail
      refine (eqInt64S_B x1 z1 _ _ _ hx1.ints hz1.ints).mono ?_
      rintro e w11 ⟨rfl, hb11⟩
      have hs11 := hb11.size
      replace hbw := Below.up hbw hb11
      replace hr0 := hr0.below hb11
      replace hx0 := hx0.below hb11
      replace hx1 := hx1.below hb11
      replace hy0 := hy0.below hb11
      replace hz1 := hz1.below hb11
      clear hz1
      go_wp2_with fail
      refine (markInt64S_O x0 (l0) _ _ _ _ hx0 (by omega) (by omega)).mono ?_
      rintro e w12 ⟨rfl, hmx0, hb12⟩
      have hs12 := hb12.size
      replace hr0 := hr0.kept hb12 (by omega)
      replace hx1 := hx1.kept hb12 (by omega)
      replace hy0 := hy0.kept hb12 (by omega)
      replace hbw := hb12.below hbw (by omega) (by omega)
      clear hx0
      clear hmx0
      go_wp2_with fail
      refine (markInt64S_O x1 (l1) _ _ _ _ hx1 (by omega) (by omega)).mono ?_
      rintro e w13 ⟨rfl, hmx1, hb13⟩
      have hs13 := hb13.size
      replace hr0 := hr0.kept hb13 (by omega)
      replace hy0 := hy0.kept hb13 (by omega)
      replace hbw := hb13.below hbw (by omega) (by omega)
      clear hx1
      clear hmx1
      go_wp2_with fail
      refine (eqInt64S_B y0 r0 _ _ _ hy0.ints hr0.ints).mono ?_
      rintro e w14 ⟨rfl, hb14⟩
      have hs14 := hb14.size
      replace hbw := Below.up hbw hb14
      replace hr0 := hr0.below hb14
      replace hy0 := hy0.below hb14
      go_wp2_with fail
      refine (markInt64S_O y0 (LessOf l0 l1) _ _ _ _ hy0 (by omega) (by omega)).mono ?_
      rintro e w15 ⟨rfl, hmy0, hb15⟩
      have hs15 := hb15.size
      replace hr0 := hr0.kept hb15 (by omega)
      replace hbw := hb15.below hbw (by omega) (by omega)
      clear hy0
      go_wp2_with fail
      refine (heldInt64S_B y0 (LessOf l0 l1) _ _ hmy0.ints (by omega) (by omega)).mono ?_
      rintro e w16 ⟨rfl, hb16⟩
      have hs16 := hb16.size
      replace hbw := Below.up hbw hb16
      replace hr0 := hr0.below hb16
      replace hmy0 := hmy0.below hb16
      go_wp2_with fail
      refine (toInt64S_B _ l0 _ (hl0.kept (Kept.of hbw)) (by omega)).mono ?_
      rintro e w17 ⟨s0, rfl, hs0, hb17⟩
      have hs17 := hb17.size
      replace hbw := Below.up hbw hb17
      replace hr0 := hr0.below hb17
      replace hmy0 := hmy0.below hb17
      go_wp2_with fail
      refine (toInt64S_B _ l1 _ (hl1.kept (Kept.of hbw)) (by omega)).mono ?_
      rintro e w18 ⟨s1, rfl, hs1, hb18⟩
      have hs18 := hb18.size
      replace hbw := Below.up hbw hb18
      replace hr0 := hr0.below hb18
      replace hmy0 := hmy0.below hb18
      replace hs0 := hs0.below hb18
      go_wp2_with fail
      refine (implLessOf_any s0 s1 l0 l1 _ hs0.ints hs1.ints (by omega) (by omega)).mono ?_
      rintro e w19 ⟨h0, rfl, hh0, hb19⟩
      have hs19 := hb19.size
      replace hbw := Below.up hbw hb19
      replace hr0 := hr0.below hb19
      replace hmy0 := hmy0.below hb19
      replace hs0 := hs0.below hb19
      replace hs1 := hs1.below hb19
      clear hs0
      clear hs1
      replace hh0 := OI.of hh0
      go_wp2_with fail
      refine (eqInt64S_B h0 r0 _ _ _ hh0.ints hr0.ints).mono ?_
      rintro e w20 ⟨rfl, hb20⟩
      have hs20 := hb20.size
      replace hbw := Below.up hbw hb20
      replace hr0 := hr0.below hb20
      replace hmy0 := hmy0.below hb20
      replace hh0 := hh0.below hb20
      clear hh0
      go_wp2_with fail
      refine (heldInt64S_B y0 (LessOf l0 l1) _ _ hmy0.ints (by omega) (by omega)).mono ?_
      rintro e w21 ⟨rfl, hb21⟩
      have hs21 := hb21.size
      replace hbw := Below.up hbw hb21
      replace hr0 := hr0.below hb21
      replace hmy0 := hmy0.below hb21
      go_wp2
      go_ret
      exact ⟨rfl, hbw⟩
    · go_enter Try.func10, Try.ntmps10
      go_wp2
      go_ret
      exact ⟨rfl, Below.refl _ _⟩
  · go_enter Try.func10, Try.ntmps10
    go_wp2
    go_ret
    exact ⟨rfl, Below.refl _ _⟩

end Go.Proofs.Ytpagbcegdppibaa
