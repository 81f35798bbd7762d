/- The walk of the law on LoopsOf: it returns true and writes nothing that was there. Printed by gen_laws2.py. -/
import Derived.Test.YtpnophmanpfejaaLoopsLen
import Derived.Test.YtpnophmanpfejaaRowsBox
import Derived.Test.YtpnophmanpfejaaPkB
import Derived.Deep.RegionHeld3
namespace Go.Proofs.Ytpnophmanpfejaa
set_option linter.unusedSimpArgs false
set_option linter.unusedVariables false
open Go.RowKit

set_option maxRecDepth 100000 in
set_option maxHeartbeats 2000000 in
theorem FnExactLoopsOf_true (v0 : Value) (l0 : ArenaD) (v1 : Value) (l1 : List Int) (w : World) (hl0 : IsArena w v0 l0) (hl1 : Ints w v1 l1) :
    Calls Try.prog 10 #[v0, v1] w fun e w' => e = .returned (.bool true) ∧ Below w.heap.size w w' := by
  obtain ⟨p0x0, p0x1, he0⟩ := hl0.open
  subst he0
  obtain ⟨A1, c1, rfl, hlc1, hcm1⟩ := hl1.form
  have hB0 := Arr.new w 25 [p0x0, p0x1]
  have hbw : Below w.heap.size w (w.alloc (.cells #[p0x0, p0x1] 25)) := ((Below.refl _ _).alloc (Nat.le_refl _) (.cells #[p0x0, p0x1] 25))
  have hBl0 := hB0.lt
  by_cases g1 : l1.length ≤ 1048576
  · skip
    by_cases g0 : (bulkA l0 : Int) ≤ 1048576
    · skip
      have hz0 : szLeft (bulkA l0) (1048576) = 1048576 - bulkA l0 := szLeft_pos g0
      have hp0 : ¬ 1048576 - (bulkA l0 : Int) < 0 := by omega
      have hD0 := loopsG_size l0 l1
      have hSz0 := sizeA_le l0
      go_enter Try.func10, Try.ntmps10
      have hB0z := hB0.lt
      have hB0c0 := hB0.c0
      have hB0c1 := hB0.c1
      go_wp2_with fail
      refine (szArena_any _ l0 (1048576) _ (hl0.kept (Kept.of hbw)) (by omega) (by omega)).mono ?_
      rintro e w1 ⟨rfl, hb1⟩
      clear hB0c0 hB0c1 hB0z
      replace hB0 := hB0.below hb1 hB0.lt
      replace hbw := Below.up hbw hb1
      have hb1s := hb1.size
      have hB0z := hB0.lt
      have hB0c0 := hB0.c0
      have hB0c1 := hB0.c1
      clear hb1
      go_wp2_with fail
      refine (toArena_B _ l0 _ (hl0.kept (Kept.of hbw)) (by omega)).mono ?_
      rintro e w2 ⟨t0, rfl, ht0, hb2⟩
      clear hB0c0 hB0c1 hB0z
      replace hB0 := hB0.below hb2 hB0.lt
      replace hbw := Below.up hbw hb2
      have hb2s := hb2.size
      have hB0z := hB0.lt
      have hB0c0 := hB0.c0
      have hB0c1 := hB0.c1
      clear hb2
      go_wp2_with fail
      refine (toInt64S_B _ l1 _ (hl1.kept (Kept.of hbw)) (by omega)).mono ?_
      rintro e w3 ⟨t1, rfl, ht1, hb3⟩
      clear hB0c0 hB0c1 hB0z
      replace hB0 := hB0.below hb3 hB0.lt
      replace ht0 := ht0.below hb3
      replace hbw := Below.up hbw hb3
      have hb3s := hb3.size
      have hB0z := hB0.lt
      have hB0c0 := hB0.c0
      have hB0c1 := hB0.c1
      clear hb3
      clear hz0 hp0
      go_wp2_with fail
      refine (specLoopsOf_any t0 l0 t1 l1 _ ht0.arena ht1.ints).mono ?_
      rintro e w4 ⟨r0, rfl, hr0, hb4⟩
      clear hB0c0 hB0c1 hB0z
      replace hB0 := hB0.below hb4 hB0.lt
      replace ht0 := ht0.below hb4
      replace ht1 := ht1.below hb4
      replace hbw := Below.up hbw hb4
      have hb4s := hb4.size
      have hB0z := hB0.lt
      have hB0c0 := hB0.c0
      have hB0c1 := hB0.c1
      clear hb4
      clear ht0
      clear ht1
      go_wp2_with fail
      refine (toArena_B _ l0 _ (hl0.kept (Kept.of hbw)) (by omega)).mono ?_
      rintro e w5 ⟨x0, rfl, hx0, hb5⟩
      clear hB0c0 hB0c1 hB0z
      replace hB0 := hB0.below hb5 hB0.lt
      replace hr0 := hr0.below hb5
      replace hbw := Below.up hbw hb5
      have hb5s := hb5.size
      have hB0z := hB0.lt
      have hB0c0 := hB0.c0
      have hB0c1 := hB0.c1
      clear hb5
      obtain ⟨x0A, x0a, x0B, x0b, he⟩ := hx0.form
      subst he
      go_wp2_with fail
      have hb6 := (Below.refl _ w5).alloc (Nat.le_refl _) (.cells #[.slice x0A l0.owner.length x0a, .slice x0B l0.next.length x0b] 30)
      have hXx0 := Arr.new w5 30 [.slice x0A l0.owner.length x0a, .slice x0B l0.next.length x0b]
      generalize w5.alloc (.cells #[.slice x0A l0.owner.length x0a, .slice x0B l0.next.length x0b] 30) = w6 at *
      clear hB0c0 hB0c1 hB0z
      replace hB0 := hB0.below hb6 hB0.lt
      replace hr0 := hr0.below hb6
      replace hx0 := hx0.below hb6
      replace hbw := Below.up hbw hb6
      have hb6s := hb6.size
      have hB0z := hB0.lt
      have hB0c0 := hB0.c0
      have hB0c1 := hB0.c1
      clear hb6
      have hXx0l := hXx0.lt
      have hXx0c0 := hXx0.c0
      have hXx0c1 := hXx0.c1
      have hXx0z := hXx0.lt
      refine (toInt64S_B _ l1 _ (hl1.kept (Kept.of hbw)) (by omega)).mono ?_
      rintro e w7 ⟨x1, rfl, hx1, hb7⟩
      clear hB0c0 hB0c1 hXx0c0 hXx0c1 hB0z hXx0z
      replace hB0 := hB0.below hb7 hB0.lt
      replace hXx0 := hXx0.below hb7 hXx0.lt
      replace hr0 := hr0.below hb7
      replace hx0 := hx0.below hb7
      replace hbw := Below.up hbw hb7
      have hb7s := hb7.size
      have hB0z := hB0.lt
      have hB0c0 := hB0.c0
      have hB0c1 := hB0.c1
      have hXx0z := hXx0.lt
      have hXx0c0 := hXx0.c0
      have hXx0c1 := hXx0.c1
      clear hb7
      go_wp2_with fail
      refine (LoopsOf_any _ l0 x1 l1 _ hx0.arena hx1.ints).mono ?_
      rintro e w8 ⟨y0, rfl, hy0, hb8⟩
      clear hB0c0 hB0c1 hXx0c0 hXx0c1 hB0z hXx0z
      replace hB0 := hB0.below hb8 hB0.lt
      replace hXx0 := hXx0.below hb8 hXx0.lt
      replace hr0 := hr0.below hb8
      replace hx0 := hx0.below hb8
      replace hx1 := hx1.below hb8
      replace hbw := Below.up hbw hb8
      have hb8s := hb8.size
      have hB0z := hB0.lt
      have hB0c0 := hB0.c0
      have hB0c1 := hB0.c1
      have hXx0z := hXx0.lt
      have hXx0c0 := hXx0.c0
      have hXx0c1 := hXx0.c1
      clear hb8
      go_wp2_with fail
      refine (eqInt64SS_B _ _ (loopsG l0 l1) (loopsG l0 l1) _ hy0.rows hr0.rows).mono ?_
      rintro e w9 ⟨rfl, hb9⟩
      clear hB0c0 hB0c1 hXx0c0 hXx0c1 hB0z hXx0z
      replace hB0 := hB0.below hb9 hB0.lt
      replace hXx0 := hXx0.below hb9 hXx0.lt
      replace hr0 := hr0.below hb9
      replace hx0 := hx0.below hb9
      replace hx1 := hx1.below hb9
      replace hy0 := hy0.below hb9
      replace hbw := Below.up hbw hb9
      have hb9s := hb9.size
      have hB0z := hB0.lt
      have hB0c0 := hB0.c0
      have hB0c1 := hB0.c1
      have hXx0z := hXx0.lt
      have hXx0c0 := hXx0.c0
      have hXx0c1 := hXx0.c1
      clear hb9
      go_wp2_with fail
      go_region_held3 (fun W => W.cell? ⟨w.heap.size, 0, none⟩ = some p0x0 ∧ W.cell? ⟨w.heap.size, 1, none⟩ = some p0x1 ∧ W.cell? ⟨w5.heap.size, 0, none⟩ = some (.slice x0A l0.owner.length x0a) ∧ W.cell? ⟨w5.heap.size, 1, none⟩ = some (.slice x0B l0.next.length x0b))
        (first | exact ⟨(hB0).c0, (hB0).c1, (hXx0).c0, (hXx0).c1⟩ | exact ⟨(hB0.below hb10 hB0.lt).c0, (hB0.below hb10 hB0.lt).c1, (hXx0.below hb10 hXx0.lt).c0, (hXx0.below hb10 hXx0.lt).c1⟩ | exact ⟨((hB0.below hb10 hB0.lt).below hb11 (hB0.below hb10 hB0.lt).lt).c0, ((hB0.below hb10 hB0.lt).below hb11 (hB0.below hb10 hB0.lt).lt).c1, ((hXx0.below hb10 hXx0.lt).below hb11 (hXx0.below hb10 hXx0.lt).lt).c0, ((hXx0.below hb10 hXx0.lt).below hb11 (hXx0.below hb10 hXx0.lt).lt).c1⟩)
        (first | (go_at_call 43; refine (toArena_B _ l0 _ ((hl0.kept (Kept.of hbw)).kept (Kept.drew _)) (by omega)).mono ?_; rintro e w10 ⟨z0, rfl, hz0, hb10⟩; replace hb10 := below_of_drew hb10) | (go_at_call 46; refine (eqArena_B _ _ l0 l0 _ (hx0.below hb10).arena hz0.arena).mono ?_; rintro e w11 ⟨rfl, hb11⟩))
      clear hB0c0 hB0c1 hXx0c0 hXx0c1 hB0z hXx0z
      replace hB0 := hB0.below hb10 hB0.lt
      replace hXx0 := hXx0.below hb10 hXx0.lt
      replace hr0 := hr0.below hb10
      replace hx0 := hx0.below hb10
      replace hx1 := hx1.below hb10
      replace hy0 := hy0.below hb10
      replace hbw := Below.up hbw hb10
      have hb10s := hb10.size
      have hB0z := hB0.lt
      have hB0c0 := hB0.c0
      have hB0c1 := hB0.c1
      have hXx0z := hXx0.lt
      have hXx0c0 := hXx0.c0
      have hXx0c1 := hXx0.c1
      clear hB0c0 hB0c1 hXx0c0 hXx0c1 hB0z hXx0z
      replace hB0 := hB0.below hb11 hB0.lt
      replace hXx0 := hXx0.below hb11 hXx0.lt
      replace hr0 := hr0.below hb11
      replace hx0 := hx0.below hb11
      replace hx1 := hx1.below hb11
      replace hy0 := hy0.below hb11
      replace hbw := Below.up hbw hb11
      have hb11s := hb11.size
      have hB0z := hB0.lt
      have hB0c0 := hB0.c0
      have hB0c1 := hB0.c1
      have hXx0z := hXx0.lt
      have hXx0c0 := hXx0.c0
      have hXx0c1 := hXx0.c1
      clear hb10 hb11 hz0
      go_wp2_with fail
      refine (toInt64S_B _ l1 _ (hl1.kept (Kept.of hbw)) (by omega)).mono ?_
      rintro e w12 ⟨z1, rfl, hz1, hb12⟩
      clear hB0c0 hB0c1 hXx0c0 hXx0c1 hB0z hXx0z
      replace hB0 := hB0.below hb12 hB0.lt
      replace hXx0 := hXx0.below hb12 hXx0.lt
      replace hr0 := hr0.below hb12
      replace hx0 := hx0.below hb12
      replace hx1 := hx1.below hb12
      replace hy0 := hy0.below hb12
      replace hbw := Below.up hbw hb12
      have hb12s := hb12.size
      have hB0z := hB0.lt
      have hB0c0 := hB0.c0
      have hB0c1 := hB0.c1
      have hXx0z := hXx0.lt
      have hXx0c0 := hXx0.c0
      have hXx0c1 := hXx0.c1
      clear hb12
      go_wp2_with fail
      refine (eqInt64S_B _ _ l1 l1 _ hx1.ints hz1.ints).mono ?_
      rintro e w13 ⟨rfl, hb13⟩
      clear hB0c0 hB0c1 hXx0c0 hXx0c1 hB0z hXx0z
      replace hB0 := hB0.below hb13 hB0.lt
      replace hXx0 := hXx0.below hb13 hXx0.lt
      replace hr0 := hr0.below hb13
      replace hx0 := hx0.below hb13
      replace hx1 := hx1.below hb13
      replace hy0 := hy0.below hb13
      replace hz1 := hz1.below hb13
      replace hbw := Below.up hbw hb13
      have hb13s := hb13.size
      have hB0z := hB0.lt
      have hB0c0 := hB0.c0
      have hB0c1 := hB0.c1
      have hXx0z := hXx0.lt
      have hXx0c0 := hXx0.c0
      have hXx0c1 := hXx0.c1
      clear hb13
      clear hz1
      go_wp2_with fail
      refine (markArena_O _ (l0) _ _ _ _ hx0 (by omega) (by omega)).mono ?_
      rintro e w14 ⟨rfl, hmx0, hb14⟩
      have hb14s := hb14.size
      clear hB0c0 hB0c1 hXx0c0 hXx0c1 hB0z hXx0z
      replace hB0 := hB0.only hb14 (by omega)
      replace hXx0 := hXx0.only hb14 (by omega)
      replace hr0 := hr0.kept hb14 (by omega)
      replace hx1 := hx1.kept hb14 (by omega)
      replace hy0 := hy0.kept hb14 (by omega)
      replace hbw := hb14.below hbw (by omega) (by omega)
      clear hx0 hb14
      have hB0z := hB0.lt
      have hB0c0 := hB0.c0
      have hB0c1 := hB0.c1
      have hXx0z := hXx0.lt
      have hXx0c0 := hXx0.c0
      have hXx0c1 := hXx0.c1
      clear hmx0
      go_wp2_with fail
      refine (markInt64S_O _ (l1) _ _ _ _ hx1 (by omega) (by omega)).mono ?_
      rintro e w15 ⟨rfl, hmx1, hb15⟩
      have hb15s := hb15.size
      clear hB0c0 hB0c1 hXx0c0 hXx0c1 hB0z hXx0z
      replace hB0 := hB0.only hb15 (by omega)
      replace hXx0 := hXx0.only hb15 (by omega)
      replace hr0 := hr0.kept hb15 (by omega)
      replace hy0 := hy0.kept hb15 (by omega)
      replace hbw := hb15.below hbw (by omega) (by omega)
      clear hx1 hb15
      have hB0z := hB0.lt
      have hB0c0 := hB0.c0
      have hB0c1 := hB0.c1
      have hXx0z := hXx0.lt
      have hXx0c0 := hXx0.c0
      have hXx0c1 := hXx0.c1
      clear hmx1
      go_wp2_with fail
      refine (eqInt64SS_B _ _ (loopsG l0 l1) (loopsG l0 l1) _ hy0.rows hr0.rows).mono ?_
      rintro e w16 ⟨rfl, hb16⟩
      clear hB0c0 hB0c1 hXx0c0 hXx0c1 hB0z hXx0z
      replace hB0 := hB0.below hb16 hB0.lt
      replace hXx0 := hXx0.below hb16 hXx0.lt
      replace hr0 := hr0.below hb16
      replace hy0 := hy0.below hb16
      replace hbw := Below.up hbw hb16
      have hb16s := hb16.size
      have hB0z := hB0.lt
      have hB0c0 := hB0.c0
      have hB0c1 := hB0.c1
      have hXx0z := hXx0.lt
      have hXx0c0 := hXx0.c0
      have hXx0c1 := hXx0.c1
      clear hb16
      go_wp2_with fail
      refine (markInt64SS_O _ (loopsG l0 l1) _ _ _ _ hy0 (by omega) (by omega)).mono ?_
      rintro e w17 ⟨rfl, hmy0, hb17⟩
      have hb17s := hb17.size
      clear hB0c0 hB0c1 hXx0c0 hXx0c1 hB0z hXx0z
      replace hB0 := hB0.only hb17 (by omega)
      replace hXx0 := hXx0.only hb17 (by omega)
      replace hr0 := hr0.kept hb17 (by omega)
      replace hbw := hb17.below hbw (by omega) (by omega)
      clear hy0 hb17
      have hB0z := hB0.lt
      have hB0c0 := hB0.c0
      have hB0c1 := hB0.c1
      have hXx0z := hXx0.lt
      have hXx0c0 := hXx0.c0
      have hXx0c1 := hXx0.c1
      go_wp2_with fail
      refine (heldInt64SS_B _ (loopsG l0 l1) _ _ hmy0.rows (by omega) (by omega)).mono ?_
      rintro e w18 ⟨rfl, hb18⟩
      clear hB0c0 hB0c1 hXx0c0 hXx0c1 hB0z hXx0z
      replace hB0 := hB0.below hb18 hB0.lt
      replace hXx0 := hXx0.below hb18 hXx0.lt
      replace hr0 := hr0.below hb18
      replace hmy0 := hmy0.below hb18
      replace hbw := Below.up hbw hb18
      have hb18s := hb18.size
      have hB0z := hB0.lt
      have hB0c0 := hB0.c0
      have hB0c1 := hB0.c1
      have hXx0z := hXx0.lt
      have hXx0c0 := hXx0.c0
      have hXx0c1 := hXx0.c1
      clear hb18
      go_wp2_with fail
      refine (toArena_B _ l0 _ (hl0.kept (Kept.of hbw)) (by omega)).mono ?_
      rintro e w19 ⟨s0, rfl, hs0, hb19⟩
      clear hB0c0 hB0c1 hXx0c0 hXx0c1 hB0z hXx0z
      replace hB0 := hB0.below hb19 hB0.lt
      replace hXx0 := hXx0.below hb19 hXx0.lt
      replace hr0 := hr0.below hb19
      replace hmy0 := hmy0.below hb19
      replace hbw := Below.up hbw hb19
      have hb19s := hb19.size
      have hB0z := hB0.lt
      have hB0c0 := hB0.c0
      have hB0c1 := hB0.c1
      have hXx0z := hXx0.lt
      have hXx0c0 := hXx0.c0
      have hXx0c1 := hXx0.c1
      clear hb19
      go_wp2_with fail
      refine (toInt64S_B _ l1 _ (hl1.kept (Kept.of hbw)) (by omega)).mono ?_
      rintro e w20 ⟨s1, rfl, hs1, hb20⟩
      clear hB0c0 hB0c1 hXx0c0 hXx0c1 hB0z hXx0z
      replace hB0 := hB0.below hb20 hB0.lt
      replace hXx0 := hXx0.below hb20 hXx0.lt
      replace hr0 := hr0.below hb20
      replace hmy0 := hmy0.below hb20
      replace hs0 := hs0.below hb20
      replace hbw := Below.up hbw hb20
      have hb20s := hb20.size
      have hB0z := hB0.lt
      have hB0c0 := hB0.c0
      have hB0c1 := hB0.c1
      have hXx0z := hXx0.lt
      have hXx0c0 := hXx0.c0
      have hXx0c1 := hXx0.c1
      clear hb20
      go_wp2_with fail
      refine (LoopsOf_any s0 l0 s1 l1 _ hs0.arena hs1.ints).mono ?_
      rintro e w21 ⟨h0, rfl, hh0, hb21⟩
      clear hB0c0 hB0c1 hXx0c0 hXx0c1 hB0z hXx0z
      replace hB0 := hB0.below hb21 hB0.lt
      replace hXx0 := hXx0.below hb21 hXx0.lt
      replace hr0 := hr0.below hb21
      replace hmy0 := hmy0.below hb21
      replace hs0 := hs0.below hb21
      replace hs1 := hs1.below hb21
      replace hbw := Below.up hbw hb21
      have hb21s := hb21.size
      have hB0z := hB0.lt
      have hB0c0 := hB0.c0
      have hB0c1 := hB0.c1
      have hXx0z := hXx0.lt
      have hXx0c0 := hXx0.c0
      have hXx0c1 := hXx0.c1
      clear hb21
      clear hs0
      clear hs1
      go_wp2_with fail
      refine (eqInt64SS_B _ _ (loopsG l0 l1) (loopsG l0 l1) _ hh0.rows hr0.rows).mono ?_
      rintro e w22 ⟨rfl, hb22⟩
      clear hB0c0 hB0c1 hXx0c0 hXx0c1 hB0z hXx0z
      replace hB0 := hB0.below hb22 hB0.lt
      replace hXx0 := hXx0.below hb22 hXx0.lt
      replace hr0 := hr0.below hb22
      replace hmy0 := hmy0.below hb22
      replace hh0 := hh0.below hb22
      replace hbw := Below.up hbw hb22
      have hb22s := hb22.size
      have hB0z := hB0.lt
      have hB0c0 := hB0.c0
      have hB0c1 := hB0.c1
      have hXx0z := hXx0.lt
      have hXx0c0 := hXx0.c0
      have hXx0c1 := hXx0.c1
      clear hb22
      go_wp2_with fail
      refine (heldInt64SS_B _ (loopsG l0 l1) _ _ hmy0.rows (by omega) (by omega)).mono ?_
      rintro e w23 ⟨rfl, hb23⟩
      clear hB0c0 hB0c1 hXx0c0 hXx0c1 hB0z hXx0z
      replace hB0 := hB0.below hb23 hB0.lt
      replace hXx0 := hXx0.below hb23 hXx0.lt
      replace hr0 := hr0.below hb23
      replace hmy0 := hmy0.below hb23
      replace hh0 := hh0.below hb23
      replace hbw := Below.up hbw hb23
      have hb23s := hb23.size
      have hB0z := hB0.lt
      have hB0c0 := hB0.c0
      have hB0c1 := hB0.c1
      have hXx0z := hXx0.lt
      have hXx0c0 := hXx0.c0
      have hXx0c1 := hXx0.c1
      clear hb23
      go_wp2
      go_ret
      exact ⟨rfl, hbw⟩
    · have hz0 : szLeft (bulkA l0) (1048576) = -1 := szLeft_neg g0
      go_enter Try.func10, Try.ntmps10
      have hB0z := hB0.lt
      have hB0c0 := hB0.c0
      have hB0c1 := hB0.c1
      go_wp2_with fail
      refine (szArena_any _ l0 (1048576) _ (hl0.kept (Kept.of hbw)) (by omega) (by omega)).mono ?_
      rintro e w1 ⟨rfl, hb1⟩
      clear hB0c0 hB0c1 hB0z
      replace hB0 := hB0.below hb1 hB0.lt
      replace hbw := Below.up hbw hb1
      have hb1s := hb1.size
      have hB0z := hB0.lt
      have hB0c0 := hB0.c0
      have hB0c1 := hB0.c1
      clear hb1
      go_wp2
      go_ret
      exact ⟨rfl, hbw⟩
  · skip
    go_enter Try.func10, Try.ntmps10
    have hB0z := hB0.lt
    have hB0c0 := hB0.c0
    have hB0c1 := hB0.c1
    go_wp2
    go_ret
    exact ⟨rfl, hbw⟩

end Go.Proofs.Ytpnophmanpfejaa
