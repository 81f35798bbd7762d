/- The walk of the law on SureIn: it returns true and writes nothing that was there. Printed by gen_laws2.py. -/
import Derived.Test.YtmkmghjmfaoobaaSureWalks
import Derived.Test.YtmkmghjmfaoobaaPkB
import Derived.Deep.RegionHeld3
namespace Go.Proofs.Ytmkmghjmfaoobaa
set_option linter.unusedSimpArgs false
set_option linter.unusedVariables false
open Go.RowKit

set_option maxRecDepth 100000 in
set_option maxHeartbeats 2000000 in
theorem FnExactSureIn_true (v0 : Value) (l0 : ParityD) (a1 : Int) (w : World) (hl0 : IsParity w v0 l0) (ha1 : -9223372036854775808 ≤ a1 ∧ a1 ≤ 9223372036854775807) :
    Calls Try.prog 5 #[v0, .int .i64 a1] w fun e w' => e = .returned (.bool true) ∧ Below w.heap.size w w' := by
  obtain ⟨p0x0, p0x1, p0x2, he0⟩ := hl0.open
  subst he0
  have hB0 := Arr.new w 27 [p0x0, p0x1, p0x2]
  have hbw : Below w.heap.size w (w.alloc (.cells #[p0x0, p0x1, p0x2] 27)) := ((Below.refl _ _).alloc (Nat.le_refl _) (.cells #[p0x0, p0x1, p0x2] 27))
  have hBl0 := hB0.lt
  by_cases g0 : (bulkP l0 : Int) ≤ 1048576
  · skip
    have hz0 : szLeft (bulkP l0) (1048576) = 1048576 - bulkP l0 := szLeft_pos g0
    have hp0 : ¬ 1048576 - (bulkP l0 : Int) < 0 := by omega
    have hD0 : (sureG l0 a1).length ≤ 1048576 := sureG_len l0 a1
    have hSz0 := sizeP_le l0
    go_enter Try.func5, Try.ntmps5
    have hB0z := hB0.lt
    have hB0c0 := hB0.c0
    have hB0c1 := hB0.c1
    have hB0c2 := hB0.c2
    go_wp2_with fail
    refine (szParity_any _ l0 (1048576) _ (hl0.kept (Kept.of hbw)) (by omega) (by omega)).mono ?_
    rintro e w1 ⟨rfl, hb1⟩
    clear hB0c0 hB0c1 hB0c2 hB0z
    replace hB0 := hB0.below hb1 hB0.lt
    replace hbw := Below.up hbw hb1
    have hb1s := hb1.size
    have hB0z := hB0.lt
    have hB0c0 := hB0.c0
    have hB0c1 := hB0.c1
    have hB0c2 := hB0.c2
    clear hb1
    go_wp2_with fail
    refine (toParity_B _ l0 _ (hl0.kept (Kept.of hbw)) (by omega)).mono ?_
    rintro e w2 ⟨t0, rfl, ht0, hb2⟩
    clear hB0c0 hB0c1 hB0c2 hB0z
    replace hB0 := hB0.below hb2 hB0.lt
    replace hbw := Below.up hbw hb2
    have hb2s := hb2.size
    have hB0z := hB0.lt
    have hB0c0 := hB0.c0
    have hB0c1 := hB0.c1
    have hB0c2 := hB0.c2
    clear hb2
    clear hz0 hp0
    go_wp2_with fail
    refine (specSureIn_any t0 l0 a1 _ ht0.parity).mono ?_
    rintro e w3 ⟨r0, rfl, hr0, hb3⟩
    clear hB0c0 hB0c1 hB0c2 hB0z
    replace hB0 := hB0.below hb3 hB0.lt
    replace ht0 := ht0.below hb3
    replace hbw := Below.up hbw hb3
    have hb3s := hb3.size
    have hB0z := hB0.lt
    have hB0c0 := hB0.c0
    have hB0c1 := hB0.c1
    have hB0c2 := hB0.c2
    clear hb3
    clear ht0
    replace hr0 := OI.of hr0
    go_wp2_with fail
    refine (toParity_B _ l0 _ (hl0.kept (Kept.of hbw)) (by omega)).mono ?_
    rintro e w4 ⟨x0, rfl, hx0, hb4⟩
    clear hB0c0 hB0c1 hB0c2 hB0z
    replace hB0 := hB0.below hb4 hB0.lt
    replace hr0 := hr0.below hb4
    replace hbw := Below.up hbw hb4
    have hb4s := hb4.size
    have hB0z := hB0.lt
    have hB0c0 := hB0.c0
    have hB0c1 := hB0.c1
    have hB0c2 := hB0.c2
    clear hb4
    obtain ⟨x0A, x0a, x0B, x0b, x0C, x0c, he⟩ := hx0.form
    subst he
    go_wp2_with fail
    have hb5 := (Below.refl _ w4).alloc (Nat.le_refl _) (.cells #[.slice x0A l0.arena.owner.length x0a, .slice x0B l0.arena.next.length x0b, .slice x0C l0.prio.length x0c] 32)
    have hXx0 := Arr.new w4 32 [.slice x0A l0.arena.owner.length x0a, .slice x0B l0.arena.next.length x0b, .slice x0C l0.prio.length x0c]
    generalize w4.alloc (.cells #[.slice x0A l0.arena.owner.length x0a, .slice x0B l0.arena.next.length x0b, .slice x0C l0.prio.length x0c] 32) = w5 at *
    clear hB0c0 hB0c1 hB0c2 hB0z
    replace hB0 := hB0.below hb5 hB0.lt
    replace hr0 := hr0.below hb5
    replace hx0 := hx0.below hb5
    replace hbw := Below.up hbw hb5
    have hb5s := hb5.size
    have hB0z := hB0.lt
    have hB0c0 := hB0.c0
    have hB0c1 := hB0.c1
    have hB0c2 := hB0.c2
    clear hb5
    have hXx0l := hXx0.lt
    have hXx0c0 := hXx0.c0
    have hXx0c1 := hXx0.c1
    have hXx0c2 := hXx0.c2
    have hXx0z := hXx0.lt
    refine (SureIn_any _ l0 a1 _ hx0.parity).mono ?_
    rintro e w6 ⟨y0, rfl, hy0, hb6⟩
    clear hB0c0 hB0c1 hB0c2 hXx0c0 hXx0c1 hXx0c2 hB0z hXx0z
    replace hB0 := hB0.below hb6 hB0.lt
    replace hXx0 := hXx0.below hb6 hXx0.lt
    replace hr0 := hr0.below hb6
    replace hx0 := hx0.below hb6
    replace hbw := Below.up hbw hb6
    have hb6s := hb6.size
    have hB0z := hB0.lt
    have hB0c0 := hB0.c0
    have hB0c1 := hB0.c1
    have hB0c2 := hB0.c2
    have hXx0z := hXx0.lt
    have hXx0c0 := hXx0.c0
    have hXx0c1 := hXx0.c1
    have hXx0c2 := hXx0.c2
    clear hb6
    replace hy0 := OI.of hy0
    go_wp2_with fail
    refine (eqInt64S_B _ _ (sureG l0 a1) (sureG l0 a1) _ hy0.ints hr0.ints).mono ?_
    rintro e w7 ⟨rfl, hb7⟩
    clear hB0c0 hB0c1 hB0c2 hXx0c0 hXx0c1 hXx0c2 hB0z hXx0z
    replace hB0 := hB0.below hb7 hB0.lt
    replace hXx0 := hXx0.below hb7 hXx0.lt
    replace hr0 := hr0.below hb7
    replace hx0 := hx0.below hb7
    replace hy0 := hy0.below hb7
    replace hbw := Below.up hbw hb7
    have hb7s := hb7.size
    have hB0z := hB0.lt
    have hB0c0 := hB0.c0
    have hB0c1 := hB0.c1
    have hB0c2 := hB0.c2
    have hXx0z := hXx0.lt
    have hXx0c0 := hXx0.c0
    have hXx0c1 := hXx0.c1
    have hXx0c2 := hXx0.c2
    clear hb7
    go_wp2_with fail
    go_region_held3 (fun W => W.cell? ⟨w.heap.size, 0, none⟩ = some p0x0 ∧ W.cell? ⟨w.heap.size, 1, none⟩ = some p0x1 ∧ W.cell? ⟨w.heap.size, 2, none⟩ = some p0x2 ∧ W.cell? ⟨w4.heap.size, 0, none⟩ = some (.slice x0A l0.arena.owner.length x0a) ∧ W.cell? ⟨w4.heap.size, 1, none⟩ = some (.slice x0B l0.arena.next.length x0b) ∧ W.cell? ⟨w4.heap.size, 2, none⟩ = some (.slice x0C l0.prio.length x0c))
      (first | exact ⟨(hB0).c0, (hB0).c1, (hB0).c2, (hXx0).c0, (hXx0).c1, (hXx0).c2⟩ | exact ⟨(hB0.below hb8 hB0.lt).c0, (hB0.below hb8 hB0.lt).c1, (hB0.below hb8 hB0.lt).c2, (hXx0.below hb8 hXx0.lt).c0, (hXx0.below hb8 hXx0.lt).c1, (hXx0.below hb8 hXx0.lt).c2⟩ | exact ⟨((hB0.below hb8 hB0.lt).below hb9 (hB0.below hb8 hB0.lt).lt).c0, ((hB0.below hb8 hB0.lt).below hb9 (hB0.below hb8 hB0.lt).lt).c1, ((hB0.below hb8 hB0.lt).below hb9 (hB0.below hb8 hB0.lt).lt).c2, ((hXx0.below hb8 hXx0.lt).below hb9 (hXx0.below hb8 hXx0.lt).lt).c0, ((hXx0.below hb8 hXx0.lt).below hb9 (hXx0.below hb8 hXx0.lt).lt).c1, ((hXx0.below hb8 hXx0.lt).below hb9 (hXx0.below hb8 hXx0.lt).lt).c2⟩)
      (first | (go_at_call 12; refine (toParity_B _ l0 _ ((hl0.kept (Kept.of hbw)).kept (Kept.drew _)) (by omega)).mono ?_; rintro e w8 ⟨z0, rfl, hz0, hb8⟩; replace hb8 := below_of_drew hb8) | (go_at_call 14; refine (eqParity_B _ _ l0 l0 _ (hx0.below hb8).parity hz0.parity).mono ?_; rintro e w9 ⟨rfl, hb9⟩))
    clear hB0c0 hB0c1 hB0c2 hXx0c0 hXx0c1 hXx0c2 hB0z hXx0z
    replace hB0 := hB0.below hb8 hB0.lt
    replace hXx0 := hXx0.below hb8 hXx0.lt
    replace hr0 := hr0.below hb8
    replace hx0 := hx0.below hb8
    replace hy0 := hy0.below hb8
    replace hbw := Below.up hbw hb8
    have hb8s := hb8.size
    have hB0z := hB0.lt
    have hB0c0 := hB0.c0
    have hB0c1 := hB0.c1
    have hB0c2 := hB0.c2
    have hXx0z := hXx0.lt
    have hXx0c0 := hXx0.c0
    have hXx0c1 := hXx0.c1
    have hXx0c2 := hXx0.c2
    clear hB0c0 hB0c1 hB0c2 hXx0c0 hXx0c1 hXx0c2 hB0z hXx0z
    replace hB0 := hB0.below hb9 hB0.lt
    replace hXx0 := hXx0.below hb9 hXx0.lt
    replace hr0 := hr0.below hb9
    replace hx0 := hx0.below hb9
    replace hy0 := hy0.below hb9
    replace hbw := Below.up hbw hb9
    have hb9s := hb9.size
    have hB0z := hB0.lt
    have hB0c0 := hB0.c0
    have hB0c1 := hB0.c1
    have hB0c2 := hB0.c2
    have hXx0z := hXx0.lt
    have hXx0c0 := hXx0.c0
    have hXx0c1 := hXx0.c1
    have hXx0c2 := hXx0.c2
    clear hb8 hb9 hz0
    go_wp2_with fail
    refine (markParity_O _ (l0) _ _ _ _ hx0 (by omega) (by omega)).mono ?_
    rintro e w10 ⟨rfl, hmx0, hb10⟩
    have hb10s := hb10.size
    clear hB0c0 hB0c1 hB0c2 hXx0c0 hXx0c1 hXx0c2 hB0z hXx0z
    replace hB0 := hB0.only hb10 (by omega)
    replace hXx0 := hXx0.only hb10 (by omega)
    replace hr0 := hr0.kept hb10 (by omega)
    replace hy0 := hy0.kept hb10 (by omega)
    replace hbw := hb10.below hbw (by omega) (by omega)
    clear hx0 hb10
    have hB0z := hB0.lt
    have hB0c0 := hB0.c0
    have hB0c1 := hB0.c1
    have hB0c2 := hB0.c2
    have hXx0z := hXx0.lt
    have hXx0c0 := hXx0.c0
    have hXx0c1 := hXx0.c1
    have hXx0c2 := hXx0.c2
    clear hmx0
    go_wp2_with fail
    refine (eqInt64S_B _ _ (sureG l0 a1) (sureG l0 a1) _ hy0.ints hr0.ints).mono ?_
    rintro e w11 ⟨rfl, hb11⟩
    clear hB0c0 hB0c1 hB0c2 hXx0c0 hXx0c1 hXx0c2 hB0z hXx0z
    replace hB0 := hB0.below hb11 hB0.lt
    replace hXx0 := hXx0.below hb11 hXx0.lt
    replace hr0 := hr0.below hb11
    replace hy0 := hy0.below hb11
    replace hbw := Below.up hbw hb11
    have hb11s := hb11.size
    have hB0z := hB0.lt
    have hB0c0 := hB0.c0
    have hB0c1 := hB0.c1
    have hB0c2 := hB0.c2
    have hXx0z := hXx0.lt
    have hXx0c0 := hXx0.c0
    have hXx0c1 := hXx0.c1
    have hXx0c2 := hXx0.c2
    clear hb11
    go_wp2_with fail
    refine (markInt64S_O _ (sureG l0 a1) _ _ _ _ hy0 (by omega) (by omega)).mono ?_
    rintro e w12 ⟨rfl, hmy0, hb12⟩
    have hb12s := hb12.size
    clear hB0c0 hB0c1 hB0c2 hXx0c0 hXx0c1 hXx0c2 hB0z hXx0z
    replace hB0 := hB0.only hb12 (by omega)
    replace hXx0 := hXx0.only hb12 (by omega)
    replace hr0 := hr0.kept hb12 (by omega)
    replace hbw := hb12.below hbw (by omega) (by omega)
    clear hy0 hb12
    have hB0z := hB0.lt
    have hB0c0 := hB0.c0
    have hB0c1 := hB0.c1
    have hB0c2 := hB0.c2
    have hXx0z := hXx0.lt
    have hXx0c0 := hXx0.c0
    have hXx0c1 := hXx0.c1
    have hXx0c2 := hXx0.c2
    go_wp2_with fail
    refine (heldInt64S_B _ (sureG l0 a1) _ _ hmy0.ints (by omega) (by omega)).mono ?_
    rintro e w13 ⟨rfl, hb13⟩
    clear hB0c0 hB0c1 hB0c2 hXx0c0 hXx0c1 hXx0c2 hB0z hXx0z
    replace hB0 := hB0.below hb13 hB0.lt
    replace hXx0 := hXx0.below hb13 hXx0.lt
    replace hr0 := hr0.below hb13
    replace hmy0 := hmy0.below hb13
    replace hbw := Below.up hbw hb13
    have hb13s := hb13.size
    have hB0z := hB0.lt
    have hB0c0 := hB0.c0
    have hB0c1 := hB0.c1
    have hB0c2 := hB0.c2
    have hXx0z := hXx0.lt
    have hXx0c0 := hXx0.c0
    have hXx0c1 := hXx0.c1
    have hXx0c2 := hXx0.c2
    clear hb13
    go_wp2_with fail
    refine (toParity_B _ l0 _ (hl0.kept (Kept.of hbw)) (by omega)).mono ?_
    rintro e w14 ⟨s0, rfl, hs0, hb14⟩
    clear hB0c0 hB0c1 hB0c2 hXx0c0 hXx0c1 hXx0c2 hB0z hXx0z
    replace hB0 := hB0.below hb14 hB0.lt
    replace hXx0 := hXx0.below hb14 hXx0.lt
    replace hr0 := hr0.below hb14
    replace hmy0 := hmy0.below hb14
    replace hbw := Below.up hbw hb14
    have hb14s := hb14.size
    have hB0z := hB0.lt
    have hB0c0 := hB0.c0
    have hB0c1 := hB0.c1
    have hB0c2 := hB0.c2
    have hXx0z := hXx0.lt
    have hXx0c0 := hXx0.c0
    have hXx0c1 := hXx0.c1
    have hXx0c2 := hXx0.c2
    clear hb14
    go_wp2_with fail
    refine (SureIn_any s0 l0 a1 _ hs0.parity).mono ?_
    rintro e w15 ⟨h0, rfl, hh0, hb15⟩
    clear hB0c0 hB0c1 hB0c2 hXx0c0 hXx0c1 hXx0c2 hB0z hXx0z
    replace hB0 := hB0.below hb15 hB0.lt
    replace hXx0 := hXx0.below hb15 hXx0.lt
    replace hr0 := hr0.below hb15
    replace hmy0 := hmy0.below hb15
    replace hs0 := hs0.below hb15
    replace hbw := Below.up hbw hb15
    have hb15s := hb15.size
    have hB0z := hB0.lt
    have hB0c0 := hB0.c0
    have hB0c1 := hB0.c1
    have hB0c2 := hB0.c2
    have hXx0z := hXx0.lt
    have hXx0c0 := hXx0.c0
    have hXx0c1 := hXx0.c1
    have hXx0c2 := hXx0.c2
    clear hb15
    clear hs0
    replace hh0 := OI.of hh0
    go_wp2_with fail
    refine (eqInt64S_B _ _ (sureG l0 a1) (sureG l0 a1) _ hh0.ints hr0.ints).mono ?_
    rintro e w16 ⟨rfl, hb16⟩
    clear hB0c0 hB0c1 hB0c2 hXx0c0 hXx0c1 hXx0c2 hB0z hXx0z
    replace hB0 := hB0.below hb16 hB0.lt
    replace hXx0 := hXx0.below hb16 hXx0.lt
    replace hr0 := hr0.below hb16
    replace hmy0 := hmy0.below hb16
    replace hh0 := hh0.below hb16
    replace hbw := Below.up hbw hb16
    have hb16s := hb16.size
    have hB0z := hB0.lt
    have hB0c0 := hB0.c0
    have hB0c1 := hB0.c1
    have hB0c2 := hB0.c2
    have hXx0z := hXx0.lt
    have hXx0c0 := hXx0.c0
    have hXx0c1 := hXx0.c1
    have hXx0c2 := hXx0.c2
    clear hb16
    go_wp2_with fail
    refine (heldInt64S_B _ (sureG l0 a1) _ _ hmy0.ints (by omega) (by omega)).mono ?_
    rintro e w17 ⟨rfl, hb17⟩
    clear hB0c0 hB0c1 hB0c2 hXx0c0 hXx0c1 hXx0c2 hB0z hXx0z
    replace hB0 := hB0.below hb17 hB0.lt
    replace hXx0 := hXx0.below hb17 hXx0.lt
    replace hr0 := hr0.below hb17
    replace hmy0 := hmy0.below hb17
    replace hh0 := hh0.below hb17
    replace hbw := Below.up hbw hb17
    have hb17s := hb17.size
    have hB0z := hB0.lt
    have hB0c0 := hB0.c0
    have hB0c1 := hB0.c1
    have hB0c2 := hB0.c2
    have hXx0z := hXx0.lt
    have hXx0c0 := hXx0.c0
    have hXx0c1 := hXx0.c1
    have hXx0c2 := hXx0.c2
    clear hb17
    go_wp2
    go_ret
    exact ⟨rfl, hbw⟩
  · have hz0 : szLeft (bulkP l0) (1048576) = -1 := szLeft_neg g0
    go_enter Try.func5, Try.ntmps5
    have hB0z := hB0.lt
    have hB0c0 := hB0.c0
    have hB0c1 := hB0.c1
    have hB0c2 := hB0.c2
    go_wp2_with fail
    refine (szParity_any _ l0 (1048576) _ (hl0.kept (Kept.of hbw)) (by omega) (by omega)).mono ?_
    rintro e w1 ⟨rfl, hb1⟩
    clear hB0c0 hB0c1 hB0c2 hB0z
    replace hB0 := hB0.below hb1 hB0.lt
    replace hbw := Below.up hbw hb1
    have hb1s := hb1.size
    have hB0z := hB0.lt
    have hB0c0 := hB0.c0
    have hB0c1 := hB0.c1
    have hB0c2 := hB0.c2
    clear hb1
    go_wp2
    go_ret
    exact ⟨rfl, hbw⟩

end Go.Proofs.Ytmkmghjmfaoobaa
