/- The walk of the law on WinsBy: it returns true and writes nothing that was there. Printed by gen_laws2.py. -/
import Derived.Test.YtpnophmanpfejaaBadWalks3
import Derived.Test.YtpnophmanpfejaaLawBox
import Derived.Deep.RegionHeld3
namespace Go.Proofs.Ytpnophmanpfejaa
set_option linter.unusedSimpArgs false
set_option linter.unusedVariables false
open Go.RowKit

set_option maxRecDepth 100000 in
set_option maxHeartbeats 2000000 in
theorem FnExactWinsBy_true (v0 : Value) (l0 : ParityD) (a1 : Int) (v2 : Value) (l2 : List Int) (v3 : Value) (l3 : List Int) (w : World) (hl0 : IsParity w v0 l0) (ha1 : -9223372036854775808 ≤ a1 ∧ a1 ≤ 9223372036854775807) (hl2 : Ints w v2 l2) (hl3 : Ints w v3 l3) :
    Calls Try.prog 7 #[v0, .int .i64 a1, v2, v3] w fun e w' => e = .returned (.bool true) ∧ Below w.heap.size w w' := by
  obtain ⟨p0x0, p0x1, p0x2, he0⟩ := hl0.open
  subst he0
  obtain ⟨A2, c2, rfl, hlc2, hcm2⟩ := hl2.form
  obtain ⟨A3, c3, rfl, hlc3, hcm3⟩ := hl3.form
  have hB0 := Arr.new w 27 [p0x0, p0x1, p0x2]
  have hbw : Below w.heap.size w (w.alloc (.cells #[p0x0, p0x1, p0x2] 27)) := ((Below.refl _ _).alloc (Nat.le_refl _) (.cells #[p0x0, p0x1, p0x2] 27))
  have hBl0 := hB0.lt
  by_cases g2 : l2.length ≤ 1048576
  · skip
    by_cases g3 : l3.length ≤ 1048576
    · skip
      by_cases g0 : (bulkP l0 : Int) ≤ 1048576
      · skip
        have hz0 : szLeft (bulkP l0) (1048576) = 1048576 - bulkP l0 := szLeft_pos g0
        have hp0 : ¬ 1048576 - (bulkP l0 : Int) < 0 := by omega
        go_enter Try.func7, Try.ntmps7
        have hB0z := hB0.lt
        have hB0c0 := hB0.c0
        have hB0c1 := hB0.c1
        have hB0c2 := hB0.c2
        go_wp2_with fail
        refine (szParity_any _ l0 (1048576) _ (hl0.kept (Kept.of hbw)) (by omega) (by omega)).mono ?_
        rintro e w1 ⟨rfl, hb1⟩
        clear hB0c0 hB0c1 hB0c2 hB0z
        replace hB0 := hB0.below hb1 hB0.lt
        replace hbw := Below.up hbw hb1
        have hb1s := hb1.size
        have hB0z := hB0.lt
        have hB0c0 := hB0.c0
        have hB0c1 := hB0.c1
        have hB0c2 := hB0.c2
        clear hb1
        go_wp2_with fail
        refine (toParity_B _ l0 _ (hl0.kept (Kept.of hbw)) (by omega)).mono ?_
        rintro e w2 ⟨t0, rfl, ht0, hb2⟩
        clear hB0c0 hB0c1 hB0c2 hB0z
        replace hB0 := hB0.below hb2 hB0.lt
        replace hbw := Below.up hbw hb2
        have hb2s := hb2.size
        have hB0z := hB0.lt
        have hB0c0 := hB0.c0
        have hB0c1 := hB0.c1
        have hB0c2 := hB0.c2
        clear hb2
        go_wp2_with fail
        refine (toInt64S_B _ l2 _ (hl2.kept (Kept.of hbw)) (by omega)).mono ?_
        rintro e w3 ⟨t2, rfl, ht2, hb3⟩
        clear hB0c0 hB0c1 hB0c2 hB0z
        replace hB0 := hB0.below hb3 hB0.lt
        replace ht0 := ht0.below hb3
        replace hbw := Below.up hbw hb3
        have hb3s := hb3.size
        have hB0z := hB0.lt
        have hB0c0 := hB0.c0
        have hB0c1 := hB0.c1
        have hB0c2 := hB0.c2
        clear hb3
        go_wp2_with fail
        refine (toInt64S_B _ l3 _ (hl3.kept (Kept.of hbw)) (by omega)).mono ?_
        rintro e w4 ⟨t3, rfl, ht3, hb4⟩
        clear hB0c0 hB0c1 hB0c2 hB0z
        replace hB0 := hB0.below hb4 hB0.lt
        replace ht0 := ht0.below hb4
        replace ht2 := ht2.below hb4
        replace hbw := Below.up hbw hb4
        have hb4s := hb4.size
        have hB0z := hB0.lt
        have hB0c0 := hB0.c0
        have hB0c1 := hB0.c1
        have hB0c2 := hB0.c2
        clear hb4
        clear hz0 hp0
        go_wp2_with fail
        refine (specWinsBy_any t0 l0 a1 t2 l2 t3 l3 _ ht0.parity ht2.ints ht3.ints).mono ?_
        rintro e w5 ⟨rfl, hb5⟩
        clear hB0c0 hB0c1 hB0c2 hB0z
        replace hB0 := hB0.below hb5 hB0.lt
        replace ht0 := ht0.below hb5
        replace ht2 := ht2.below hb5
        replace ht3 := ht3.below hb5
        replace hbw := Below.up hbw hb5
        have hb5s := hb5.size
        have hB0z := hB0.lt
        have hB0c0 := hB0.c0
        have hB0c1 := hB0.c1
        have hB0c2 := hB0.c2
        clear hb5
        clear ht0
        clear ht2
        clear ht3
        go_wp2_with fail
        refine (toParity_B _ l0 _ (hl0.kept (Kept.of hbw)) (by omega)).mono ?_
        rintro e w6 ⟨x0, rfl, hx0, hb6⟩
        clear hB0c0 hB0c1 hB0c2 hB0z
        replace hB0 := hB0.below hb6 hB0.lt
        replace hbw := Below.up hbw hb6
        have hb6s := hb6.size
        have hB0z := hB0.lt
        have hB0c0 := hB0.c0
        have hB0c1 := hB0.c1
        have hB0c2 := hB0.c2
        clear hb6
        obtain ⟨x0A, x0a, x0B, x0b, x0C, x0c, he⟩ := hx0.form
        subst he
        go_wp2_with fail
        have hb7 := (Below.refl _ w6).alloc (Nat.le_refl _) (.cells #[.slice x0A l0.arena.owner.length x0a, .slice x0B l0.arena.next.length x0b, .slice x0C l0.prio.length x0c] 32)
        have hXx0 := Arr.new w6 32 [.slice x0A l0.arena.owner.length x0a, .slice x0B l0.arena.next.length x0b, .slice x0C l0.prio.length x0c]
        generalize w6.alloc (.cells #[.slice x0A l0.arena.owner.length x0a, .slice x0B l0.arena.next.length x0b, .slice x0C l0.prio.length x0c] 32) = w7 at *
        clear hB0c0 hB0c1 hB0c2 hB0z
        replace hB0 := hB0.below hb7 hB0.lt
        replace hx0 := hx0.below hb7
        replace hbw := Below.up hbw hb7
        have hb7s := hb7.size
        have hB0z := hB0.lt
        have hB0c0 := hB0.c0
        have hB0c1 := hB0.c1
        have hB0c2 := hB0.c2
        clear hb7
        have hXx0l := hXx0.lt
        have hXx0c0 := hXx0.c0
        have hXx0c1 := hXx0.c1
        have hXx0c2 := hXx0.c2
        have hXx0z := hXx0.lt
        refine (toInt64S_B _ l2 _ (hl2.kept (Kept.of hbw)) (by omega)).mono ?_
        rintro e w8 ⟨x2, rfl, hx2, hb8⟩
        clear hB0c0 hB0c1 hB0c2 hXx0c0 hXx0c1 hXx0c2 hB0z hXx0z
        replace hB0 := hB0.below hb8 hB0.lt
        replace hXx0 := hXx0.below hb8 hXx0.lt
        replace hx0 := hx0.below hb8
        replace hbw := Below.up hbw hb8
        have hb8s := hb8.size
        have hB0z := hB0.lt
        have hB0c0 := hB0.c0
        have hB0c1 := hB0.c1
        have hB0c2 := hB0.c2
        have hXx0z := hXx0.lt
        have hXx0c0 := hXx0.c0
        have hXx0c1 := hXx0.c1
        have hXx0c2 := hXx0.c2
        clear hb8
        go_wp2_with fail
        refine (toInt64S_B _ l3 _ (hl3.kept (Kept.of hbw)) (by omega)).mono ?_
        rintro e w9 ⟨x3, rfl, hx3, hb9⟩
        clear hB0c0 hB0c1 hB0c2 hXx0c0 hXx0c1 hXx0c2 hB0z hXx0z
        replace hB0 := hB0.below hb9 hB0.lt
        replace hXx0 := hXx0.below hb9 hXx0.lt
        replace hx0 := hx0.below hb9
        replace hx2 := hx2.below hb9
        replace hbw := Below.up hbw hb9
        have hb9s := hb9.size
        have hB0z := hB0.lt
        have hB0c0 := hB0.c0
        have hB0c1 := hB0.c1
        have hB0c2 := hB0.c2
        have hXx0z := hXx0.lt
        have hXx0c0 := hXx0.c0
        have hXx0c1 := hXx0.c1
        have hXx0c2 := hXx0.c2
        clear hb9
        go_wp2_with fail
        refine (WinsBy_any _ l0 a1 x2 l2 x3 l3 _ hx0.parity hx2.ints hx3.ints).mono ?_
        rintro e w10 ⟨rfl, hb10⟩
        clear hB0c0 hB0c1 hB0c2 hXx0c0 hXx0c1 hXx0c2 hB0z hXx0z
        replace hB0 := hB0.below hb10 hB0.lt
        replace hXx0 := hXx0.below hb10 hXx0.lt
        replace hx0 := hx0.below hb10
        replace hx2 := hx2.below hb10
        replace hx3 := hx3.below hb10
        replace hbw := Below.up hbw hb10
        have hb10s := hb10.size
        have hB0z := hB0.lt
        have hB0c0 := hB0.c0
        have hB0c1 := hB0.c1
        have hB0c2 := hB0.c2
        have hXx0z := hXx0.lt
        have hXx0c0 := hXx0.c0
        have hXx0c1 := hXx0.c1
        have hXx0c2 := hXx0.c2
        clear hb10
        go_wp2_with fail
        go_region_held3 (fun W => W.cell? ⟨w.heap.size, 0, none⟩ = some p0x0 ∧ W.cell? ⟨w.heap.size, 1, none⟩ = some p0x1 ∧ W.cell? ⟨w.heap.size, 2, none⟩ = some p0x2 ∧ W.cell? ⟨w6.heap.size, 0, none⟩ = some (.slice x0A l0.arena.owner.length x0a) ∧ W.cell? ⟨w6.heap.size, 1, none⟩ = some (.slice x0B l0.arena.next.length x0b) ∧ W.cell? ⟨w6.heap.size, 2, none⟩ = some (.slice x0C l0.prio.length x0c))
          (first | exact ⟨(hB0).c0, (hB0).c1, (hB0).c2, (hXx0).c0, (hXx0).c1, (hXx0).c2⟩ | exact ⟨(hB0.below hb11 hB0.lt).c0, (hB0.below hb11 hB0.lt).c1, (hB0.below hb11 hB0.lt).c2, (hXx0.below hb11 hXx0.lt).c0, (hXx0.below hb11 hXx0.lt).c1, (hXx0.below hb11 hXx0.lt).c2⟩ | exact ⟨((hB0.below hb11 hB0.lt).below hb12 (hB0.below hb11 hB0.lt).lt).c0, ((hB0.below hb11 hB0.lt).below hb12 (hB0.below hb11 hB0.lt).lt).c1, ((hB0.below hb11 hB0.lt).below hb12 (hB0.below hb11 hB0.lt).lt).c2, ((hXx0.below hb11 hXx0.lt).below hb12 (hXx0.below hb11 hXx0.lt).lt).c0, ((hXx0.below hb11 hXx0.lt).below hb12 (hXx0.below hb11 hXx0.lt).lt).c1, ((hXx0.below hb11 hXx0.lt).below hb12 (hXx0.below hb11 hXx0.lt).lt).c2⟩)
          (first | (go_at_call 17; refine (toParity_B _ l0 _ ((hl0.kept (Kept.of hbw)).kept (Kept.drew _)) (by omega)).mono ?_; rintro e w11 ⟨z0, rfl, hz0, hb11⟩; replace hb11 := below_of_drew hb11) | (go_at_call 21; refine (eqParity_B _ _ l0 l0 _ (hx0.below hb11).parity hz0.parity).mono ?_; rintro e w12 ⟨rfl, hb12⟩))
        clear hB0c0 hB0c1 hB0c2 hXx0c0 hXx0c1 hXx0c2 hB0z hXx0z
        replace hB0 := hB0.below hb11 hB0.lt
        replace hXx0 := hXx0.below hb11 hXx0.lt
        replace hx0 := hx0.below hb11
        replace hx2 := hx2.below hb11
        replace hx3 := hx3.below hb11
        replace hbw := Below.up hbw hb11
        have hb11s := hb11.size
        have hB0z := hB0.lt
        have hB0c0 := hB0.c0
        have hB0c1 := hB0.c1
        have hB0c2 := hB0.c2
        have hXx0z := hXx0.lt
        have hXx0c0 := hXx0.c0
        have hXx0c1 := hXx0.c1
        have hXx0c2 := hXx0.c2
        clear hB0c0 hB0c1 hB0c2 hXx0c0 hXx0c1 hXx0c2 hB0z hXx0z
        replace hB0 := hB0.below hb12 hB0.lt
        replace hXx0 := hXx0.below hb12 hXx0.lt
        replace hx0 := hx0.below hb12
        replace hx2 := hx2.below hb12
        replace hx3 := hx3.below hb12
        replace hbw := Below.up hbw hb12
        have hb12s := hb12.size
        have hB0z := hB0.lt
        have hB0c0 := hB0.c0
        have hB0c1 := hB0.c1
        have hB0c2 := hB0.c2
        have hXx0z := hXx0.lt
        have hXx0c0 := hXx0.c0
        have hXx0c1 := hXx0.c1
        have hXx0c2 := hXx0.c2
        clear hb11 hb12 hz0
        go_wp2_with fail
        refine (toInt64S_B _ l2 _ (hl2.kept (Kept.of hbw)) (by omega)).mono ?_
        rintro e w13 ⟨z2, rfl, hz2, hb13⟩
        clear hB0c0 hB0c1 hB0c2 hXx0c0 hXx0c1 hXx0c2 hB0z hXx0z
        replace hB0 := hB0.below hb13 hB0.lt
        replace hXx0 := hXx0.below hb13 hXx0.lt
        replace hx0 := hx0.below hb13
        replace hx2 := hx2.below hb13
        replace hx3 := hx3.below hb13
        replace hbw := Below.up hbw hb13
        have hb13s := hb13.size
        have hB0z := hB0.lt
        have hB0c0 := hB0.c0
        have hB0c1 := hB0.c1
        have hB0c2 := hB0.c2
        have hXx0z := hXx0.lt
        have hXx0c0 := hXx0.c0
        have hXx0c1 := hXx0.c1
        have hXx0c2 := hXx0.c2
        clear hb13
        go_wp2_with fail
        refine (eqInt64S_B _ _ l2 l2 _ hx2.ints hz2.ints).mono ?_
        rintro e w14 ⟨rfl, hb14⟩
        clear hB0c0 hB0c1 hB0c2 hXx0c0 hXx0c1 hXx0c2 hB0z hXx0z
        replace hB0 := hB0.below hb14 hB0.lt
        replace hXx0 := hXx0.below hb14 hXx0.lt
        replace hx0 := hx0.below hb14
        replace hx2 := hx2.below hb14
        replace hx3 := hx3.below hb14
        replace hz2 := hz2.below hb14
        replace hbw := Below.up hbw hb14
        have hb14s := hb14.size
        have hB0z := hB0.lt
        have hB0c0 := hB0.c0
        have hB0c1 := hB0.c1
        have hB0c2 := hB0.c2
        have hXx0z := hXx0.lt
        have hXx0c0 := hXx0.c0
        have hXx0c1 := hXx0.c1
        have hXx0c2 := hXx0.c2
        clear hb14
        clear hz2
        go_wp2_with fail
        refine (toInt64S_B _ l3 _ (hl3.kept (Kept.of hbw)) (by omega)).mono ?_
        rintro e w15 ⟨z3, rfl, hz3, hb15⟩
        clear hB0c0 hB0c1 hB0c2 hXx0c0 hXx0c1 hXx0c2 hB0z hXx0z
        replace hB0 := hB0.below hb15 hB0.lt
        replace hXx0 := hXx0.below hb15 hXx0.lt
        replace hx0 := hx0.below hb15
        replace hx2 := hx2.below hb15
        replace hx3 := hx3.below hb15
        replace hbw := Below.up hbw hb15
        have hb15s := hb15.size
        have hB0z := hB0.lt
        have hB0c0 := hB0.c0
        have hB0c1 := hB0.c1
        have hB0c2 := hB0.c2
        have hXx0z := hXx0.lt
        have hXx0c0 := hXx0.c0
        have hXx0c1 := hXx0.c1
        have hXx0c2 := hXx0.c2
        clear hb15
        go_wp2_with fail
        refine (eqInt64S_B _ _ l3 l3 _ hx3.ints hz3.ints).mono ?_
        rintro e w16 ⟨rfl, hb16⟩
        clear hB0c0 hB0c1 hB0c2 hXx0c0 hXx0c1 hXx0c2 hB0z hXx0z
        replace hB0 := hB0.below hb16 hB0.lt
        replace hXx0 := hXx0.below hb16 hXx0.lt
        replace hx0 := hx0.below hb16
        replace hx2 := hx2.below hb16
        replace hx3 := hx3.below hb16
        replace hz3 := hz3.below hb16
        replace hbw := Below.up hbw hb16
        have hb16s := hb16.size
        have hB0z := hB0.lt
        have hB0c0 := hB0.c0
        have hB0c1 := hB0.c1
        have hB0c2 := hB0.c2
        have hXx0z := hXx0.lt
        have hXx0c0 := hXx0.c0
        have hXx0c1 := hXx0.c1
        have hXx0c2 := hXx0.c2
        clear hb16
        clear hz3
        go_wp2
        go_ret
        exact ⟨rfl, hbw⟩
      · have hz0 : szLeft (bulkP l0) (1048576) = -1 := szLeft_neg g0
        go_enter Try.func7, Try.ntmps7
        have hB0z := hB0.lt
        have hB0c0 := hB0.c0
        have hB0c1 := hB0.c1
        have hB0c2 := hB0.c2
        go_wp2_with fail
        refine (szParity_any _ l0 (1048576) _ (hl0.kept (Kept.of hbw)) (by omega) (by omega)).mono ?_
        rintro e w1 ⟨rfl, hb1⟩
        clear hB0c0 hB0c1 hB0c2 hB0z
        replace hB0 := hB0.below hb1 hB0.lt
        replace hbw := Below.up hbw hb1
        have hb1s := hb1.size
        have hB0z := hB0.lt
        have hB0c0 := hB0.c0
        have hB0c1 := hB0.c1
        have hB0c2 := hB0.c2
        clear hb1
        go_wp2
        go_ret
        exact ⟨rfl, hbw⟩
    · skip
      go_enter Try.func7, Try.ntmps7
      have hB0z := hB0.lt
      have hB0c0 := hB0.c0
      have hB0c1 := hB0.c1
      have hB0c2 := hB0.c2
      go_wp2
      go_ret
      exact ⟨rfl, hbw⟩
  · skip
    go_enter Try.func7, Try.ntmps7
    have hB0z := hB0.lt
    have hB0c0 := hB0.c0
    have hB0c1 := hB0.c1
    have hB0c2 := hB0.c2
    go_wp2
    go_ret
    exact ⟨rfl, hbw⟩

end Go.Proofs.Ytpnophmanpfejaa
