/- The walk of the law on Pressed: it returns true and writes nothing that was there. Printed by gen_laws2.py. -/
import Derived.Test.YtpnophmanpfejaaPressSpec
import Derived.Test.YtpnophmanpfejaaPkB
import Derived.Deep.RegionHeld3
namespace Go.Proofs.Ytpnophmanpfejaa
set_option linter.unusedSimpArgs false
set_option linter.unusedVariables false
open Go.RowKit

set_option maxRecDepth 100000 in
set_option maxHeartbeats 2000000 in
theorem FnExactPressed_true (v0 : Value) (l0 : ParityD) (w : World) (hl0 : IsParity w v0 l0) :
    Calls Try.prog 9 #[v0] w fun e w' => e = .returned (.bool true) ∧ Below w.heap.size w w' := by
  obtain ⟨p0x0, p0x1, p0x2, he0⟩ := hl0.open
  subst he0
  have hB0 := Arr.new w 27 [p0x0, p0x1, p0x2]
  have hbw : Below w.heap.size w (w.alloc (.cells #[p0x0, p0x1, p0x2] 27)) := ((Below.refl _ _).alloc (Nat.le_refl _) (.cells #[p0x0, p0x1, p0x2] 27))
  have hBl0 := hB0.lt
  by_cases g0 : (bulkP l0 : Int) ≤ 1048576
  · skip
    have hz0 : szLeft (bulkP l0) (1048576) = 1048576 - bulkP l0 := szLeft_pos g0
    have hp0 : ¬ 1048576 - (bulkP l0 : Int) < 0 := by omega
    have hD0 := pressG_bulk l0 (by omega)
    have hD1 := sizeP_le (pressG l0)
    have hSz0 := sizeP_le l0
    go_enter Try.func9, Try.ntmps9
    have hB0z := hB0.lt
    have hB0c0 := hB0.c0
    have hB0c1 := hB0.c1
    have hB0c2 := hB0.c2
    go_wp2_with fail
    refine (szParity_any _ l0 (1048576) _ (hl0.kept (Kept.of hbw)) (by omega) (by omega)).mono ?_
    rintro e w1 ⟨rfl, hb1⟩
    clear hB0c0 hB0c1 hB0c2 hB0z
    replace hB0 := hB0.below hb1 hB0.lt
    replace hbw := Below.up hbw hb1
    have hb1s := hb1.size
    have hB0z := hB0.lt
    have hB0c0 := hB0.c0
    have hB0c1 := hB0.c1
    have hB0c2 := hB0.c2
    clear hb1
    go_wp2_with fail
    refine (toParity_B _ l0 _ (hl0.kept (Kept.of hbw)) (by omega)).mono ?_
    rintro e w2 ⟨t0, rfl, ht0, hb2⟩
    clear hB0c0 hB0c1 hB0c2 hB0z
    replace hB0 := hB0.below hb2 hB0.lt
    replace hbw := Below.up hbw hb2
    have hb2s := hb2.size
    have hB0z := hB0.lt
    have hB0c0 := hB0.c0
    have hB0c1 := hB0.c1
    have hB0c2 := hB0.c2
    clear hb2
    clear hz0 hp0
    go_wp2_with fail
    refine (specPressed_any t0 l0 _ ht0.parity).mono ?_
    rintro e w3 ⟨r0, rfl, hr0, hb3⟩
    clear hB0c0 hB0c1 hB0c2 hB0z
    replace hB0 := hB0.below hb3 hB0.lt
    replace ht0 := ht0.below hb3
    replace hbw := Below.up hbw hb3
    have hb3s := hb3.size
    have hB0z := hB0.lt
    have hB0c0 := hB0.c0
    have hB0c1 := hB0.c1
    have hB0c2 := hB0.c2
    clear hb3
    clear ht0
    obtain ⟨r0A, r0a, r0B, r0b, r0C, r0c, he⟩ := hr0.form
    subst he
    go_wp2_with fail
    have hb4 := (Below.refl _ w3).alloc (Nat.le_refl _) (.cells #[.slice r0A (pressG l0).arena.owner.length r0a, .slice r0B (pressG l0).arena.next.length r0b, .slice r0C (pressG l0).prio.length r0c] 32)
    have hXr0 := Arr.new w3 32 [.slice r0A (pressG l0).arena.owner.length r0a, .slice r0B (pressG l0).arena.next.length r0b, .slice r0C (pressG l0).prio.length r0c]
    generalize w3.alloc (.cells #[.slice r0A (pressG l0).arena.owner.length r0a, .slice r0B (pressG l0).arena.next.length r0b, .slice r0C (pressG l0).prio.length r0c] 32) = w4 at *
    clear hB0c0 hB0c1 hB0c2 hB0z
    replace hB0 := hB0.below hb4 hB0.lt
    replace hr0 := hr0.below hb4
    replace hbw := Below.up hbw hb4
    have hb4s := hb4.size
    have hB0z := hB0.lt
    have hB0c0 := hB0.c0
    have hB0c1 := hB0.c1
    have hB0c2 := hB0.c2
    clear hb4
    have hXr0l := hXr0.lt
    have hXr0c0 := hXr0.c0
    have hXr0c1 := hXr0.c1
    have hXr0c2 := hXr0.c2
    have hXr0z := hXr0.lt
    refine (toParity_B _ l0 _ (hl0.kept (Kept.of hbw)) (by omega)).mono ?_
    rintro e w5 ⟨x0, rfl, hx0, hb5⟩
    clear hB0c0 hB0c1 hB0c2 hXr0c0 hXr0c1 hXr0c2 hB0z hXr0z
    replace hB0 := hB0.below hb5 hB0.lt
    replace hXr0 := hXr0.below hb5 hXr0.lt
    replace hr0 := hr0.below hb5
    replace hbw := Below.up hbw hb5
    have hb5s := hb5.size
    have hB0z := hB0.lt
    have hB0c0 := hB0.c0
    have hB0c1 := hB0.c1
    have hB0c2 := hB0.c2
    have hXr0z := hXr0.lt
    have hXr0c0 := hXr0.c0
    have hXr0c1 := hXr0.c1
    have hXr0c2 := hXr0.c2
    clear hb5
    obtain ⟨x0A, x0a, x0B, x0b, x0C, x0c, he⟩ := hx0.form
    subst he
    go_wp2_with fail
    have hb6 := (Below.refl _ w5).alloc (Nat.le_refl _) (.cells #[.slice x0A l0.arena.owner.length x0a, .slice x0B l0.arena.next.length x0b, .slice x0C l0.prio.length x0c] 32)
    have hXx0 := Arr.new w5 32 [.slice x0A l0.arena.owner.length x0a, .slice x0B l0.arena.next.length x0b, .slice x0C l0.prio.length x0c]
    generalize w5.alloc (.cells #[.slice x0A l0.arena.owner.length x0a, .slice x0B l0.arena.next.length x0b, .slice x0C l0.prio.length x0c] 32) = w6 at *
    clear hB0c0 hB0c1 hB0c2 hXr0c0 hXr0c1 hXr0c2 hB0z hXr0z
    replace hB0 := hB0.below hb6 hB0.lt
    replace hXr0 := hXr0.below hb6 hXr0.lt
    replace hr0 := hr0.below hb6
    replace hx0 := hx0.below hb6
    replace hbw := Below.up hbw hb6
    have hb6s := hb6.size
    have hB0z := hB0.lt
    have hB0c0 := hB0.c0
    have hB0c1 := hB0.c1
    have hB0c2 := hB0.c2
    have hXr0z := hXr0.lt
    have hXr0c0 := hXr0.c0
    have hXr0c1 := hXr0.c1
    have hXr0c2 := hXr0.c2
    clear hb6
    have hXx0l := hXx0.lt
    have hXx0c0 := hXx0.c0
    have hXx0c1 := hXx0.c1
    have hXx0c2 := hXx0.c2
    have hXx0z := hXx0.lt
    refine (Pressed_any _ l0 _ hx0.parity).mono ?_
    rintro e w7 ⟨y0, rfl, hy0, hb7⟩
    clear hB0c0 hB0c1 hB0c2 hXr0c0 hXr0c1 hXr0c2 hXx0c0 hXx0c1 hXx0c2 hB0z hXr0z hXx0z
    replace hB0 := hB0.below hb7 hB0.lt
    replace hXr0 := hXr0.below hb7 hXr0.lt
    replace hXx0 := hXx0.below hb7 hXx0.lt
    replace hr0 := hr0.below hb7
    replace hx0 := hx0.below hb7
    replace hbw := Below.up hbw hb7
    have hb7s := hb7.size
    have hB0z := hB0.lt
    have hB0c0 := hB0.c0
    have hB0c1 := hB0.c1
    have hB0c2 := hB0.c2
    have hXr0z := hXr0.lt
    have hXr0c0 := hXr0.c0
    have hXr0c1 := hXr0.c1
    have hXr0c2 := hXr0.c2
    have hXx0z := hXx0.lt
    have hXx0c0 := hXx0.c0
    have hXx0c1 := hXx0.c1
    have hXx0c2 := hXx0.c2
    clear hb7
    obtain ⟨y0A, y0a, y0B, y0b, y0C, y0c, he⟩ := hy0.form
    subst he
    go_wp2_with fail
    have hb8 := (Below.refl _ w7).alloc (Nat.le_refl _) (.cells #[.slice y0A (pressG l0).arena.owner.length y0a, .slice y0B (pressG l0).arena.next.length y0b, .slice y0C (pressG l0).prio.length y0c] 32)
    have hXy0 := Arr.new w7 32 [.slice y0A (pressG l0).arena.owner.length y0a, .slice y0B (pressG l0).arena.next.length y0b, .slice y0C (pressG l0).prio.length y0c]
    generalize w7.alloc (.cells #[.slice y0A (pressG l0).arena.owner.length y0a, .slice y0B (pressG l0).arena.next.length y0b, .slice y0C (pressG l0).prio.length y0c] 32) = w8 at *
    clear hB0c0 hB0c1 hB0c2 hXr0c0 hXr0c1 hXr0c2 hXx0c0 hXx0c1 hXx0c2 hB0z hXr0z hXx0z
    replace hB0 := hB0.below hb8 hB0.lt
    replace hXr0 := hXr0.below hb8 hXr0.lt
    replace hXx0 := hXx0.below hb8 hXx0.lt
    replace hr0 := hr0.below hb8
    replace hx0 := hx0.below hb8
    replace hy0 := hy0.below hb8
    replace hbw := Below.up hbw hb8
    have hb8s := hb8.size
    have hB0z := hB0.lt
    have hB0c0 := hB0.c0
    have hB0c1 := hB0.c1
    have hB0c2 := hB0.c2
    have hXr0z := hXr0.lt
    have hXr0c0 := hXr0.c0
    have hXr0c1 := hXr0.c1
    have hXr0c2 := hXr0.c2
    have hXx0z := hXx0.lt
    have hXx0c0 := hXx0.c0
    have hXx0c1 := hXx0.c1
    have hXx0c2 := hXx0.c2
    clear hb8
    have hXy0l := hXy0.lt
    have hXy0c0 := hXy0.c0
    have hXy0c1 := hXy0.c1
    have hXy0c2 := hXy0.c2
    have hXy0z := hXy0.lt
    refine (eqParity_B _ _ (pressG l0) (pressG l0) _ hy0.parity hr0.parity).mono ?_
    rintro e w9 ⟨rfl, hb9⟩
    clear hB0c0 hB0c1 hB0c2 hXr0c0 hXr0c1 hXr0c2 hXx0c0 hXx0c1 hXx0c2 hXy0c0 hXy0c1 hXy0c2 hB0z hXr0z hXx0z hXy0z
    replace hB0 := hB0.below hb9 hB0.lt
    replace hXr0 := hXr0.below hb9 hXr0.lt
    replace hXx0 := hXx0.below hb9 hXx0.lt
    replace hXy0 := hXy0.below hb9 hXy0.lt
    replace hr0 := hr0.below hb9
    replace hx0 := hx0.below hb9
    replace hy0 := hy0.below hb9
    replace hbw := Below.up hbw hb9
    have hb9s := hb9.size
    have hB0z := hB0.lt
    have hB0c0 := hB0.c0
    have hB0c1 := hB0.c1
    have hB0c2 := hB0.c2
    have hXr0z := hXr0.lt
    have hXr0c0 := hXr0.c0
    have hXr0c1 := hXr0.c1
    have hXr0c2 := hXr0.c2
    have hXx0z := hXx0.lt
    have hXx0c0 := hXx0.c0
    have hXx0c1 := hXx0.c1
    have hXx0c2 := hXx0.c2
    have hXy0z := hXy0.lt
    have hXy0c0 := hXy0.c0
    have hXy0c1 := hXy0.c1
    have hXy0c2 := hXy0.c2
    clear hb9
    go_wp2_with fail
    go_region_held3 (fun W => W.cell? ⟨w.heap.size, 0, none⟩ = some p0x0 ∧ W.cell? ⟨w.heap.size, 1, none⟩ = some p0x1 ∧ W.cell? ⟨w.heap.size, 2, none⟩ = some p0x2 ∧ W.cell? ⟨w5.heap.size, 0, none⟩ = some (.slice x0A l0.arena.owner.length x0a) ∧ W.cell? ⟨w5.heap.size, 1, none⟩ = some (.slice x0B l0.arena.next.length x0b) ∧ W.cell? ⟨w5.heap.size, 2, none⟩ = some (.slice x0C l0.prio.length x0c))
      (first | exact ⟨(hB0).c0, (hB0).c1, (hB0).c2, (hXx0).c0, (hXx0).c1, (hXx0).c2⟩ | exact ⟨(hB0.below hb10 hB0.lt).c0, (hB0.below hb10 hB0.lt).c1, (hB0.below hb10 hB0.lt).c2, (hXx0.below hb10 hXx0.lt).c0, (hXx0.below hb10 hXx0.lt).c1, (hXx0.below hb10 hXx0.lt).c2⟩ | exact ⟨((hB0.below hb10 hB0.lt).below hb11 (hB0.below hb10 hB0.lt).lt).c0, ((hB0.below hb10 hB0.lt).below hb11 (hB0.below hb10 hB0.lt).lt).c1, ((hB0.below hb10 hB0.lt).below hb11 (hB0.below hb10 hB0.lt).lt).c2, ((hXx0.below hb10 hXx0.lt).below hb11 (hXx0.below hb10 hXx0.lt).lt).c0, ((hXx0.below hb10 hXx0.lt).below hb11 (hXx0.below hb10 hXx0.lt).lt).c1, ((hXx0.below hb10 hXx0.lt).below hb11 (hXx0.below hb10 hXx0.lt).lt).c2⟩)
      (first | (go_at_call 17; refine (toParity_B _ l0 _ ((hl0.kept (Kept.of hbw)).kept (Kept.drew _)) (by omega)).mono ?_; rintro e w10 ⟨z0, rfl, hz0, hb10⟩; replace hb10 := below_of_drew hb10) | (go_at_call 21; refine (eqParity_B _ _ l0 l0 _ (hx0.below hb10).parity hz0.parity).mono ?_; rintro e w11 ⟨rfl, hb11⟩))
    clear hB0c0 hB0c1 hB0c2 hXr0c0 hXr0c1 hXr0c2 hXx0c0 hXx0c1 hXx0c2 hXy0c0 hXy0c1 hXy0c2 hB0z hXr0z hXx0z hXy0z
    replace hB0 := hB0.below hb10 hB0.lt
    replace hXr0 := hXr0.below hb10 hXr0.lt
    replace hXx0 := hXx0.below hb10 hXx0.lt
    replace hXy0 := hXy0.below hb10 hXy0.lt
    replace hr0 := hr0.below hb10
    replace hx0 := hx0.below hb10
    replace hy0 := hy0.below hb10
    replace hbw := Below.up hbw hb10
    have hb10s := hb10.size
    have hB0z := hB0.lt
    have hB0c0 := hB0.c0
    have hB0c1 := hB0.c1
    have hB0c2 := hB0.c2
    have hXr0z := hXr0.lt
    have hXr0c0 := hXr0.c0
    have hXr0c1 := hXr0.c1
    have hXr0c2 := hXr0.c2
    have hXx0z := hXx0.lt
    have hXx0c0 := hXx0.c0
    have hXx0c1 := hXx0.c1
    have hXx0c2 := hXx0.c2
    have hXy0z := hXy0.lt
    have hXy0c0 := hXy0.c0
    have hXy0c1 := hXy0.c1
    have hXy0c2 := hXy0.c2
    clear hB0c0 hB0c1 hB0c2 hXr0c0 hXr0c1 hXr0c2 hXx0c0 hXx0c1 hXx0c2 hXy0c0 hXy0c1 hXy0c2 hB0z hXr0z hXx0z hXy0z
    replace hB0 := hB0.below hb11 hB0.lt
    replace hXr0 := hXr0.below hb11 hXr0.lt
    replace hXx0 := hXx0.below hb11 hXx0.lt
    replace hXy0 := hXy0.below hb11 hXy0.lt
    replace hr0 := hr0.below hb11
    replace hx0 := hx0.below hb11
    replace hy0 := hy0.below hb11
    replace hbw := Below.up hbw hb11
    have hb11s := hb11.size
    have hB0z := hB0.lt
    have hB0c0 := hB0.c0
    have hB0c1 := hB0.c1
    have hB0c2 := hB0.c2
    have hXr0z := hXr0.lt
    have hXr0c0 := hXr0.c0
    have hXr0c1 := hXr0.c1
    have hXr0c2 := hXr0.c2
    have hXx0z := hXx0.lt
    have hXx0c0 := hXx0.c0
    have hXx0c1 := hXx0.c1
    have hXx0c2 := hXx0.c2
    have hXy0z := hXy0.lt
    have hXy0c0 := hXy0.c0
    have hXy0c1 := hXy0.c1
    have hXy0c2 := hXy0.c2
    clear hb10 hb11 hz0
    go_wp2_with fail
    refine (markParity_O _ (l0) _ _ _ _ hx0 (by omega) (by omega)).mono ?_
    rintro e w12 ⟨rfl, hmx0, hb12⟩
    have hb12s := hb12.size
    clear hB0c0 hB0c1 hB0c2 hXr0c0 hXr0c1 hXr0c2 hXx0c0 hXx0c1 hXx0c2 hXy0c0 hXy0c1 hXy0c2 hB0z hXr0z hXx0z hXy0z
    replace hB0 := hB0.only hb12 (by omega)
    replace hXr0 := hXr0.only hb12 (by omega)
    replace hXx0 := hXx0.only hb12 (by omega)
    replace hXy0 := hXy0.only hb12 (by omega)
    replace hr0 := hr0.kept hb12 (by omega)
    replace hy0 := hy0.kept hb12 (by omega)
    replace hbw := hb12.below hbw (by omega) (by omega)
    clear hx0 hb12
    have hB0z := hB0.lt
    have hB0c0 := hB0.c0
    have hB0c1 := hB0.c1
    have hB0c2 := hB0.c2
    have hXr0z := hXr0.lt
    have hXr0c0 := hXr0.c0
    have hXr0c1 := hXr0.c1
    have hXr0c2 := hXr0.c2
    have hXx0z := hXx0.lt
    have hXx0c0 := hXx0.c0
    have hXx0c1 := hXx0.c1
    have hXx0c2 := hXx0.c2
    have hXy0z := hXy0.lt
    have hXy0c0 := hXy0.c0
    have hXy0c1 := hXy0.c1
    have hXy0c2 := hXy0.c2
    clear hmx0
    go_wp2_with fail
    refine (eqParity_B _ _ (pressG l0) (pressG l0) _ hy0.parity hr0.parity).mono ?_
    rintro e w13 ⟨rfl, hb13⟩
    clear hB0c0 hB0c1 hB0c2 hXr0c0 hXr0c1 hXr0c2 hXx0c0 hXx0c1 hXx0c2 hXy0c0 hXy0c1 hXy0c2 hB0z hXr0z hXx0z hXy0z
    replace hB0 := hB0.below hb13 hB0.lt
    replace hXr0 := hXr0.below hb13 hXr0.lt
    replace hXx0 := hXx0.below hb13 hXx0.lt
    replace hXy0 := hXy0.below hb13 hXy0.lt
    replace hr0 := hr0.below hb13
    replace hy0 := hy0.below hb13
    replace hbw := Below.up hbw hb13
    have hb13s := hb13.size
    have hB0z := hB0.lt
    have hB0c0 := hB0.c0
    have hB0c1 := hB0.c1
    have hB0c2 := hB0.c2
    have hXr0z := hXr0.lt
    have hXr0c0 := hXr0.c0
    have hXr0c1 := hXr0.c1
    have hXr0c2 := hXr0.c2
    have hXx0z := hXx0.lt
    have hXx0c0 := hXx0.c0
    have hXx0c1 := hXx0.c1
    have hXx0c2 := hXx0.c2
    have hXy0z := hXy0.lt
    have hXy0c0 := hXy0.c0
    have hXy0c1 := hXy0.c1
    have hXy0c2 := hXy0.c2
    clear hb13
    go_wp2_with fail
    refine (markParity_O _ (pressG l0) _ _ _ _ hy0 (by omega) (by omega)).mono ?_
    rintro e w14 ⟨rfl, hmy0, hb14⟩
    have hb14s := hb14.size
    clear hB0c0 hB0c1 hB0c2 hXr0c0 hXr0c1 hXr0c2 hXx0c0 hXx0c1 hXx0c2 hXy0c0 hXy0c1 hXy0c2 hB0z hXr0z hXx0z hXy0z
    replace hB0 := hB0.only hb14 (by omega)
    replace hXr0 := hXr0.only hb14 (by omega)
    replace hXx0 := hXx0.only hb14 (by omega)
    replace hXy0 := hXy0.only hb14 (by omega)
    replace hr0 := hr0.kept hb14 (by omega)
    replace hbw := hb14.below hbw (by omega) (by omega)
    clear hy0 hb14
    have hB0z := hB0.lt
    have hB0c0 := hB0.c0
    have hB0c1 := hB0.c1
    have hB0c2 := hB0.c2
    have hXr0z := hXr0.lt
    have hXr0c0 := hXr0.c0
    have hXr0c1 := hXr0.c1
    have hXr0c2 := hXr0.c2
    have hXx0z := hXx0.lt
    have hXx0c0 := hXx0.c0
    have hXx0c1 := hXx0.c1
    have hXx0c2 := hXx0.c2
    have hXy0z := hXy0.lt
    have hXy0c0 := hXy0.c0
    have hXy0c1 := hXy0.c1
    have hXy0c2 := hXy0.c2
    go_wp2_with fail
    refine (heldParity_B _ (pressG l0) _ _ hmy0.parity (by omega) (by omega)).mono ?_
    rintro e w15 ⟨rfl, hb15⟩
    clear hB0c0 hB0c1 hB0c2 hXr0c0 hXr0c1 hXr0c2 hXx0c0 hXx0c1 hXx0c2 hXy0c0 hXy0c1 hXy0c2 hB0z hXr0z hXx0z hXy0z
    replace hB0 := hB0.below hb15 hB0.lt
    replace hXr0 := hXr0.below hb15 hXr0.lt
    replace hXx0 := hXx0.below hb15 hXx0.lt
    replace hXy0 := hXy0.below hb15 hXy0.lt
    replace hr0 := hr0.below hb15
    replace hmy0 := hmy0.below hb15
    replace hbw := Below.up hbw hb15
    have hb15s := hb15.size
    have hB0z := hB0.lt
    have hB0c0 := hB0.c0
    have hB0c1 := hB0.c1
    have hB0c2 := hB0.c2
    have hXr0z := hXr0.lt
    have hXr0c0 := hXr0.c0
    have hXr0c1 := hXr0.c1
    have hXr0c2 := hXr0.c2
    have hXx0z := hXx0.lt
    have hXx0c0 := hXx0.c0
    have hXx0c1 := hXx0.c1
    have hXx0c2 := hXx0.c2
    have hXy0z := hXy0.lt
    have hXy0c0 := hXy0.c0
    have hXy0c1 := hXy0.c1
    have hXy0c2 := hXy0.c2
    clear hb15
    go_wp2_with fail
    refine (toParity_B _ l0 _ (hl0.kept (Kept.of hbw)) (by omega)).mono ?_
    rintro e w16 ⟨s0, rfl, hs0, hb16⟩
    clear hB0c0 hB0c1 hB0c2 hXr0c0 hXr0c1 hXr0c2 hXx0c0 hXx0c1 hXx0c2 hXy0c0 hXy0c1 hXy0c2 hB0z hXr0z hXx0z hXy0z
    replace hB0 := hB0.below hb16 hB0.lt
    replace hXr0 := hXr0.below hb16 hXr0.lt
    replace hXx0 := hXx0.below hb16 hXx0.lt
    replace hXy0 := hXy0.below hb16 hXy0.lt
    replace hr0 := hr0.below hb16
    replace hmy0 := hmy0.below hb16
    replace hbw := Below.up hbw hb16
    have hb16s := hb16.size
    have hB0z := hB0.lt
    have hB0c0 := hB0.c0
    have hB0c1 := hB0.c1
    have hB0c2 := hB0.c2
    have hXr0z := hXr0.lt
    have hXr0c0 := hXr0.c0
    have hXr0c1 := hXr0.c1
    have hXr0c2 := hXr0.c2
    have hXx0z := hXx0.lt
    have hXx0c0 := hXx0.c0
    have hXx0c1 := hXx0.c1
    have hXx0c2 := hXx0.c2
    have hXy0z := hXy0.lt
    have hXy0c0 := hXy0.c0
    have hXy0c1 := hXy0.c1
    have hXy0c2 := hXy0.c2
    clear hb16
    go_wp2_with fail
    refine (Pressed_any s0 l0 _ hs0.parity).mono ?_
    rintro e w17 ⟨h0, rfl, hh0, hb17⟩
    clear hB0c0 hB0c1 hB0c2 hXr0c0 hXr0c1 hXr0c2 hXx0c0 hXx0c1 hXx0c2 hXy0c0 hXy0c1 hXy0c2 hB0z hXr0z hXx0z hXy0z
    replace hB0 := hB0.below hb17 hB0.lt
    replace hXr0 := hXr0.below hb17 hXr0.lt
    replace hXx0 := hXx0.below hb17 hXx0.lt
    replace hXy0 := hXy0.below hb17 hXy0.lt
    replace hr0 := hr0.below hb17
    replace hmy0 := hmy0.below hb17
    replace hs0 := hs0.below hb17
    replace hbw := Below.up hbw hb17
    have hb17s := hb17.size
    have hB0z := hB0.lt
    have hB0c0 := hB0.c0
    have hB0c1 := hB0.c1
    have hB0c2 := hB0.c2
    have hXr0z := hXr0.lt
    have hXr0c0 := hXr0.c0
    have hXr0c1 := hXr0.c1
    have hXr0c2 := hXr0.c2
    have hXx0z := hXx0.lt
    have hXx0c0 := hXx0.c0
    have hXx0c1 := hXx0.c1
    have hXx0c2 := hXx0.c2
    have hXy0z := hXy0.lt
    have hXy0c0 := hXy0.c0
    have hXy0c1 := hXy0.c1
    have hXy0c2 := hXy0.c2
    clear hb17
    clear hs0
    obtain ⟨h0A, h0a, h0B, h0b, h0C, h0c, he⟩ := hh0.form
    subst he
    go_wp2_with fail
    have hb18 := (Below.refl _ w17).alloc (Nat.le_refl _) (.cells #[.slice h0A (pressG l0).arena.owner.length h0a, .slice h0B (pressG l0).arena.next.length h0b, .slice h0C (pressG l0).prio.length h0c] 32)
    have hXh0 := Arr.new w17 32 [.slice h0A (pressG l0).arena.owner.length h0a, .slice h0B (pressG l0).arena.next.length h0b, .slice h0C (pressG l0).prio.length h0c]
    generalize w17.alloc (.cells #[.slice h0A (pressG l0).arena.owner.length h0a, .slice h0B (pressG l0).arena.next.length h0b, .slice h0C (pressG l0).prio.length h0c] 32) = w18 at *
    clear hB0c0 hB0c1 hB0c2 hXr0c0 hXr0c1 hXr0c2 hXx0c0 hXx0c1 hXx0c2 hXy0c0 hXy0c1 hXy0c2 hB0z hXr0z hXx0z hXy0z
    replace hB0 := hB0.below hb18 hB0.lt
    replace hXr0 := hXr0.below hb18 hXr0.lt
    replace hXx0 := hXx0.below hb18 hXx0.lt
    replace hXy0 := hXy0.below hb18 hXy0.lt
    replace hr0 := hr0.below hb18
    replace hmy0 := hmy0.below hb18
    replace hh0 := hh0.below hb18
    replace hbw := Below.up hbw hb18
    have hb18s := hb18.size
    have hB0z := hB0.lt
    have hB0c0 := hB0.c0
    have hB0c1 := hB0.c1
    have hB0c2 := hB0.c2
    have hXr0z := hXr0.lt
    have hXr0c0 := hXr0.c0
    have hXr0c1 := hXr0.c1
    have hXr0c2 := hXr0.c2
    have hXx0z := hXx0.lt
    have hXx0c0 := hXx0.c0
    have hXx0c1 := hXx0.c1
    have hXx0c2 := hXx0.c2
    have hXy0z := hXy0.lt
    have hXy0c0 := hXy0.c0
    have hXy0c1 := hXy0.c1
    have hXy0c2 := hXy0.c2
    clear hb18
    have hXh0l := hXh0.lt
    have hXh0c0 := hXh0.c0
    have hXh0c1 := hXh0.c1
    have hXh0c2 := hXh0.c2
    have hXh0z := hXh0.lt
    refine (eqParity_B _ _ (pressG l0) (pressG l0) _ hh0.parity hr0.parity).mono ?_
    rintro e w19 ⟨rfl, hb19⟩
    clear hB0c0 hB0c1 hB0c2 hXr0c0 hXr0c1 hXr0c2 hXx0c0 hXx0c1 hXx0c2 hXy0c0 hXy0c1 hXy0c2 hXh0c0 hXh0c1 hXh0c2 hB0z hXr0z hXx0z hXy0z hXh0z
    replace hB0 := hB0.below hb19 hB0.lt
    replace hXr0 := hXr0.below hb19 hXr0.lt
    replace hXx0 := hXx0.below hb19 hXx0.lt
    replace hXy0 := hXy0.below hb19 hXy0.lt
    replace hXh0 := hXh0.below hb19 hXh0.lt
    replace hr0 := hr0.below hb19
    replace hmy0 := hmy0.below hb19
    replace hh0 := hh0.below hb19
    replace hbw := Below.up hbw hb19
    have hb19s := hb19.size
    have hB0z := hB0.lt
    have hB0c0 := hB0.c0
    have hB0c1 := hB0.c1
    have hB0c2 := hB0.c2
    have hXr0z := hXr0.lt
    have hXr0c0 := hXr0.c0
    have hXr0c1 := hXr0.c1
    have hXr0c2 := hXr0.c2
    have hXx0z := hXx0.lt
    have hXx0c0 := hXx0.c0
    have hXx0c1 := hXx0.c1
    have hXx0c2 := hXx0.c2
    have hXy0z := hXy0.lt
    have hXy0c0 := hXy0.c0
    have hXy0c1 := hXy0.c1
    have hXy0c2 := hXy0.c2
    have hXh0z := hXh0.lt
    have hXh0c0 := hXh0.c0
    have hXh0c1 := hXh0.c1
    have hXh0c2 := hXh0.c2
    clear hb19
    go_wp2_with fail
    refine (heldParity_B _ (pressG l0) _ _ hmy0.parity (by omega) (by omega)).mono ?_
    rintro e w20 ⟨rfl, hb20⟩
    clear hB0c0 hB0c1 hB0c2 hXr0c0 hXr0c1 hXr0c2 hXx0c0 hXx0c1 hXx0c2 hXy0c0 hXy0c1 hXy0c2 hXh0c0 hXh0c1 hXh0c2 hB0z hXr0z hXx0z hXy0z hXh0z
    replace hB0 := hB0.below hb20 hB0.lt
    replace hXr0 := hXr0.below hb20 hXr0.lt
    replace hXx0 := hXx0.below hb20 hXx0.lt
    replace hXy0 := hXy0.below hb20 hXy0.lt
    replace hXh0 := hXh0.below hb20 hXh0.lt
    replace hr0 := hr0.below hb20
    replace hmy0 := hmy0.below hb20
    replace hh0 := hh0.below hb20
    replace hbw := Below.up hbw hb20
    have hb20s := hb20.size
    have hB0z := hB0.lt
    have hB0c0 := hB0.c0
    have hB0c1 := hB0.c1
    have hB0c2 := hB0.c2
    have hXr0z := hXr0.lt
    have hXr0c0 := hXr0.c0
    have hXr0c1 := hXr0.c1
    have hXr0c2 := hXr0.c2
    have hXx0z := hXx0.lt
    have hXx0c0 := hXx0.c0
    have hXx0c1 := hXx0.c1
    have hXx0c2 := hXx0.c2
    have hXy0z := hXy0.lt
    have hXy0c0 := hXy0.c0
    have hXy0c1 := hXy0.c1
    have hXy0c2 := hXy0.c2
    have hXh0z := hXh0.lt
    have hXh0c0 := hXh0.c0
    have hXh0c1 := hXh0.c1
    have hXh0c2 := hXh0.c2
    clear hb20
    go_wp2
    go_ret
    exact ⟨rfl, hbw⟩
  · have hz0 : szLeft (bulkP l0) (1048576) = -1 := szLeft_neg g0
    go_enter Try.func9, Try.ntmps9
    have hB0z := hB0.lt
    have hB0c0 := hB0.c0
    have hB0c1 := hB0.c1
    have hB0c2 := hB0.c2
    go_wp2_with fail
    refine (szParity_any _ l0 (1048576) _ (hl0.kept (Kept.of hbw)) (by omega) (by omega)).mono ?_
    rintro e w1 ⟨rfl, hb1⟩
    clear hB0c0 hB0c1 hB0c2 hB0z
    replace hB0 := hB0.below hb1 hB0.lt
    replace hbw := Below.up hbw hb1
    have hb1s := hb1.size
    have hB0z := hB0.lt
    have hB0c0 := hB0.c0
    have hB0c1 := hB0.c1
    have hB0c2 := hB0.c2
    clear hb1
    go_wp2
    go_ret
    exact ⟨rfl, hbw⟩

end Go.Proofs.Ytpnophmanpfejaa
