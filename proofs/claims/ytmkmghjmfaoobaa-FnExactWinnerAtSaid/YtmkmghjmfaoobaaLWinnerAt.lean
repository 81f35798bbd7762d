/- The walk of the law on WinnerAt: it returns true and writes nothing that was there. Printed by gen_laws2.py. -/
import Derived.Test.YtmkmghjmfaoobaaWonExact
import Derived.Test.YtmkmghjmfaoobaaPkB
import Derived.Deep.RegionHeld3
namespace Go.Proofs.Ytmkmghjmfaoobaa
set_option linter.unusedSimpArgs false
set_option linter.unusedVariables false
open Go.RowKit

set_option maxRecDepth 100000 in
set_option maxHeartbeats 2000000 in
theorem FnExactWinnerAt_true (v0 : Value) (l0 : ParityD) (a1 : Int) (w : World) (hl0 : IsParity w v0 l0) (ha1 : -9223372036854775808 ≤ a1 ∧ a1 ≤ 9223372036854775807) :
    Calls Try.prog 3 #[v0, .int .i64 a1] w fun e w' => e = .returned (.bool true) ∧ Below w.heap.size w w' := by
  obtain ⟨p0x0, p0x1, p0x2, he0⟩ := hl0.open
  subst he0
  have hB0 := Arr.new w 27 [p0x0, p0x1, p0x2]
  have hbw : Below w.heap.size w (w.alloc (.cells #[p0x0, p0x1, p0x2] 27)) := ((Below.refl _ _).alloc (Nat.le_refl _) (.cells #[p0x0, p0x1, p0x2] 27))
  have hBl0 := hB0.lt
  by_cases g0 : (bulkP l0 : Int) ≤ 1048576
  · skip
    have hz0 : szLeft (bulkP l0) (1048576) = 1048576 - bulkP l0 := szLeft_pos g0
    have hp0 : ¬ 1048576 - (bulkP l0 : Int) < 0 := by omega
    go_enter Try.func3, Try.ntmps3
    have hB0z := hB0.lt
    have hB0c0 := hB0.c0
    have hB0c1 := hB0.c1
    have hB0c2 := hB0.c2
    go_wp2_with fail
    refine (szParity_any _ l0 (1048576) _ (hl0.kept (Kept.of hbw)) (by omega) (by omega)).mono ?_
    rintro e w1 ⟨rfl, hb1⟩
    clear hB0c0 hB0c1 hB0c2 hB0z
    replace hB0 := hB0.below hb1 hB0.lt
    replace hbw := Below.up hbw hb1
    have hb1s := hb1.size
    have hB0z := hB0.lt
    have hB0c0 := hB0.c0
    have hB0c1 := hB0.c1
    have hB0c2 := hB0.c2
    clear hb1
    go_wp2_with fail
    refine (toParity_B _ l0 _ (hl0.kept (Kept.of hbw)) (by omega)).mono ?_
    rintro e w2 ⟨t0, rfl, ht0, hb2⟩
    clear hB0c0 hB0c1 hB0c2 hB0z
    replace hB0 := hB0.below hb2 hB0.lt
    replace hbw := Below.up hbw hb2
    have hb2s := hb2.size
    have hB0z := hB0.lt
    have hB0c0 := hB0.c0
    have hB0c1 := hB0.c1
    have hB0c2 := hB0.c2
    clear hb2
    clear hz0 hp0
    go_wp2_with fail
    refine (specWinnerAt_any t0 l0 a1 _ ht0.parity).mono ?_
    rintro e w3 ⟨rfl, hb3⟩
    clear hB0c0 hB0c1 hB0c2 hB0z
    replace hB0 := hB0.below hb3 hB0.lt
    replace ht0 := ht0.below hb3
    replace hbw := Below.up hbw hb3
    have hb3s := hb3.size
    have hB0z := hB0.lt
    have hB0c0 := hB0.c0
    have hB0c1 := hB0.c1
    have hB0c2 := hB0.c2
    clear hb3
    clear ht0
    go_wp2_with fail
    refine (toParity_B _ l0 _ (hl0.kept (Kept.of hbw)) (by omega)).mono ?_
    rintro e w4 ⟨x0, rfl, hx0, hb4⟩
    clear hB0c0 hB0c1 hB0c2 hB0z
    replace hB0 := hB0.below hb4 hB0.lt
    replace hbw := Below.up hbw hb4
    have hb4s := hb4.size
    have hB0z := hB0.lt
    have hB0c0 := hB0.c0
    have hB0c1 := hB0.c1
    have hB0c2 := hB0.c2
    clear hb4
    obtain ⟨x0A, x0a, x0B, x0b, x0C, x0c, he⟩ := hx0.form
    subst he
    go_wp2_with fail
    have hb5 := (Below.refl _ w4).alloc (Nat.le_refl _) (.cells #[.slice x0A l0.arena.owner.length x0a, .slice x0B l0.arena.next.length x0b, .slice x0C l0.prio.length x0c] 32)
    have hXx0 := Arr.new w4 32 [.slice x0A l0.arena.owner.length x0a, .slice x0B l0.arena.next.length x0b, .slice x0C l0.prio.length x0c]
    generalize w4.alloc (.cells #[.slice x0A l0.arena.owner.length x0a, .slice x0B l0.arena.next.length x0b, .slice x0C l0.prio.length x0c] 32) = w5 at *
    clear hB0c0 hB0c1 hB0c2 hB0z
    replace hB0 := hB0.below hb5 hB0.lt
    replace hx0 := hx0.below hb5
    replace hbw := Below.up hbw hb5
    have hb5s := hb5.size
    have hB0z := hB0.lt
    have hB0c0 := hB0.c0
    have hB0c1 := hB0.c1
    have hB0c2 := hB0.c2
    clear hb5
    have hXx0l := hXx0.lt
    have hXx0c0 := hXx0.c0
    have hXx0c1 := hXx0.c1
    have hXx0c2 := hXx0.c2
    have hXx0z := hXx0.lt
    refine (WinnerAt_any _ l0 a1 _ hx0.parity).mono ?_
    rintro e w6 ⟨rfl, hb6⟩
    clear hB0c0 hB0c1 hB0c2 hXx0c0 hXx0c1 hXx0c2 hB0z hXx0z
    replace hB0 := hB0.below hb6 hB0.lt
    replace hXx0 := hXx0.below hb6 hXx0.lt
    replace hx0 := hx0.below hb6
    replace hbw := Below.up hbw hb6
    have hb6s := hb6.size
    have hB0z := hB0.lt
    have hB0c0 := hB0.c0
    have hB0c1 := hB0.c1
    have hB0c2 := hB0.c2
    have hXx0z := hXx0.lt
    have hXx0c0 := hXx0.c0
    have hXx0c1 := hXx0.c1
    have hXx0c2 := hXx0.c2
    clear hb6
    go_wp2_with fail
    go_region_held3 (fun W => W.cell? ⟨w.heap.size, 0, none⟩ = some p0x0 ∧ W.cell? ⟨w.heap.size, 1, none⟩ = some p0x1 ∧ W.cell? ⟨w.heap.size, 2, none⟩ = some p0x2 ∧ W.cell? ⟨w4.heap.size, 0, none⟩ = some (.slice x0A l0.arena.owner.length x0a) ∧ W.cell? ⟨w4.heap.size, 1, none⟩ = some (.slice x0B l0.arena.next.length x0b) ∧ W.cell? ⟨w4.heap.size, 2, none⟩ = some (.slice x0C l0.prio.length x0c))
      (first | exact ⟨(hB0).c0, (hB0).c1, (hB0).c2, (hXx0).c0, (hXx0).c1, (hXx0).c2⟩ | exact ⟨(hB0.below hb7 hB0.lt).c0, (hB0.below hb7 hB0.lt).c1, (hB0.below hb7 hB0.lt).c2, (hXx0.below hb7 hXx0.lt).c0, (hXx0.below hb7 hXx0.lt).c1, (hXx0.below hb7 hXx0.lt).c2⟩ | exact ⟨((hB0.below hb7 hB0.lt).below hb8 (hB0.below hb7 hB0.lt).lt).c0, ((hB0.below hb7 hB0.lt).below hb8 (hB0.below hb7 hB0.lt).lt).c1, ((hB0.below hb7 hB0.lt).below hb8 (hB0.below hb7 hB0.lt).lt).c2, ((hXx0.below hb7 hXx0.lt).below hb8 (hXx0.below hb7 hXx0.lt).lt).c0, ((hXx0.below hb7 hXx0.lt).below hb8 (hXx0.below hb7 hXx0.lt).lt).c1, ((hXx0.below hb7 hXx0.lt).below hb8 (hXx0.below hb7 hXx0.lt).lt).c2⟩)
      (first | (go_at_call 12; refine (toParity_B _ l0 _ ((hl0.kept (Kept.of hbw)).kept (Kept.drew _)) (by omega)).mono ?_; rintro e w7 ⟨z0, rfl, hz0, hb7⟩; replace hb7 := below_of_drew hb7) | (go_at_call 14; refine (eqParity_B _ _ l0 l0 _ (hx0.below hb7).parity hz0.parity).mono ?_; rintro e w8 ⟨rfl, hb8⟩))
    clear hB0c0 hB0c1 hB0c2 hXx0c0 hXx0c1 hXx0c2 hB0z hXx0z
    replace hB0 := hB0.below hb7 hB0.lt
    replace hXx0 := hXx0.below hb7 hXx0.lt
    replace hx0 := hx0.below hb7
    replace hbw := Below.up hbw hb7
    have hb7s := hb7.size
    have hB0z := hB0.lt
    have hB0c0 := hB0.c0
    have hB0c1 := hB0.c1
    have hB0c2 := hB0.c2
    have hXx0z := hXx0.lt
    have hXx0c0 := hXx0.c0
    have hXx0c1 := hXx0.c1
    have hXx0c2 := hXx0.c2
    clear hB0c0 hB0c1 hB0c2 hXx0c0 hXx0c1 hXx0c2 hB0z hXx0z
    replace hB0 := hB0.below hb8 hB0.lt
    replace hXx0 := hXx0.below hb8 hXx0.lt
    replace hx0 := hx0.below hb8
    replace hbw := Below.up hbw hb8
    have hb8s := hb8.size
    have hB0z := hB0.lt
    have hB0c0 := hB0.c0
    have hB0c1 := hB0.c1
    have hB0c2 := hB0.c2
    have hXx0z := hXx0.lt
    have hXx0c0 := hXx0.c0
    have hXx0c1 := hXx0.c1
    have hXx0c2 := hXx0.c2
    clear hb7 hb8 hz0
    go_wp2
    go_ret
    exact ⟨rfl, hbw⟩
  · have hz0 : szLeft (bulkP l0) (1048576) = -1 := szLeft_neg g0
    go_enter Try.func3, Try.ntmps3
    have hB0z := hB0.lt
    have hB0c0 := hB0.c0
    have hB0c1 := hB0.c1
    have hB0c2 := hB0.c2
    go_wp2_with fail
    refine (szParity_any _ l0 (1048576) _ (hl0.kept (Kept.of hbw)) (by omega) (by omega)).mono ?_
    rintro e w1 ⟨rfl, hb1⟩
    clear hB0c0 hB0c1 hB0c2 hB0z
    replace hB0 := hB0.below hb1 hB0.lt
    replace hbw := Below.up hbw hb1
    have hb1s := hb1.size
    have hB0z := hB0.lt
    have hB0c0 := hB0.c0
    have hB0c1 := hB0.c1
    have hB0c2 := hB0.c2
    clear hb1
    go_wp2
    go_ret
    exact ⟨rfl, hbw⟩

end Go.Proofs.Ytmkmghjmfaoobaa
