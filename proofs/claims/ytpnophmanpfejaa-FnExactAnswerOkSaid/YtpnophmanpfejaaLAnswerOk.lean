/- The walk of the law on AnswerOk: it returns true and writes nothing that was there. Printed by gen_laws2.py. -/
import Derived.Test.YtpnophmanpfejaaAnswerOk2
import Derived.Test.YtpnophmanpfejaaLawBox
import Derived.Deep.RegionHeld3
namespace Go.Proofs.Ytpnophmanpfejaa
set_option linter.unusedSimpArgs false
set_option linter.unusedVariables false
open Go.RowKit

set_option maxRecDepth 100000 in
set_option maxHeartbeats 2000000 in
theorem FnExactAnswerOk_true (v0 : Value) (l0 : ParityD) (v1 : Value) (l1 : TwoD) (w : World) (hl0 : IsParity w v0 l0) (hl1 : IsTwo w v1 l1) :
    Calls Try.prog 8 #[v0, v1] w fun e w' => e = .returned (.bool true) ∧ Below w.heap.size w w' := by
  obtain ⟨p0x0, p0x1, p0x2, he0⟩ := hl0.open
  subst he0
  obtain ⟨p1x0, p1x1, he1⟩ := hl1.open
  subst he1
  have hB0 := Arr.new w 27 [p0x0, p0x1, p0x2]
  replace hB0 := hB0.alloc (.cells #[p1x0, p1x1] 47)
  have hB1 : Arr ((w.alloc (.cells #[p0x0, p0x1, p0x2] 27)).alloc (.cells #[p1x0, p1x1] 47)) (w.heap.size + 1) 47 [p1x0, p1x1] := by simpa using Arr.new ((w.alloc (.cells #[p0x0, p0x1, p0x2] 27))) 47 [p1x0, p1x1]
  have hbw : Below w.heap.size w ((w.alloc (.cells #[p0x0, p0x1, p0x2] 27)).alloc (.cells #[p1x0, p1x1] 47)) := (((Below.refl _ _).alloc (Nat.le_refl _) (.cells #[p0x0, p0x1, p0x2] 27)).alloc (by simp) (.cells #[p1x0, p1x1] 47))
  have hBl0 := hB0.lt
  have hBl1 := hB1.lt
  by_cases g0 : (bulkP l0 : Int) ≤ 1048576
  · skip
    have hz0 : szLeft (bulkP l0) (1048576) = 1048576 - bulkP l0 := szLeft_pos g0
    have hp0 : ¬ 1048576 - (bulkP l0 : Int) < 0 := by omega
    by_cases g1 : (sizeT l1 : Int) ≤ 1048576 - (bulkP l0 : Int)
    · skip
      have hz1 : szLeft (sizeT l1) (1048576 - (bulkP l0 : Int)) = 1048576 - (bulkP l0 : Int) - sizeT l1 := szLeft_pos g1
      have hp1 : ¬ 1048576 - (bulkP l0 : Int) - (sizeT l1 : Int) < 0 := by omega
      go_enter Try.func8, Try.ntmps8
      have hB0z := hB0.lt
      have hB0c0 := hB0.c0
      have hB0c1 := hB0.c1
      have hB0c2 := hB0.c2
      have hB1z := hB1.lt
      have hB1c0 := hB1.c0
      have hB1c1 := hB1.c1
      go_wp2_with fail
      refine (szParity_any _ l0 (1048576) _ (hl0.kept (Kept.of hbw)) (by omega) (by omega)).mono ?_
      rintro e w1 ⟨rfl, hb1⟩
      clear hB0c0 hB0c1 hB0c2 hB1c0 hB1c1 hB0z hB1z
      replace hB0 := hB0.below hb1 hB0.lt
      replace hB1 := hB1.below hb1 hB1.lt
      replace hbw := Below.up hbw hb1
      have hb1s := hb1.size
      have hB0z := hB0.lt
      have hB0c0 := hB0.c0
      have hB0c1 := hB0.c1
      have hB0c2 := hB0.c2
      have hB1z := hB1.lt
      have hB1c0 := hB1.c0
      have hB1c1 := hB1.c1
      clear hb1
      go_wp2_with fail
      refine (szAnswer_any _ l1 (1048576 - (bulkP l0 : Int)) _ (hl1.kept (Kept.of hbw)) (by omega) (by omega)).mono ?_
      rintro e w2 ⟨rfl, hb2⟩
      clear hB0c0 hB0c1 hB0c2 hB1c0 hB1c1 hB0z hB1z
      replace hB0 := hB0.below hb2 hB0.lt
      replace hB1 := hB1.below hb2 hB1.lt
      replace hbw := Below.up hbw hb2
      have hb2s := hb2.size
      have hB0z := hB0.lt
      have hB0c0 := hB0.c0
      have hB0c1 := hB0.c1
      have hB0c2 := hB0.c2
      have hB1z := hB1.lt
      have hB1c0 := hB1.c0
      have hB1c1 := hB1.c1
      clear hb2
      go_wp2_with fail
      clear hz0 hp0 hz1 hp1
      go_region_held3 (fun W => W.cell? ⟨w.heap.size, 0, none⟩ = some p0x0 ∧ W.cell? ⟨w.heap.size, 1, none⟩ = some p0x1 ∧ W.cell? ⟨w.heap.size, 2, none⟩ = some p0x2 ∧ W.cell? ⟨w.heap.size + 1, 0, none⟩ = some p1x0 ∧ W.cell? ⟨w.heap.size + 1, 1, none⟩ = some p1x1) (first | exact ⟨hB0.c0, hB0.c1, hB0.c2, hB1.c0, hB1.c1⟩ | exact ⟨(hB0.below hb3 hB0.lt).c0, (hB0.below hb3 hB0.lt).c1, (hB0.below hb3 hB0.lt).c2, (hB1.below hb3 hB1.lt).c0, (hB1.below hb3 hB1.lt).c1⟩ | exact ⟨((hB0.below hb3 hB0.lt).below hb4 (hB0.below hb3 hB0.lt).lt).c0, ((hB0.below hb3 hB0.lt).below hb4 (hB0.below hb3 hB0.lt).lt).c1, ((hB0.below hb3 hB0.lt).below hb4 (hB0.below hb3 hB0.lt).lt).c2, ((hB1.below hb3 hB1.lt).below hb4 (hB1.below hb3 hB1.lt).lt).c0, ((hB1.below hb3 hB1.lt).below hb4 (hB1.below hb3 hB1.lt).lt).c1⟩ | exact ⟨(((hB0.below hb3 hB0.lt).below hb4 (hB0.below hb3 hB0.lt).lt).below hb5 ((hB0.below hb3 hB0.lt).below hb4 (hB0.below hb3 hB0.lt).lt).lt).c0, (((hB0.below hb3 hB0.lt).below hb4 (hB0.below hb3 hB0.lt).lt).below hb5 ((hB0.below hb3 hB0.lt).below hb4 (hB0.below hb3 hB0.lt).lt).lt).c1, (((hB0.below hb3 hB0.lt).below hb4 (hB0.below hb3 hB0.lt).lt).below hb5 ((hB0.below hb3 hB0.lt).below hb4 (hB0.below hb3 hB0.lt).lt).lt).c2, (((hB1.below hb3 hB1.lt).below hb4 (hB1.below hb3 hB1.lt).lt).below hb5 ((hB1.below hb3 hB1.lt).below hb4 (hB1.below hb3 hB1.lt).lt).lt).c0, (((hB1.below hb3 hB1.lt).below hb4 (hB1.below hb3 hB1.lt).lt).below hb5 ((hB1.below hb3 hB1.lt).below hb4 (hB1.below hb3 hB1.lt).lt).lt).c1⟩) (first | (go_at_call_of 17 (Value.agg #[p0x0, p0x1, p0x2]); refine (toParity_B _ l0 _ ((hl0.kept (Kept.of hbw)).kept (Kept.drew _)) (by omega)).mono ?_; rintro e w3 ⟨t0, rfl, ht0, hb3⟩; replace hb3 := below_of_drew hb3) | (go_at_call_of 36 (Value.agg #[p1x0, p1x1]); refine (toAnswer_B _ l1 _ (hl1.kept (Kept.of (Below.up hbw hb3))) (by omega)).mono ?_; rintro e w4 ⟨t1, rfl, ht1, hb4⟩) | (go_at_call 35; refine (specAnswerOk_any t0 l0 t1 l1 _ (ht0.below hb4).parity ht1.two).mono ?_; rintro e w5 ⟨rfl, hb5⟩))
      clear hB0c0 hB0c1 hB0c2 hB1c0 hB1c1 hB0z hB1z
      replace hB0 := hB0.below hb3 hB0.lt
      replace hB1 := hB1.below hb3 hB1.lt
      replace hbw := Below.up hbw hb3
      have hb3s := hb3.size
      have hB0z := hB0.lt
      have hB0c0 := hB0.c0
      have hB0c1 := hB0.c1
      have hB0c2 := hB0.c2
      have hB1z := hB1.lt
      have hB1c0 := hB1.c0
      have hB1c1 := hB1.c1
      clear hB0c0 hB0c1 hB0c2 hB1c0 hB1c1 hB0z hB1z
      replace hB0 := hB0.below hb4 hB0.lt
      replace hB1 := hB1.below hb4 hB1.lt
      replace hbw := Below.up hbw hb4
      have hb4s := hb4.size
      have hB0z := hB0.lt
      have hB0c0 := hB0.c0
      have hB0c1 := hB0.c1
      have hB0c2 := hB0.c2
      have hB1z := hB1.lt
      have hB1c0 := hB1.c0
      have hB1c1 := hB1.c1
      clear hB0c0 hB0c1 hB0c2 hB1c0 hB1c1 hB0z hB1z
      replace hB0 := hB0.below hb5 hB0.lt
      replace hB1 := hB1.below hb5 hB1.lt
      replace hbw := Below.up hbw hb5
      have hb5s := hb5.size
      have hB0z := hB0.lt
      have hB0c0 := hB0.c0
      have hB0c1 := hB0.c1
      have hB0c2 := hB0.c2
      have hB1z := hB1.lt
      have hB1c0 := hB1.c0
      have hB1c1 := hB1.c1
      clear hb3 hb4 hb5 ht0 ht1
      go_wp2_with fail
      refine (toParity_B _ l0 _ (hl0.kept (Kept.of hbw)) (by omega)).mono ?_
      rintro e w6 ⟨x0, rfl, hx0, hb6⟩
      clear hB0c0 hB0c1 hB0c2 hB1c0 hB1c1 hB0z hB1z
      replace hB0 := hB0.below hb6 hB0.lt
      replace hB1 := hB1.below hb6 hB1.lt
      replace hbw := Below.up hbw hb6
      have hb6s := hb6.size
      have hB0z := hB0.lt
      have hB0c0 := hB0.c0
      have hB0c1 := hB0.c1
      have hB0c2 := hB0.c2
      have hB1z := hB1.lt
      have hB1c0 := hB1.c0
      have hB1c1 := hB1.c1
      clear hb6
      obtain ⟨x0A, x0a, x0B, x0b, x0C, x0c, he⟩ := hx0.form
      subst he
      go_wp2_with fail
      have hb7 := (Below.refl _ w6).alloc (Nat.le_refl _) (.cells #[.slice x0A l0.arena.owner.length x0a, .slice x0B l0.arena.next.length x0b, .slice x0C l0.prio.length x0c] 32)
      have hXx0 := Arr.new w6 32 [.slice x0A l0.arena.owner.length x0a, .slice x0B l0.arena.next.length x0b, .slice x0C l0.prio.length x0c]
      generalize w6.alloc (.cells #[.slice x0A l0.arena.owner.length x0a, .slice x0B l0.arena.next.length x0b, .slice x0C l0.prio.length x0c] 32) = w7 at *
      clear hB0c0 hB0c1 hB0c2 hB1c0 hB1c1 hB0z hB1z
      replace hB0 := hB0.below hb7 hB0.lt
      replace hB1 := hB1.below hb7 hB1.lt
      replace hx0 := hx0.below hb7
      replace hbw := Below.up hbw hb7
      have hb7s := hb7.size
      have hB0z := hB0.lt
      have hB0c0 := hB0.c0
      have hB0c1 := hB0.c1
      have hB0c2 := hB0.c2
      have hB1z := hB1.lt
      have hB1c0 := hB1.c0
      have hB1c1 := hB1.c1
      clear hb7
      have hXx0l := hXx0.lt
      have hXx0c0 := hXx0.c0
      have hXx0c1 := hXx0.c1
      have hXx0c2 := hXx0.c2
      have hXx0z := hXx0.lt
      refine (toAnswer_B _ l1 _ (hl1.kept (Kept.of hbw)) (by omega)).mono ?_
      rintro e w8 ⟨x1, rfl, hx1, hb8⟩
      clear hB0c0 hB0c1 hB0c2 hB1c0 hB1c1 hXx0c0 hXx0c1 hXx0c2 hB0z hB1z hXx0z
      replace hB0 := hB0.below hb8 hB0.lt
      replace hB1 := hB1.below hb8 hB1.lt
      replace hXx0 := hXx0.below hb8 hXx0.lt
      replace hx0 := hx0.below hb8
      replace hbw := Below.up hbw hb8
      have hb8s := hb8.size
      have hB0z := hB0.lt
      have hB0c0 := hB0.c0
      have hB0c1 := hB0.c1
      have hB0c2 := hB0.c2
      have hB1z := hB1.lt
      have hB1c0 := hB1.c0
      have hB1c1 := hB1.c1
      have hXx0z := hXx0.lt
      have hXx0c0 := hXx0.c0
      have hXx0c1 := hXx0.c1
      have hXx0c2 := hXx0.c2
      clear hb8
      obtain ⟨x1A, x1a, x1B, x1b, he⟩ := hx1.form
      subst he
      go_wp2_with fail
      have hb9 := (Below.refl _ w8).alloc (Nat.le_refl _) (.cells #[.slice x1A l1.fst.length x1a, .slice x1B l1.snd.length x1b] 50)
      have hXx1 := Arr.new w8 50 [.slice x1A l1.fst.length x1a, .slice x1B l1.snd.length x1b]
      generalize w8.alloc (.cells #[.slice x1A l1.fst.length x1a, .slice x1B l1.snd.length x1b] 50) = w9 at *
      clear hB0c0 hB0c1 hB0c2 hB1c0 hB1c1 hXx0c0 hXx0c1 hXx0c2 hB0z hB1z hXx0z
      replace hB0 := hB0.below hb9 hB0.lt
      replace hB1 := hB1.below hb9 hB1.lt
      replace hXx0 := hXx0.below hb9 hXx0.lt
      replace hx0 := hx0.below hb9
      replace hx1 := hx1.below hb9
      replace hbw := Below.up hbw hb9
      have hb9s := hb9.size
      have hB0z := hB0.lt
      have hB0c0 := hB0.c0
      have hB0c1 := hB0.c1
      have hB0c2 := hB0.c2
      have hB1z := hB1.lt
      have hB1c0 := hB1.c0
      have hB1c1 := hB1.c1
      have hXx0z := hXx0.lt
      have hXx0c0 := hXx0.c0
      have hXx0c1 := hXx0.c1
      have hXx0c2 := hXx0.c2
      clear hb9
      have hXx1l := hXx1.lt
      have hXx1c0 := hXx1.c0
      have hXx1c1 := hXx1.c1
      have hXx1z := hXx1.lt
      refine (AnswerOk_any _ l0 _ l1 _ hx0.parity hx1.two).mono ?_
      rintro e w10 ⟨rfl, hb10⟩
      clear hB0c0 hB0c1 hB0c2 hB1c0 hB1c1 hXx0c0 hXx0c1 hXx0c2 hXx1c0 hXx1c1 hB0z hB1z hXx0z hXx1z
      replace hB0 := hB0.below hb10 hB0.lt
      replace hB1 := hB1.below hb10 hB1.lt
      replace hXx0 := hXx0.below hb10 hXx0.lt
      replace hXx1 := hXx1.below hb10 hXx1.lt
      replace hx0 := hx0.below hb10
      replace hx1 := hx1.below hb10
      replace hbw := Below.up hbw hb10
      have hb10s := hb10.size
      have hB0z := hB0.lt
      have hB0c0 := hB0.c0
      have hB0c1 := hB0.c1
      have hB0c2 := hB0.c2
      have hB1z := hB1.lt
      have hB1c0 := hB1.c0
      have hB1c1 := hB1.c1
      have hXx0z := hXx0.lt
      have hXx0c0 := hXx0.c0
      have hXx0c1 := hXx0.c1
      have hXx0c2 := hXx0.c2
      have hXx1z := hXx1.lt
      have hXx1c0 := hXx1.c0
      have hXx1c1 := hXx1.c1
      clear hb10
      go_wp2_with fail
      go_region_held3 (fun W => W.cell? ⟨w.heap.size, 0, none⟩ = some p0x0 ∧ W.cell? ⟨w.heap.size, 1, none⟩ = some p0x1 ∧ W.cell? ⟨w.heap.size, 2, none⟩ = some p0x2 ∧ W.cell? ⟨w6.heap.size, 0, none⟩ = some (.slice x0A l0.arena.owner.length x0a) ∧ W.cell? ⟨w6.heap.size, 1, none⟩ = some (.slice x0B l0.arena.next.length x0b) ∧ W.cell? ⟨w6.heap.size, 2, none⟩ = some (.slice x0C l0.prio.length x0c))
        (first | exact ⟨(hB0).c0, (hB0).c1, (hB0).c2, (hXx0).c0, (hXx0).c1, (hXx0).c2⟩ | exact ⟨(hB0.below hb11 hB0.lt).c0, (hB0.below hb11 hB0.lt).c1, (hB0.below hb11 hB0.lt).c2, (hXx0.below hb11 hXx0.lt).c0, (hXx0.below hb11 hXx0.lt).c1, (hXx0.below hb11 hXx0.lt).c2⟩ | exact ⟨((hB0.below hb11 hB0.lt).below hb12 (hB0.below hb11 hB0.lt).lt).c0, ((hB0.below hb11 hB0.lt).below hb12 (hB0.below hb11 hB0.lt).lt).c1, ((hB0.below hb11 hB0.lt).below hb12 (hB0.below hb11 hB0.lt).lt).c2, ((hXx0.below hb11 hXx0.lt).below hb12 (hXx0.below hb11 hXx0.lt).lt).c0, ((hXx0.below hb11 hXx0.lt).below hb12 (hXx0.below hb11 hXx0.lt).lt).c1, ((hXx0.below hb11 hXx0.lt).below hb12 (hXx0.below hb11 hXx0.lt).lt).c2⟩)
        (first | (go_at_call 17; refine (toParity_B _ l0 _ ((hl0.kept (Kept.of hbw)).kept (Kept.drew _)) (by omega)).mono ?_; rintro e w11 ⟨z0, rfl, hz0, hb11⟩; replace hb11 := below_of_drew hb11) | (go_at_call 21; refine (eqParity_B _ _ l0 l0 _ (hx0.below hb11).parity hz0.parity).mono ?_; rintro e w12 ⟨rfl, hb12⟩))
      clear hB0c0 hB0c1 hB0c2 hB1c0 hB1c1 hXx0c0 hXx0c1 hXx0c2 hXx1c0 hXx1c1 hB0z hB1z hXx0z hXx1z
      replace hB0 := hB0.below hb11 hB0.lt
      replace hB1 := hB1.below hb11 hB1.lt
      replace hXx0 := hXx0.below hb11 hXx0.lt
      replace hXx1 := hXx1.below hb11 hXx1.lt
      replace hx0 := hx0.below hb11
      replace hx1 := hx1.below hb11
      replace hbw := Below.up hbw hb11
      have hb11s := hb11.size
      have hB0z := hB0.lt
      have hB0c0 := hB0.c0
      have hB0c1 := hB0.c1
      have hB0c2 := hB0.c2
      have hB1z := hB1.lt
      have hB1c0 := hB1.c0
      have hB1c1 := hB1.c1
      have hXx0z := hXx0.lt
      have hXx0c0 := hXx0.c0
      have hXx0c1 := hXx0.c1
      have hXx0c2 := hXx0.c2
      have hXx1z := hXx1.lt
      have hXx1c0 := hXx1.c0
      have hXx1c1 := hXx1.c1
      clear hB0c0 hB0c1 hB0c2 hB1c0 hB1c1 hXx0c0 hXx0c1 hXx0c2 hXx1c0 hXx1c1 hB0z hB1z hXx0z hXx1z
      replace hB0 := hB0.below hb12 hB0.lt
      replace hB1 := hB1.below hb12 hB1.lt
      replace hXx0 := hXx0.below hb12 hXx0.lt
      replace hXx1 := hXx1.below hb12 hXx1.lt
      replace hx0 := hx0.below hb12
      replace hx1 := hx1.below hb12
      replace hbw := Below.up hbw hb12
      have hb12s := hb12.size
      have hB0z := hB0.lt
      have hB0c0 := hB0.c0
      have hB0c1 := hB0.c1
      have hB0c2 := hB0.c2
      have hB1z := hB1.lt
      have hB1c0 := hB1.c0
      have hB1c1 := hB1.c1
      have hXx0z := hXx0.lt
      have hXx0c0 := hXx0.c0
      have hXx0c1 := hXx0.c1
      have hXx0c2 := hXx0.c2
      have hXx1z := hXx1.lt
      have hXx1c0 := hXx1.c0
      have hXx1c1 := hXx1.c1
      clear hb11 hb12 hz0
      go_wp2_with fail
      go_region_held3 (fun W => W.cell? ⟨w.heap.size + 1, 0, none⟩ = some p1x0 ∧ W.cell? ⟨w.heap.size + 1, 1, none⟩ = some p1x1 ∧ W.cell? ⟨w8.heap.size, 0, none⟩ = some (.slice x1A l1.fst.length x1a) ∧ W.cell? ⟨w8.heap.size, 1, none⟩ = some (.slice x1B l1.snd.length x1b))
        (first | exact ⟨(hB1).c0, (hB1).c1, (hXx1).c0, (hXx1).c1⟩ | exact ⟨(hB1.below hb13 hB1.lt).c0, (hB1.below hb13 hB1.lt).c1, (hXx1.below hb13 hXx1.lt).c0, (hXx1.below hb13 hXx1.lt).c1⟩ | exact ⟨((hB1.below hb13 hB1.lt).below hb14 (hB1.below hb13 hB1.lt).lt).c0, ((hB1.below hb13 hB1.lt).below hb14 (hB1.below hb13 hB1.lt).lt).c1, ((hXx1.below hb13 hXx1.lt).below hb14 (hXx1.below hb13 hXx1.lt).lt).c0, ((hXx1.below hb13 hXx1.lt).below hb14 (hXx1.below hb13 hXx1.lt).lt).c1⟩)
        (first | (go_at_call 36; refine (toAnswer_B _ l1 _ ((hl1.kept (Kept.of hbw)).kept (Kept.drew _)) (by omega)).mono ?_; rintro e w13 ⟨z1, rfl, hz1, hb13⟩; replace hb13 := below_of_drew hb13) | (go_at_call 38; refine (eqAnswer_B _ _ l1 l1 _ (hx1.below hb13).two hz1.two).mono ?_; rintro e w14 ⟨rfl, hb14⟩))
      clear hB0c0 hB0c1 hB0c2 hB1c0 hB1c1 hXx0c0 hXx0c1 hXx0c2 hXx1c0 hXx1c1 hB0z hB1z hXx0z hXx1z
      replace hB0 := hB0.below hb13 hB0.lt
      replace hB1 := hB1.below hb13 hB1.lt
      replace hXx0 := hXx0.below hb13 hXx0.lt
      replace hXx1 := hXx1.below hb13 hXx1.lt
      replace hx0 := hx0.below hb13
      replace hx1 := hx1.below hb13
      replace hbw := Below.up hbw hb13
      have hb13s := hb13.size
      have hB0z := hB0.lt
      have hB0c0 := hB0.c0
      have hB0c1 := hB0.c1
      have hB0c2 := hB0.c2
      have hB1z := hB1.lt
      have hB1c0 := hB1.c0
      have hB1c1 := hB1.c1
      have hXx0z := hXx0.lt
      have hXx0c0 := hXx0.c0
      have hXx0c1 := hXx0.c1
      have hXx0c2 := hXx0.c2
      have hXx1z := hXx1.lt
      have hXx1c0 := hXx1.c0
      have hXx1c1 := hXx1.c1
      clear hB0c0 hB0c1 hB0c2 hB1c0 hB1c1 hXx0c0 hXx0c1 hXx0c2 hXx1c0 hXx1c1 hB0z hB1z hXx0z hXx1z
      replace hB0 := hB0.below hb14 hB0.lt
      replace hB1 := hB1.below hb14 hB1.lt
      replace hXx0 := hXx0.below hb14 hXx0.lt
      replace hXx1 := hXx1.below hb14 hXx1.lt
      replace hx0 := hx0.below hb14
      replace hx1 := hx1.below hb14
      replace hbw := Below.up hbw hb14
      have hb14s := hb14.size
      have hB0z := hB0.lt
      have hB0c0 := hB0.c0
      have hB0c1 := hB0.c1
      have hB0c2 := hB0.c2
      have hB1z := hB1.lt
      have hB1c0 := hB1.c0
      have hB1c1 := hB1.c1
      have hXx0z := hXx0.lt
      have hXx0c0 := hXx0.c0
      have hXx0c1 := hXx0.c1
      have hXx0c2 := hXx0.c2
      have hXx1z := hXx1.lt
      have hXx1c0 := hXx1.c0
      have hXx1c1 := hXx1.c1
      clear hb13 hb14 hz1
      go_wp2
      go_ret
      exact ⟨rfl, hbw⟩
    · have hz1 : szLeft (sizeT l1) (1048576 - (bulkP l0 : Int)) = -1 := szLeft_neg g1
      go_enter Try.func8, Try.ntmps8
      have hB0z := hB0.lt
      have hB0c0 := hB0.c0
      have hB0c1 := hB0.c1
      have hB0c2 := hB0.c2
      have hB1z := hB1.lt
      have hB1c0 := hB1.c0
      have hB1c1 := hB1.c1
      go_wp2_with fail
      refine (szParity_any _ l0 (1048576) _ (hl0.kept (Kept.of hbw)) (by omega) (by omega)).mono ?_
      rintro e w1 ⟨rfl, hb1⟩
      clear hB0c0 hB0c1 hB0c2 hB1c0 hB1c1 hB0z hB1z
      replace hB0 := hB0.below hb1 hB0.lt
      replace hB1 := hB1.below hb1 hB1.lt
      replace hbw := Below.up hbw hb1
      have hb1s := hb1.size
      have hB0z := hB0.lt
      have hB0c0 := hB0.c0
      have hB0c1 := hB0.c1
      have hB0c2 := hB0.c2
      have hB1z := hB1.lt
      have hB1c0 := hB1.c0
      have hB1c1 := hB1.c1
      clear hb1
      go_wp2_with fail
      refine (szAnswer_any _ l1 (1048576 - (bulkP l0 : Int)) _ (hl1.kept (Kept.of hbw)) (by omega) (by omega)).mono ?_
      rintro e w2 ⟨rfl, hb2⟩
      clear hB0c0 hB0c1 hB0c2 hB1c0 hB1c1 hB0z hB1z
      replace hB0 := hB0.below hb2 hB0.lt
      replace hB1 := hB1.below hb2 hB1.lt
      replace hbw := Below.up hbw hb2
      have hb2s := hb2.size
      have hB0z := hB0.lt
      have hB0c0 := hB0.c0
      have hB0c1 := hB0.c1
      have hB0c2 := hB0.c2
      have hB1z := hB1.lt
      have hB1c0 := hB1.c0
      have hB1c1 := hB1.c1
      clear hb2
      go_wp2
      go_ret
      exact ⟨rfl, hbw⟩
  · have hz0 : szLeft (bulkP l0) (1048576) = -1 := szLeft_neg g0
    go_enter Try.func8, Try.ntmps8
    have hB0z := hB0.lt
    have hB0c0 := hB0.c0
    have hB0c1 := hB0.c1
    have hB0c2 := hB0.c2
    have hB1z := hB1.lt
    have hB1c0 := hB1.c0
    have hB1c1 := hB1.c1
    go_wp2_with fail
    refine (szParity_any _ l0 (1048576) _ (hl0.kept (Kept.of hbw)) (by omega) (by omega)).mono ?_
    rintro e w1 ⟨rfl, hb1⟩
    clear hB0c0 hB0c1 hB0c2 hB1c0 hB1c1 hB0z hB1z
    replace hB0 := hB0.below hb1 hB0.lt
    replace hB1 := hB1.below hb1 hB1.lt
    replace hbw := Below.up hbw hb1
    have hb1s := hb1.size
    have hB0z := hB0.lt
    have hB0c0 := hB0.c0
    have hB0c1 := hB0.c1
    have hB0c2 := hB0.c2
    have hB1z := hB1.lt
    have hB1c0 := hB1.c0
    have hB1c1 := hB1.c1
    clear hb1
    go_wp2
    go_ret
    exact ⟨rfl, hbw⟩

end Go.Proofs.Ytpnophmanpfejaa
