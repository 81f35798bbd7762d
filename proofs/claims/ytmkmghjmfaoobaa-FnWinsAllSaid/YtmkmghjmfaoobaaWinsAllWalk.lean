/- The law that the reported plan wins against every tested opponent. Printed by gen_solved.py. -/
import Derived.Test.YtmkmghjmfaoobaaTable
import Derived.Test.YtmkmghjmfaoobaaSolveWalks
import Derived.Test.YtmkmghjmfaoobaaWinsWalks
namespace Go.Proofs.Ytmkmghjmfaoobaa
set_option linter.unusedSimpArgs false
set_option linter.unusedVariables false
open Go.RowKit

set_option maxRecDepth 100000 in
set_option maxHeartbeats 16000000 in
theorem FnWinsAll_true (v0 : Value) (l0 : Nat) (w : World) (hl0 : Bytes w v0 l0) :
    Calls Try.prog 8 #[v0] w fun e w' => e = .returned (.bool true) ∧ Below w.heap.size w w' := by
  have Hbig := Lib.hid (big_any v0 l0 w hl0)
  obtain ⟨BA, bc, rfl, hbl, hbm⟩ := hl0.form
  by_cases hn : l0 ≤ 4096
  · have hd : decide (4096 < l0) = false := by simp; omega
    rw [hd] at Hbig
    clear hd
    go_enter Try.func8, Try.ntmps8
    go_wp2_with fail
    refine Hbig.out.mono ?_
    rintro e w0 ⟨rfl, hw0⟩
    subst w0
    go_wp2_with fail
    refine (roll_any _ l0 901 _ hl0 hn (by omega)).mono ?_
    rintro e w1 ⟨C, rfl, hC, hdie, hbw⟩
    clear Hbig
    have hCl := hdie.lt
    go_wp2_with fail
    refine (w9Game_any C _ l0 8 _ (by omega) (by omega) hdie).mono ?_
    rintro e w2 ⟨ug, g, rfl, hop, hok, hg9, hd2⟩
    replace hbw := Below.drawn hbw hC hd2.2
    obtain ⟨A, ac, A', ac', P, pc, rfl⟩ := hop.form
    have hT := Tab.new hd2 hCl hop
    replace hbw := Below.up hbw ((Below.refl w2.heap.size w2).alloc (Nat.le_refl _) (.cells #[.slice A g.arena.owner.length ac, .slice A' g.arena.next.length ac', .slice P g.prio.length pc] 32))
    clear hop hd2 hdie
    have q0 := hT.box.c0
    have q1 := hT.box.c1
    have q2 := hT.box.c2
    go_wp2_with fail
    obtain ⟨X, hX⟩ : ∃ X, w2.heap.size = X := ⟨_, rfl⟩
    obtain ⟨D, hD⟩ : ∃ D, w1.heap.size = D := ⟨_, rfl⟩
    rw [hX, hD] at hT
    rw [hD] at hCl
    clear q0 q1 q2
    generalize w2.alloc (.cells #[.slice A g.arena.owner.length ac, .slice A' g.arena.next.length ac', .slice P g.prio.length pc] 32) = w3 at *
    have hXlt := hT.box.lt
    refine (Solved_any _ g _ hT.parity hok).mono ?_
    rintro e w4 ⟨us, up, plan, rfl, hus, hup, hfin, hbx⟩
    have hwl : (wonOf g).length = g.arena.owner.length := by unfold wonOf; exact length_winnersL _ _
    obtain ⟨WA, wac, hef, _⟩ := hus.ints.form
    rw [hwl] at hef
    subst hef
    obtain ⟨QA, qac, hef, _⟩ := hup.ints.form
    rw [hfin.len] at hef
    subst hef
    replace hT := hT.below hbx
    replace hbw := Below.up hbw hbx
    have hX4 : X < w4.heap.size := Nat.lt_of_lt_of_le hXlt hbx.size
    clear hbx
    have hY0 := Arr.new w4 51 [.slice WA g.arena.owner.length wac, .slice QA g.arena.owner.length qac]
    have hbx := (Below.refl w4.heap.size w4).alloc (Nat.le_refl _) (.cells #[.slice WA g.arena.owner.length wac, .slice QA g.arena.owner.length qac] 51)
    replace hT := hT.below hbx
    replace hbw := Below.up hbw hbx
    replace hus := hus.below hbx (Nat.le_refl _)
    replace hup := hup.below hbx (Nat.le_refl _)
    clear hbx
    have hpl : g.prio.length = g.arena.owner.length := hok.len
    have hpos := hok.arena.pos
    have hle := hok.arena.le
    have q0 := hT.box.c0
    have q1 := hT.box.c1
    have q2 := hT.box.c2
    rw [hpl] at q2
    have q3 := hY0.c0
    have q4 := hY0.c1
    have Hpl := Lib.hid hpl
    have Hwl := Lib.hid hwl
    have Hfin := Lib.hid hfin
    clear hpl hwl hfin
    go_wp2_with fail
    clear q0 q1 q2 q3 q4
    obtain ⟨Y, hY⟩ : ∃ Y, w4.heap.size = Y := ⟨_, rfl⟩
    rw [hY] at hY0 hX4
    generalize w4.alloc (.cells #[.slice WA g.arena.owner.length wac, .slice QA g.arena.owner.length qac] 51) = w5 at *
    have hYX : X < Y := hX4
    have hDX := hT.le
    have hCD := hT.lt
    have hw3D : C < w3.heap.size := by omega
    refine (w9Plan_any C _ l0 _ g.arena 0 D X _ hT.die hT.game.oa.1 hT.lt hT.size hok.arena).mono ?_
    rintro e w6 ⟨ue, even, rfl, hev, hfe, hd6⟩
    have hw5C : C < w5.heap.size := by have := hT.die.lt; exact this
    replace hT := hT.rolled hd6
    replace hbw := Below.drawn hbw hC hd6.2
    replace hY0 := Eq.trans (hd6.2.block Y (Arr.lt hY0) (by omega)) hY0
    replace hus := hus.rolled hd6 hw3D
    replace hup := hup.rolled hd6 hw3D
    have hs6 := hd6.2.size
    obtain ⟨E, ec, hef, _⟩ := hev.ints.form
    have hel := (full_plan hfe).len
    rw [hel] at hef
    subst hef
    clear hd6
    have q0 := hT.box.c0
    have q1 := hT.box.c1
    go_wp2_with fail
    clear q0 q1
    refine (w9Plan_any C _ l0 _ g.arena 1 D X _ hT.die hT.game.oa.1 hT.lt hT.size hok.arena).mono ?_
    rintro e w7 ⟨uo, odd, rfl, hod, hfo, hd7⟩
    replace hT := hT.rolled hd7
    replace hbw := Below.drawn hbw hC hd7.2
    replace hY0 := Eq.trans (hd7.2.block Y (Arr.lt hY0) (by omega)) hY0
    have husi := (hus.rolled hd7 hw3D).ints
    have hupi := (hup.rolled hd7 hw3D).ints
    have hevi := (hev.rolled hd7 hw5C).ints
    have hodi := hod.ints
    obtain ⟨O, oc, hof, _⟩ := hodi.form
    have hol := (full_plan hfo).len
    rw [hol] at hof
    subst hof
    have Hel := Lib.hid hel
    have Hol := Lib.hid hol
    have hg := hT.parity
    have hX0 := hT.box
    have hoo := hT.arena.parts.1
    have Hsame : Hid (∀ v, v < g.arena.owner.length → ix (wonOf g) v = 0 ∨ ix (wonOf g) v = 1) := Lib.hid fun v hv => won01 g hv
    have Heven := Lib.hid (fun (v : Nat) (hv : v < g.arena.owner.length) (h : ix (wonOf g) v = 0) => wins_even hok Hfin.out hfe hfo hv h)
    have Hodd := Lib.hid (fun (v : Nat) (hv : v < g.arena.owner.length) (h : ix (wonOf g) v = 1) => wins_odd hok Hfin.out hfe hfo hv h)
    have Hsign := Lib.hid (fun (v : Nat) (hv : v < g.arena.owner.length) => plan_sign Hfin.out hv)
    have Hplen := Lib.hid Hfin.out.len
    clear hd7 hus hup hev hod hfe hfo hel hol hT hok Hfin hs6 hg9
    have q3 := Arr.c1 hY0
    go_wp2_with fail
    clear q3
    refine (w9Over_any _ even _ plan _ hevi hupi (by rw [Hel.out]; omega)).mono ?_
    rintro e w8 ⟨um, rfl, hmo, hbx⟩
    obtain ⟨mine, hme⟩ : ∃ mine, overTo even plan even.length = mine := ⟨_, rfl⟩
    rw [hme] at hmo Heven
    clear hme
    have hmi := hmo.ints
    replace hX0 := hX0.below hbx hX0.lt
    replace hY0 := Arr.below hY0 hbx (Arr.lt hY0)
    replace hg := hg.kept (Kept.of hbx)
    replace hoo := hoo.kept (Kept.of hbx)
    replace husi := husi.kept (Kept.of hbx)
    replace hupi := hupi.kept (Kept.of hbx)
    replace hevi := hevi.kept (Kept.of hbx)
    replace hodi := hodi.kept (Kept.of hbx)
    replace hbw := Below.up hbw hbx
    clear hbx hmo
    have q3 := Arr.c1 hY0
    go_wp2_with fail
    clear q3
    refine (w9Over_any _ odd _ plan _ hodi hupi (by rw [Hol.out]; omega)).mono ?_
    rintro e w9 ⟨uy, rfl, hyo, hbx⟩
    obtain ⟨yours, hye⟩ : ∃ yours, overTo odd plan odd.length = yours := ⟨_, rfl⟩
    rw [hye] at hyo Hodd
    clear hye
    have hyi := hyo.ints
    replace hX0 := hX0.below hbx hX0.lt
    replace hY0 := Arr.below hY0 hbx (Arr.lt hY0)
    replace hg := hg.kept (Kept.of hbx)
    replace hoo := hoo.kept (Kept.of hbx)
    replace husi := husi.kept (Kept.of hbx)
    replace hupi := hupi.kept (Kept.of hbx)
    replace hevi := hevi.kept (Kept.of hbx)
    replace hodi := hodi.kept (Kept.of hbx)
    replace hmi := hmi.kept (Kept.of hbx)
    replace hbw := Below.up hbw hbx
    clear hbx hyo
    go_wp2_with fail
    go_loopw [10] (fun i wr => ∃ k : Nat, k ≤ g.arena.owner.length ∧ i = .int .i64 k ∧ Below w9.heap.size w9 wr) (fun i _ => g.arena.owner.length - (intOf i).toNat)
    case atStart => exact ⟨0, Nat.zero_le _, rfl, Below.refl _ _⟩
    case round =>
      obtain ⟨k, hk, rfl, hbr⟩ := hrel
      have hX1 := hX0.below hbr hX0.lt
      have hY1 : Arr wr Y 51 _ := Arr.below hY0 hbr (Arr.lt hY0)
      have q0 := hX1.c0
      have q1 := hX1.c1
      have q2 := hX1.c2
      rw [Hpl.out] at q2
      have q3 := hY1.c0
      have q4 := hY1.c1
      by_cases hlt : k < g.arena.owner.length
      · have hlt2 : (k : Int) < g.arena.owner.length := by omega
        obtain ⟨b1, e1, hc1⟩ := (husi.kept (Kept.of hbr)).at_ (k := k) (by rw [Hwl.out]; exact hlt)
        subst e1
        have hw01 := Hsame.out k hlt
        have HFIN : Hid (∀ wz : World, Below wr.heap.size wr wz → True) := Lib.hid fun _ _ => trivial
        clear HFIN
        rcases hw01 with hw | hw
        · obtain ⟨hpk, hwk⟩ := Heven.out k hlt hw
          have Hw := Lib.hid hw
          rw [hw] at hc1
          clear hw
          have Hwk := Lib.hid hwk
          clear hwk
          go_wp2_with fail
          refine (w9Winner_any _ g _ mine _ odd (k : Int) _ (by first | exact hg.kept (Kept.of hbr) | (have h := hg.kept (Kept.of hbr); rw [Hpl.out] at h; exact h)) (hmi.kept (Kept.of hbr)) (hodi.kept (Kept.of hbr)) hpk).mono ?_
          rintro e wa ⟨rfl, hbx⟩
          rw [Hwk.out]
          have hbr2 : Below w9.heap.size w9 wa := hbr.trans (hbx.mono hbr.size)
          clear q0 q1 q2 q3 q4 hc1 hX1 hY1 hbx hbr
          have hX1 := hX0.below hbr2 hX0.lt
          have hY1 : Arr wa Y 51 _ := Arr.below hY0 hbr2 (Arr.lt hY0)
          have q0 := hX1.c0
          have q3 := hY1.c0
          have q4 := hY1.c1
          obtain ⟨b1', e1', hc1⟩ := (husi.kept (Kept.of hbr2)).at_ (k := k) (by rw [Hwl.out]; exact hlt)
          cases e1'
          obtain ⟨b2, e2, hc2⟩ := (hupi.kept (Kept.of hbr2)).at_ (k := k) (by rw [Hplen.out]; exact hlt)
          cases e2
          obtain ⟨b3, e3, hc3⟩ := (hoo.kept (Kept.of hbr2)).at_ hlt
          cases e3
          rw [Hw.out] at hc1
          have hsg := Hsign.out k hlt
          rw [Hw.out] at hsg
          by_cases hp0 : 0 ≤ ix plan k
          · have ho := (hsg.1 hp0).symm
            rw [ho] at hc3
            clear hsg ho
            go_wp2_with fail
            go_region
            all_goals
              go_wp2
              exact ⟨⟨k + 1, by omega, by go_num, below_drwS hbr2⟩, by simp [intOf]; omega⟩
          · have ho : ¬ ix g.arena.owner k = 0 := fun e => hp0 (hsg.2 e.symm)
            have ho2 : ¬ 0 = ix g.arena.owner k := fun e => ho e.symm
            have hob : ((0 : Int) == ix g.arena.owner k) = false := beq_eq_false_iff_ne.2 ho2
            clear hsg
            go_wp2_with fail
            go_region
            all_goals
              go_wp2
              exact ⟨⟨k + 1, by omega, by go_num, below_drwS hbr2⟩, by simp [intOf]; omega⟩
        · obtain ⟨hpk, hwk⟩ := Hodd.out k hlt hw
          have Hw := Lib.hid hw
          rw [hw] at hc1
          clear hw
          have Hwk := Lib.hid hwk
          clear hwk
          go_wp2_with fail
          refine (w9Winner_any _ g _ even _ yours (k : Int) _ (by first | exact hg.kept (Kept.of hbr) | (have h := hg.kept (Kept.of hbr); rw [Hpl.out] at h; exact h)) (hevi.kept (Kept.of hbr)) (hyi.kept (Kept.of hbr)) hpk).mono ?_
          rintro e wa ⟨rfl, hbx⟩
          rw [Hwk.out]
          have hbr2 : Below w9.heap.size w9 wa := hbr.trans (hbx.mono hbr.size)
          clear q0 q1 q2 q3 q4 hc1 hX1 hY1 hbx hbr
          have hX1 := hX0.below hbr2 hX0.lt
          have hY1 : Arr wa Y 51 _ := Arr.below hY0 hbr2 (Arr.lt hY0)
          have q0 := hX1.c0
          have q3 := hY1.c0
          have q4 := hY1.c1
          obtain ⟨b1', e1', hc1⟩ := (husi.kept (Kept.of hbr2)).at_ (k := k) (by rw [Hwl.out]; exact hlt)
          cases e1'
          obtain ⟨b2, e2, hc2⟩ := (hupi.kept (Kept.of hbr2)).at_ (k := k) (by rw [Hplen.out]; exact hlt)
          cases e2
          obtain ⟨b3, e3, hc3⟩ := (hoo.kept (Kept.of hbr2)).at_ hlt
          cases e3
          rw [Hw.out] at hc1
          have hsg := Hsign.out k hlt
          rw [Hw.out] at hsg
          by_cases hp0 : 0 ≤ ix plan k
          · have ho := (hsg.1 hp0).symm
            rw [ho] at hc3
            clear hsg ho
            go_wp2_with fail
            go_region
            all_goals
              go_wp2
              exact ⟨⟨k + 1, by omega, by go_num, below_drwS hbr2⟩, by simp [intOf]; omega⟩
          · have ho : ¬ ix g.arena.owner k = 1 := fun e => hp0 (hsg.2 e.symm)
            have ho2 : ¬ 1 = ix g.arena.owner k := fun e => ho e.symm
            have hob : ((1 : Int) == ix g.arena.owner k) = false := beq_eq_false_iff_ne.2 ho2
            clear hsg
            go_wp2_with fail
            go_region
            all_goals
              go_wp2
              exact ⟨⟨k + 1, by omega, by go_num, below_drwS hbr2⟩, by simp [intOf]; omega⟩
      · obtain rfl : k = g.arena.owner.length := by omega
        have hlt2 : ¬ ((g.arena.owner.length : Nat) : Int) < g.arena.owner.length := by omega
        go_wp2
        go_ret
        exact ⟨rfl, hbw.trans (hbr.mono hbw.size)⟩
  · have hd : decide (4096 < l0) = true := by simp; omega
    rw [hd] at Hbig
    clear hd
    go_enter Try.func8, Try.ntmps8
    go_wp2_with fail
    refine Hbig.out.mono ?_
    rintro e w0 ⟨rfl, hw0⟩
    subst w0
    go_wp2
    go_ret
    exact ⟨rfl, Below.refl _ _⟩
end Go.Proofs.Ytmkmghjmfaoobaa
