/- The law that the winners of a part are those of its own game. Printed by gen_solved.py. -/
import Derived.Test.YtmkmghjmfaoobaaTable
import Derived.Test.YtmkmghjmfaoobaaSolveWalks
import Derived.Test.YtmkmghjmfaoobaaPartFit
import Derived.Test.YtmkmghjmfaoobaaRankWalks5
import Derived.Test.YtmkmghjmfaoobaaGameWalks
import Derived.Test.YtmkmghjmfaoobaaClass
import Derived.Deep.RegionLaw
namespace Go.Proofs.Ytmkmghjmfaoobaa
set_option linter.unusedSimpArgs false
set_option linter.unusedVariables false
open Go.RowKit

theorem below_dN {B : Nat} {a w : World} (h : Below B a w) (q : Nat) : Below B a (w.drewN q) := ⟨h.os, h.tape, h.output, h.size, h.block⟩
theorem w9All_any (n : Nat) (w : World) (hn : n ≤ 256) : Calls Try.prog 36 #[.int .i64 (n : Int)] w (RetInts w (upFrom 0 n)) := by
  go_enter Try.func36, Try.ntmps36
  go_wp2_with fail
  refine (specAllOf_any (n : Int) _).mono ?_
  rintro e w1 ⟨u, rfl, hu, hb⟩
  rw [allL_upFrom hn] at hu
  go_wp2
  go_ret
  exact ⟨_, rfl, hu, hb⟩
set_option maxRecDepth 100000 in
set_option maxHeartbeats 16000000 in
theorem FnPartWon_true (v0 : Value) (l0 : Nat) (w : World) (hl0 : Bytes w v0 l0) :
    Calls Try.prog 9 #[v0] w fun e w' => e = .returned (.bool true) ∧ Below w.heap.size w w' := by
  have Hbig := Lib.hid (big_any v0 l0 w hl0)
  obtain ⟨BA, bc, rfl, hbl, hbm⟩ := hl0.form
  by_cases hn : l0 ≤ 4096
  · have hd : decide (4096 < l0) = false := by simp; omega
    rw [hd] at Hbig
    clear hd
    go_enter Try.func9, Try.ntmps9
    go_wp2_with fail
    refine Hbig.out.mono ?_
    rintro e w0 ⟨rfl, hw0⟩
    subst w0
    go_wp2_with fail
    refine (roll_any _ l0 904 _ hl0 hn (by omega)).mono ?_
    rintro e w1 ⟨C, rfl, hC, hdie, hbw⟩
    clear Hbig
    have hCl := hdie.lt
    go_wp2_with fail
    refine (w9Game_any C _ l0 8 _ (by omega) (by omega) hdie).mono ?_
    rintro e w2 ⟨ug, g, rfl, hop, hok, hg9, hd2⟩
    replace hbw := Below.drawn hbw hC hd2.2
    obtain ⟨A, ac, A', ac', P, pc, rfl⟩ := hop.form
    have hT := Tab.new hd2 hCl hop
    replace hbw := Below.up hbw ((Below.refl w2.heap.size w2).alloc (Nat.le_refl _) (.cells #[.slice A g.arena.owner.length ac, .slice A' g.arena.next.length ac', .slice P g.prio.length pc] 32))
    clear hop hd2 hdie
    have q0 := hT.box.c0
    have q1 := hT.box.c1
    have q2 := hT.box.c2
    go_wp2_with fail
    obtain ⟨X, hX⟩ : ∃ X, w2.heap.size = X := ⟨_, rfl⟩
    obtain ⟨D, hD⟩ : ∃ D, w1.heap.size = D := ⟨_, rfl⟩
    rw [hX, hD] at hT
    rw [hD] at hCl
    clear q0 q1 q2
    generalize w2.alloc (.cells #[.slice A g.arena.owner.length ac, .slice A' g.arena.next.length ac', .slice P g.prio.length pc] 32) = w3 at *
    have hpl := hok.len
    have Hpl := Lib.hid hpl
    have Hw9 := Lib.hid (fun W => (show Calls Try.prog 36 #[.int .i64 (g.prio.length : Int)] W (RetInts W (upFrom 0 g.arena.owner.length)) from by rw [hpl]; exact w9All_any _ W hok.arena.le))
    have hle : g.arena.owner.length ≤ 256 := hok.arena.le
    have hpos := hok.arena.pos
    have hn8 : g.arena.owner.length ≤ 8 := by omega
    have hpp1 : (1 : Int) ≤ (g.prio.length : Int) := by omega
    have hpp2 : (g.prio.length : Int) ≤ 1048576 := by omega
    clear hpl hg9
    have hr0 : Below w3.heap.size w3 w3.drew := ⟨rfl, rfl, rfl, Nat.le_refl _, fun _ _ => rfl⟩
    have hTr := hT.below hr0
    have hbw0 := Below.up hbw hr0
    have q0 := hT.box.c0
    have q1 := hT.box.c1
    have p0 := hTr.box.c0
    have p1 := hTr.box.c1
    go_region_law (first | (go_simp; have hchk := hT6; go_at_call 38; refine (below_any C _ l0 (g.prio.length : Int) _ hT6.die hpp1 hpp2).mono ?_; rintro e w7 ⟨x, rfl, hz0, hz1, hd7⟩; have hT7 := hT6.rolled hd7; have hbw7 := Below.drawn hbw6 hC hd7.2; have hbl7 := hbl.rolled hd7 hCw5; have hal7 := hal6.rolled hd7 hCw3; obtain ⟨hone, hob⟩ := one_ints w7 x; have hT7a := hT7.below hob; have s0 := hT7.box.c0; have s1 := hT7.box.c1; have t0 := hT7a.box.c0; have t1 := hT7a.box.c1) | (go_simp; have hchk := hT5; go_at_call 36; refine (Hw9.out _).mono ?_; rintro e w6 ⟨ub, rfl, hbl, hb6⟩; have hT6 := hT5.below hb6; have hbw6 := Below.up hbw5 hb6; have hal6 := hal5.below hb6 (Nat.le_refl _); have hCw5 : C < w5.heap.size := hT5.die.lt; have r0 := hT6.box.c0; have r1 := hT6.box.c1) | (go_simp; have hchk := hT4; go_at_call 38; refine (below_any C _ l0 2 _ hT4.die (by omega) (by omega)).mono ?_; rintro e w5 ⟨who, rfl, hx0, hx1, hd5⟩; have hT5 := hT4.rolled hd5; have hbw5 := Below.drawn hbw4 hC hd5.2; have hCw3 : C < w3.drew.heap.size := hTr.die.lt; have hal5 := hal.rolled hd5 hCw3; have m0 := hT5.box.c0; have m1 := hT5.box.c1) | (go_simp; go_at_call 36; refine (Hw9.out _).mono ?_; rintro e w4 ⟨ua, rfl, hal, hb4⟩; have hT4 := hTr.below hb4; have hbw4 := Below.up hbw0 hb4; have k0 := hT4.box.c0; have k1 := hT4.box.c1) | (go_simp; go_at_call 37; refine (specAttract_any _ g.arena who _ (upFrom 0 g.arena.owner.length) _ [x] _ hT7a.arena (hbl7.ints.kept (Kept.of hob)) hone).mono ?_; rintro e w8 ⟨ut, rfl, hut, hb8⟩) | (go_simp; go_at_call 35; refine (specLessOf_any _ _ (upFrom 0 g.arena.owner.length) (attrG g.arena who (upFrom 0 g.arena.owner.length) [x]) _ ((hal7.ints.kept (Kept.of hob)).kept (Kept.of hb8)) hut.ints (by rw [length_upFrom]; omega)).mono ?_; rintro e w9 ⟨us, rfl, hus, hb9⟩))
    all_goals
      have hwho : who = 0 ∨ who = 1 := by omega
      have hgs : IsSet [x] g.arena.owner.length := isSet_one hz0 (by rw [← Hpl.out]; exact hz1)
      have htrap := (rest_trap hok.arena hwho hgs).1
      obtain ⟨s, hse⟩ : ∃ s, LessOf (upFrom 0 g.arena.owner.length) (attrG g.arena who (upFrom 0 g.arena.owner.length) [x]) = s := ⟨_, rfl⟩
      rw [hse] at hus htrap
      clear hse
      have hb79 : Below w7.heap.size w7 w9 := Below.up (Below.up hob hb8) hb9
      have hT9 := hT7.below hb79
      have hbw9 := Below.up hbw7 hb79
      have hsi := hus.ints
      have hg := hT9.parity
      have hX0 := hT9.box
      have Hfit := Lib.hid (part_fit hok htrap)
      have hslen : s.length ≤ 256 := by have := (trap_next htrap).1.length_le; omega
      clear q0 q1 p0 p1 s0 s1 t0 t1 r0 r1 m0 m1 k0 k1 hchk hT hTr hT4 hT5 hT6 hT7 hT7a hT9 hbw0 hbw4 hbw5 hbw6 hbw7 hal hal5 hal6 hal7 hbl hbl7 hone hob hut hb4 hb6 hb8 hb9 hb79 hd5 hd7 hus htrap hgs hwho hz0 hz1 hx0 hx1 hr0 hbw
      obtain ⟨SA, sc, hsf, _⟩ := hsi.form
      subst hsf
      have q0 := hX0.c0
      have q1 := hX0.c1
      have q2 := hX0.c2
      go_wp2_with fail
      clear q0 q1 q2
      refine (WonIn_any _ g _ s _ hg hsi).mono ?_
      rintro e wa ⟨ev, od, B0, C0, B1, C1, rfl, hev, hod, _, hbx⟩
      obtain ⟨EL, hEL⟩ : ∃ EL, wonE g s = EL := ⟨_, rfl⟩
      obtain ⟨OL, hOL⟩ : ∃ OL, wonO g s = OL := ⟨_, rfl⟩
      have hflen := Hfit.out.len
      have Heven := Lib.hid Hfit.out.even
      have Hodd := Lib.hid Hfit.out.odd
      rw [hEL, hOL] at hflen
      rw [hEL] at hev Heven
      rw [hOL] at hod Hodd
      clear hEL hOL
      have hevi := hev.ints
      have hodi := hod.ints
      obtain ⟨EA, eac, hef, _⟩ := hevi.form
      obtain ⟨OA', oac, hof, _⟩ := hodi.form
      subst hef
      subst hof
      replace hX0 := hX0.below hbx hX0.lt
      replace hg := hg.kept (Kept.of hbx)
      replace hsi := hsi.kept (Kept.of hbx)
      have hbwa := Below.up hbw9 hbx
      clear hbx hev hod
      have hsum : ((EL.length : Int) + (OL.length : Int) != (s.length : Int)) = false := by
        have : (EL.length : Int) + (OL.length : Int) = s.length := by omega
        rw [this]; simp
      have hsum2 : (EL.length : Int) + (OL.length : Int) = s.length := by omega
      by_cases hne : s = []
      · subst hne
        go_wp2
        go_ret
        exact ⟨rfl, hbwa⟩
      · have hs0 : ¬ s.length = 0 := fun e => hne (List.length_eq_zero_iff.1 e)
        have hs1 : ((s.length : Int) == 0) = false := beq_eq_false_iff_ne.2 (by omega)
        have q0 := hX0.c0
        have q1 := hX0.c1
        have q2 := hX0.c2
        go_wp2_with fail
        clear q0 q1 q2 hsum hsum2 hflen hs0
        have HcS := Lib.hid (specSubgameOf_any _ g _ s wa hg hsi)
        have hsubo := Hfit.out.sub hne
        rw [show subG g s = subP g s from by unfold subG; rw [hsubo]; rfl, hsubo] at HcS
        refine HcS.out.mono ?_
        rintro e wb ⟨uh, rfl, hop, hbx⟩
        clear HcS hsubo
        have Hwon := Lib.hid (fun (i : Nat) (hi : i < s.length) => won01 (subP g s) (v := i) (by simpa [subP, insP] using hi))
        have hlens : (subP g s).arena.owner.length = s.length := by simp [subP, insP]
        have hwl : (wonOf (subP g s)).length = s.length := by unfold wonOf; rw [length_winnersL, hlens]
        have hhok := Hfit.out.ok hne
        replace Heven := Lib.hid (Heven.out hne)
        replace Hodd := Lib.hid (Hodd.out hne)
        clear Hfit hlens
        obtain ⟨h, hhe⟩ : ∃ h, subP g s = h := ⟨_, rfl⟩
        rw [hhe] at hop hhok hwl Heven Hodd Hwon
        clear hhe
        obtain ⟨FA, fac, FB, fbc, FP, fpc, rfl⟩ := hop.form
        have hhi := hop.parity
        replace hsi := hsi.kept (Kept.of hbx)
        replace hevi := hevi.kept (Kept.of hbx)
        replace hodi := hodi.kept (Kept.of hbx)
        have hbwb := Below.up hbwa hbx
        clear hbx hop hg hX0
        have hZ0 := Arr.new wb 32 [.slice FA h.arena.owner.length fac, .slice FB h.arena.next.length fbc, .slice FP h.prio.length fpc]
        have hbx := (Below.refl wb.heap.size wb).alloc (Nat.le_refl _) (.cells #[.slice FA h.arena.owner.length fac, .slice FB h.arena.next.length fbc, .slice FP h.prio.length fpc] 32)
        replace hhi := hhi.kept (Kept.of hbx)
        replace hsi := hsi.kept (Kept.of hbx)
        replace hevi := hevi.kept (Kept.of hbx)
        replace hodi := hodi.kept (Kept.of hbx)
        have hbwc := Below.up hbwb hbx
        clear hbx
        have q0 := hZ0.c0
        have q1 := hZ0.c1
        have q2 := hZ0.c2
        go_wp2_with fail
        clear q0 q1 q2
        refine (Solved_any _ h _ hhi hhok).mono ?_
        rintro e wd ⟨ws, ps, plan, rfl, hws, hps, hfin, hbx⟩
        obtain ⟨WA, wac, hwf, _⟩ := hws.ints.form
        rw [hwl] at hwf
        subst hwf
        obtain ⟨PA, pac, hpf, _⟩ := hps.ints.form
        subst hpf
        have hwi := hws.ints
        replace hsi := hsi.kept (Kept.of hbx)
        replace hevi := hevi.kept (Kept.of hbx)
        replace hodi := hodi.kept (Kept.of hbx)
        have hbwd := Below.up hbwc hbx
        clear hbx hws hps hfin hZ0 hhi hhok
        have hV0 := Arr.new wd 51 [.slice WA s.length wac, .slice PA plan.length pac]
        have hbx := (Below.refl wd.heap.size wd).alloc (Nat.le_refl _) (.cells #[.slice WA s.length wac, .slice PA plan.length pac] 51)
        replace hsi := hsi.kept (Kept.of hbx)
        replace hevi := hevi.kept (Kept.of hbx)
        replace hodi := hodi.kept (Kept.of hbx)
        replace hwi := hwi.kept (Kept.of hbx)
        have hbwe := Below.up hbwd hbx
        clear hbx
        have q0 := hV0.c0
        have Hwl := Lib.hid hwl
        clear hwl
        obtain ⟨V, hV⟩ : ∃ V, wd.heap.size = V := ⟨_, rfl⟩
        go_wp2_with fail
        rw [hV] at hV0
        clear q0
        generalize wd.alloc (.cells #[.slice WA s.length wac, .slice PA plan.length pac] 51) = we at *
        go_loopw [12] (fun i wr => ∃ k : Nat, k ≤ s.length ∧ i = .int .i64 k ∧ Below we.heap.size we wr) (fun i _ => s.length - (intOf i).toNat)
        case atStart => exact ⟨0, Nat.zero_le _, rfl, Below.refl _ _⟩
        case round =>
          obtain ⟨k, hk, rfl, hbr⟩ := hrel
          by_cases hlt : k < s.length
          · have hlt2 : (k : Int) < s.length := by omega
            obtain ⟨b1, e1, hc1⟩ := (hsi.kept (Kept.of hbr)).at_ hlt
            cases e1
            obtain ⟨b2, e2, hc2⟩ := (hwi.kept (Kept.of hbr)).at_ (k := k) (by rw [Hwl.out]; exact hlt)
            cases e2
            have hV1 := hV0.below hbr hV0.lt
            have q0 := hV1.c0
            have hev := Heven.out k hlt
            have hod := Hodd.out k hlt
            rcases Hwon.out k hlt with hw | hw
            · rw [hw] at hc2 hev hod
              have HcE := Lib.hid (fun W (hW : Kept wr W) => (show Calls Try.prog 40 #[.slice EA EL.length eac, .int .i64 (ix s k)] W fun e w' => e = .returned (.bool true) ∧ ∃ q, w' = W.drewN q from by
                have h1 := specHasIn_any _ EL (ix s k) W ((hevi.kept (Kept.of hbr)).kept hW)
                rw [hev] at h1
                exact h1))
              have HcO := Lib.hid (fun W (hW : Kept wr W) => (show Calls Try.prog 40 #[.slice OA' OL.length oac, .int .i64 (ix s k)] W fun e w' => e = .returned (.bool false) ∧ ∃ q, w' = W.drewN q from by
                have h1 := specHasIn_any _ OL (ix s k) W ((hodi.kept (Kept.of hbr)).kept hW)
                rw [hod] at h1
                exact h1))
              clear hev hod
              go_wp2_with fail
              have p0 := Cls.cell q0
              have p1 := Cls.cell hc1
              have p2 := Cls.cell hc2
              refine wp_region_cls (by kernel_rfl) (by kernel_rfl) ?_
              iterate 14 (first | go_big_quiet_step ((go_at_call 40; exact calls_cls_drew (HcE.out _ (Cls.kept _)))) | quiet_step ((go_at_call 40; exact calls_cls_drew (HcE.out _ (Cls.kept _)))))
              repeat (first | go_big_quiet_step ((go_at_call 40; exact calls_cls_drew (HcO.out _ (Cls.kept _)))) | quiet_step ((go_at_call 40; exact calls_cls_drew (HcO.out _ (Cls.kept _)))))
              refine wpQuiet_nil ?_
              intro _ hw'
              obtain ⟨⟨wq, hbq⟩, rfl⟩ := hw'
              clear p0 p1 p2
              go_wp2
              exact ⟨⟨k + 1, by omega, by go_num, Below.up hbr hbq⟩, by simp [intOf]; omega⟩
            · rw [hw] at hc2 hev hod
              have HcE := Lib.hid (fun W (hW : Kept wr W) => (show Calls Try.prog 40 #[.slice EA EL.length eac, .int .i64 (ix s k)] W fun e w' => e = .returned (.bool false) ∧ ∃ q, w' = W.drewN q from by
                have h1 := specHasIn_any _ EL (ix s k) W ((hevi.kept (Kept.of hbr)).kept hW)
                rw [hev] at h1
                exact h1))
              have HcO := Lib.hid (fun W (hW : Kept wr W) => (show Calls Try.prog 40 #[.slice OA' OL.length oac, .int .i64 (ix s k)] W fun e w' => e = .returned (.bool true) ∧ ∃ q, w' = W.drewN q from by
                have h1 := specHasIn_any _ OL (ix s k) W ((hodi.kept (Kept.of hbr)).kept hW)
                rw [hod] at h1
                exact h1))
              clear hev hod
              go_wp2_with fail
              have p0 := Cls.cell q0
              have p1 := Cls.cell hc1
              have p2 := Cls.cell hc2
              refine wp_region_cls (by kernel_rfl) (by kernel_rfl) ?_
              iterate 14 (first | go_big_quiet_step ((go_at_call 40; exact calls_cls_drew (HcE.out _ (Cls.kept _)))) | quiet_step ((go_at_call 40; exact calls_cls_drew (HcE.out _ (Cls.kept _)))))
              repeat (first | go_big_quiet_step ((go_at_call 40; exact calls_cls_drew (HcO.out _ (Cls.kept _)))) | quiet_step ((go_at_call 40; exact calls_cls_drew (HcO.out _ (Cls.kept _)))))
              refine wpQuiet_nil ?_
              intro _ hw'
              obtain ⟨⟨wq, hbq⟩, rfl⟩ := hw'
              clear p0 p1 p2
              go_wp2
              exact ⟨⟨k + 1, by omega, by go_num, Below.up hbr hbq⟩, by simp [intOf]; omega⟩
          · obtain rfl : k = s.length := by omega
            have hlt2 : ¬ ((s.length : Nat) : Int) < s.length := by omega
            go_wp2
            go_ret
            exact ⟨rfl, hbwe.trans (hbr.mono hbwe.size)⟩
  · have hd : decide (4096 < l0) = true := by simp; omega
    rw [hd] at Hbig
    clear hd
    go_enter Try.func9, Try.ntmps9
    go_wp2_with fail
    refine Hbig.out.mono ?_
    rintro e w0 ⟨rfl, hw0⟩
    subst w0
    go_wp2
    go_ret
    exact ⟨rfl, Below.refl _ _⟩
end Go.Proofs.Ytmkmghjmfaoobaa
