/- The law on the checker: a strategy that it accepts wins every tested play, and what it rejects is not closed or not clean. Printed by gen_checked.py. -/
import Derived.Test.YtogfpalgnjlfcaaTable
import Derived.Test.YtogfpalgnjlfcaaChecksFit
import Derived.Test.YtogfpalgnjlfcaaPlayWalks
import Derived.Test.YtogfpalgnjlfcaaLassoWalks2
import Derived.Test.YtogfpalgnjlfcaaBadWalks3
import Derived.Test.YtogfpalgnjlfcaaDrawWins
namespace Go.Proofs.Ytogfpalgnjlfcaa
set_option linter.unusedSimpArgs false
set_option linter.unusedVariables false
open Go.RowKit

set_option maxRecDepth 100000 in
set_option maxHeartbeats 16000000 in
theorem FnChecked_true (v0 : Value) (l0 : Nat) (w : World) (hl0 : Bytes w v0 l0) :
    Calls Try.prog 6 #[v0] w fun e w' => e = .returned (.bool true) ∧ Below w.heap.size w w' := by
  have Hbig := Lib.hid (big_any v0 l0 w hl0)
  obtain ⟨BA, bc, rfl, hbl, hbm⟩ := hl0.form
  by_cases hn : l0 ≤ 4096
  · have hd : decide (4096 < l0) = false := by simp; omega
    rw [hd] at Hbig
    clear hd
    go_enter Try.func6, Try.ntmps6
    go_wp2_with fail
    refine Hbig.out.mono ?_
    rintro e w0 ⟨rfl, hw0⟩
    subst w0
    go_wp2_with fail
    refine (roll_any _ l0 606 _ hl0 hn (by omega)).mono ?_
    rintro e w1 ⟨C, rfl, hC, hdie, hbw⟩
    clear Hbig
    have hCl := hdie.lt
    have hl1 := hl0.kept (Kept.of hbw)
    go_wp2_with fail
    refine (DrawWinsBy_any _ l0 _ hl1 hn).mono ?_
    rintro e w2 ⟨ug, who, ur, up, rfl, g, s, pl, hop, hwho, hrx, hpx, hbx⟩
    replace hbw := Below.up hbw hbx
    replace hdie := hdie.below hbx
    obtain ⟨A, ac, A', ac', P, pc, rfl⟩ := hop.form
    obtain ⟨RA, rc, hrf, _⟩ := hrx.ints.form
    obtain ⟨LA, lc, hpf, _⟩ := hpx.ints.form
    subst hrf
    subst hpf
    have hs2 := hbx.size
    obtain ⟨D, hD⟩ : ∃ D, w1.heap.size = D := ⟨_, rfl⟩
    rw [hD] at hop hCl hs2 hrx hpx
    have hX0 := Arr.new w2 32 [.slice A g.arena.owner.length ac, .slice A' g.arena.next.length ac', .slice P g.prio.length pc]
    clear hbx hl1 hD
    have hbx := (Below.refl w2.heap.size w2).alloc (Nat.le_refl _) (.cells #[.slice A g.arena.owner.length ac, .slice A' g.arena.next.length ac', .slice P g.prio.length pc] 32)
    replace hop := hop.below hbx
    replace hdie := hdie.below hbx
    replace hrx := hrx.below hbx (Nat.le_refl _)
    replace hpx := hpx.below hbx (Nat.le_refl _)
    replace hbw := Below.up hbw hbx
    clear hbx
    have q0 := hX0.c0
    have q1 := hX0.c1
    have q2 := hX0.c2
    go_wp2_with fail
    clear q0 q1 q2
    obtain ⟨X, hX⟩ : ∃ X, w2.heap.size = X := ⟨_, rfl⟩
    rw [hX] at hX0 hop hs2
    have hT : Tab (w2.alloc (.cells #[.slice A g.arena.owner.length ac, .slice A' g.arena.next.length ac', .slice P g.prio.length pc] 32)) C _ l0 D X _ _ _ g := ⟨hdie, hop, hX0, hCl, hs2⟩
    clear hX0 hdie hop hs2
    generalize w2.alloc (.cells #[.slice A g.arena.owner.length ac, .slice A' g.arena.next.length ac', .slice P g.prio.length pc] 32) = w3 at *
    refine (WinsBy_any _ g who _ s _ pl _ hT.parity hrx.ints hpx.ints).mono ?_
    rintro e w4 ⟨rfl, hbx⟩
    have HcW := Lib.hid (fun W (h1 : IsParity W (.agg #[.slice A g.arena.owner.length ac, .slice A' g.arena.next.length ac', .slice P g.prio.length pc]) g) (h2 : Ints W (.slice RA s.length rc) s) (h3 : Ints W (.slice LA pl.length lc) pl) => specWinsBy_any _ g who _ s _ pl W h1 h2 h3)
    have HcB := Lib.hid (fun W (h1 : IsParity W (.agg #[.slice A g.arena.owner.length ac, .slice A' g.arena.next.length ac', .slice P g.prio.length pc]) g) (h2 : Ints W (.slice RA s.length rc) s) (h3 : Ints W (.slice LA pl.length lc) pl) => specBadLoops_any _ g who _ s _ pl W h1 h2 h3)
    have Hwins := Lib.hid (fun h : winsG g who s pl = true => wins_parts h)
    have Hspec := Lib.hid (winsG_spec g who s pl)
    obtain ⟨wn, hwn⟩ : ∃ wn, winsG g who s pl = wn := ⟨_, rfl⟩
    rw [hwn] at HcW Hwins Hspec
    rw [hwn]
    clear hwn
    replace hT := hT.below hbx
    replace hrx := hrx.below hbx (Nat.le_refl _)
    replace hpx := hpx.below hbx (Nat.le_refl _)
    replace hbw := Below.up hbw hbx
    clear hbx
    have q0 := hT.box.c0
    have q1 := hT.box.c1
    have q2 := hT.box.c2
    go_wp2_with fail
    clear q0 q1 q2
    refine (BadLoops_any _ g who _ s _ pl _ hT.parity hrx.ints hpx.ints).mono ?_
    rintro e w5 ⟨ub, rfl, hbo, hbx⟩
    obtain ⟨bad, hbe⟩ : ∃ bad, badG g who s pl = bad := ⟨_, rfl⟩
    rw [hbe] at hbo HcB Hwins
    clear hbe
    have hbi := hbo.ints
    obtain ⟨BB, bbc, hbf, _⟩ := hbi.form
    subst hbf
    replace hT := hT.below hbx
    replace hrx := hrx.below hbx (Nat.le_refl _)
    replace hpx := hpx.below hbx (Nat.le_refl _)
    replace hbw := Below.up hbw hbx
    clear hbx hbo
    have q0 := hT.box.c0
    have q1 := hT.box.c1
    have q2 := hT.box.c2
    go_wp2_with fail
    clear q0 q1 q2
    refine (HcW.out _ hT.parity hrx.ints hpx.ints).mono ?_
    rintro e w6 ⟨rfl, hbx⟩
    clear HcW
    replace hT := hT.below hbx
    replace hrx := hrx.below hbx (Nat.le_refl _)
    replace hpx := hpx.below hbx (Nat.le_refl _)
    replace hbi := hbi.kept (Kept.of hbx)
    replace hbw := Below.up hbw hbx
    clear hbx
    have q0 := hT.box.c0
    have q1 := hT.box.c1
    have q2 := hT.box.c2
    have hne : (wn != wn) = false := by simp
    go_wp2_with fail
    clear q0 q1 q2
    refine (HcB.out _ hT.parity hrx.ints hpx.ints).mono ?_
    rintro e w7 ⟨ub2, rfl, hbo2, hbx⟩
    clear HcB
    have hb2i := hbo2.ints
    replace hT := hT.below hbx
    replace hrx := hrx.below hbx (Nat.le_refl _)
    replace hpx := hpx.below hbx (Nat.le_refl _)
    replace hbi := hbi.kept (Kept.of hbx)
    replace hbw := Below.up hbw hbx
    clear hbx hbo2
    go_wp2_with fail
    refine (drew_below (likeInts_any _ _ bad bad _ hbi hb2i)).mono ?_
    rintro e w8 ⟨rfl, hbx⟩
    rw [decide_eq_true rfl]
    replace hT := hT.below hbx
    replace hrx := hrx.below hbx (Nat.le_refl _)
    replace hpx := hpx.below hbx (Nat.le_refl _)
    replace hbi := hbi.kept (Kept.of hbx)
    replace hbw := Below.up hbw hbx
    clear hbx hb2i hne
    cases wn
    · have q0 := hT.box.c0
      have q1 := hT.box.c1
      have q2 := hT.box.c2
      go_wp2_with fail
      refine (CleanIn_any _ g who _ s _ pl _ hT.parity hrx.ints hpx.ints).mono ?_
      rintro e w9 ⟨rfl, hbx⟩
      cases hcl : cleanB g who s pl
      · go_wp2
        go_ret
        exact ⟨rfl, Below.up hbw hbx⟩
      · have hcf : closedG g.arena who s pl = false := by
          have h := Hspec.out
          rw [hcl] at h
          simpa using h.symm
        replace hT := hT.below hbx
        replace hrx := hrx.below hbx (Nat.le_refl _)
        replace hpx := hpx.below hbx (Nat.le_refl _)
        replace hbw := Below.up hbw hbx
        clear hbx q0 q1 q2
        have q0 := hT.box.c0
        have q1 := hT.box.c1
        go_wp2_with fail
        refine (ClosedIn_any _ g.arena who _ s _ pl _ hT.arena hrx.ints hpx.ints).mono ?_
        rintro e wa ⟨rfl, hbx⟩
        rw [hcf]
        go_wp2
        go_ret
        exact ⟨rfl, Below.up hbw hbx⟩
    · obtain ⟨hok, hck, hcl, hbad, hbg⟩ := Hwins.out rfl
      have q0 := hT.box.c0
      have q1 := hT.box.c1
      go_wp2_with fail
      clear q0 q1
      refine (w5Plan_any C _ l0 _ g.arena who D X _ hT.die hT.game.oa.1 hT.lt hT.size hok.arena).mono ?_
      rintro e w9 ⟨uf, full, rfl, hfo, hff, hd9⟩
      have hszF : X + 1 ≤ w8.heap.size := hT.box.lt
      have hDX := hT.le
      have hCD := hT.lt
      have hrB : ∀ b, (Value.slice RA s.length rc).ownBlock = some b → b < w8.heap.size := fun b hb => (hrx.lt b hb).2
      have hpB : ∀ b, (Value.slice LA pl.length lc).ownBlock = some b → b < w8.heap.size := fun b hb => (hpx.lt b hb).2
      replace hrx := hrx.rolled hd9 hCD
      replace hpx := hpx.rolled hd9 hCD
      replace hT := hT.rolled hd9
      replace hbw := Below.drawn hbw hC hd9.2
      have hfl := (full_plan hff).len
      have hpl := hck.plan.len
      have hpos := hok.arena.pos
      obtain ⟨G, cap, hGf, hG1, hG2⟩ := hfo.form' hfl hpos
      subst hGf
      have Hfl := Lib.hid hfl
      have Hpl := Lib.hid hpl
      have hfo0 : OwnInts w9 w8.heap.size (.slice (some ⟨G, 0, none⟩) g.arena.owner.length cap) (mixTo pl full 0) := by rw [mixTo_zero]; exact hfo
      have hn1 : pl.length = g.arena.owner.length := hpl
      clear hd9 hfo hfl hpl
      go_wp2_with fail
      go_loopw [11] (fun i wr => ∃ k : Nat, k ≤ pl.length ∧ i = .int .i64 k ∧ OwnInts wr w8.heap.size (.slice (some ⟨G, 0, none⟩) g.arena.owner.length cap) (mixTo pl full k) ∧ Below G w9 wr) (fun i _ => pl.length - (intOf i).toNat)
      case atStart => exact ⟨0, Nat.zero_le _, rfl, hfo0, Below.refl _ _⟩
      case round =>
        clear hfo0
        obtain ⟨k, hk, rfl, hfo, hbr⟩ := hrel
        obtain ⟨wo, rfl⟩ : ∃ wo : World, wo = wr := ⟨_, rfl⟩
        by_cases hlt : k < pl.length
        · have hlt2 : (k : Int) < pl.length := by omega
          have hltn : k < g.arena.owner.length := by omega
          have hltn2 : (k : Int) < g.arena.owner.length := by omega
          have hml : (mixTo pl full k).length = g.arena.owner.length := by rw [length_mixTo, Hfl.out]
          have hp2 : OwnInts wo D (.slice LA pl.length lc) pl := hpx.heap fun b hb => hbr.block b (by have := hpB b hb; omega)
          obtain ⟨b1, e1, hc1⟩ := hp2.ints.at_ hlt
          cases e1
          have hc2 : wo.cell? ⟨G, k, none⟩ = some (.int .i64 (ix (mixTo pl full k) k)) := OwnInts.cell hfo (by rw [hml]; exact hltn)
          have hfz := hfo.frozen' hml.symm k
          by_cases h0 : 0 ≤ ix pl k
          · have hput := hfo.put hml.symm k (ix pl k)
            rw [mixTo_put (by rw [Hfl.out]; exact hltn) h0] at hput
            clear hml
            go_wp2_with fail
            exact ⟨⟨k + 1, by omega, by go_num, hput, hbr.setCell (Nat.le_refl _) _⟩, by simp [intOf]; omega⟩
          · clear hml
            go_wp2_with fail
            exact ⟨⟨k + 1, by omega, by go_num, by rw [← mixTo_skip h0]; exact hfo, hbr⟩, by simp [intOf]; omega⟩
        · obtain rfl : k = pl.length := by omega
          have hlt2 : ¬ ((pl.length : Nat) : Int) < pl.length := by omega
          have hbo : Below w.heap.size w wo := hbw.trans (hbr.mono (by have := hbw.size; have := hC; omega))
          have hTo : Tab wo C _ l0 D X _ _ _ g := hT.underB hbr (by omega) (hl0.kept (Kept.of hbo))
          have hro : OwnInts wo D (.slice RA s.length rc) s := hrx.heap fun b hb => hbr.block b (by have := hrB b hb; omega)
          have q0 := hTo.box.c0
          have q1 := hTo.box.c1
          go_wp2_with fail
          clear q0 q1
          refine (w5Plan_any C _ l0 _ g.arena (1 - who) D X _ hTo.die hTo.game.oa.1 hTo.lt hTo.size hok.arena).mono ?_
          rintro e wb ⟨ux, other, rfl, hox, hfx, hdb⟩
          have hTb := hTo.rolled hdb
          have hrb := (hro.rolled hdb hCD).ints
          have hmb := (hfo.rolled hdb (by omega)).ints
          have hob := hox.ints
          have hbb := Below.drawn hbo hC hdb.2
          obtain ⟨OB, obc, hoF, _⟩ := hob.form
          have hol := (full_plan hfx).len
          have Hplay := Lib.hid (fun (ev od : List Int) h0 h1 (j : Nat) (hj : j < s.length) => checks_play (even := ev) (odd := od) hok hck hcl hbad hff hfx h0 h1 hj)
          rw [hol] at hoF
          subst hoF
          have ha := hTb.arena
          have hg := hTb.parity
          have hX0 := hTb.box
          have hbl0 : bad.length = 0 := by rw [hbg]; rfl
          have Hset := Lib.hid hck.set.vert
          clear hTb hTo hro hox hdb hbo hT hrx hpx hfo hbr hok hck hcl hbad hol hbg hrB hpB
          rcases hwho with hw | hw
          · have Hp := Lib.hid (Hplay.out (mixTo pl full pl.length) other (fun _ => ⟨rfl, rfl⟩) (fun h => by omega))
            subst hw
            clear Hplay hff hfx
            go_wp2_with fail
            go_loopw [15] (fun i wr => ∃ k : Nat, k ≤ s.length ∧ i = .int .i64 k ∧ Below wb.heap.size wb wr) (fun i _ => s.length - (intOf i).toNat)
            case atStart => exact ⟨0, Nat.zero_le _, rfl, Below.refl _ _⟩
            case round =>
              obtain ⟨k, hk, rfl, hbr⟩ := hrel
              obtain ⟨wo2, rfl⟩ : ∃ wo2 : World, wo2 = wr := ⟨_, rfl⟩
              by_cases hlt : k < s.length
              · have hlt2 : (k : Int) < s.length := by omega
                obtain ⟨b1, e1, hc1⟩ := (hrb.kept (Kept.of hbr)).at_ hlt
                cases e1
                obtain ⟨hpk, hwk⟩ := Hp.out k hlt
                obtain ⟨l, hle⟩ : ∃ l, playG g.arena (mixTo pl full pl.length) other (ix s k) = l := ⟨_, rfl⟩
                rw [hle] at hwk
                have Hwk := Lib.hid hwk
                have HcP := Lib.hid (fun W (hW : Below wb.heap.size wb W) => (show Calls Try.prog 40 #[.agg #[.slice A g.arena.owner.length ac, .slice A' g.arena.next.length ac'], .slice (some ⟨G, 0, none⟩) g.arena.owner.length cap, .slice OB g.arena.owner.length obc, .int .i64 (ix s k)] W (RetTwoB W l true) from by
                  have h := specPlayOf_any _ g.arena _ (mixTo pl full pl.length) _ other (ix s k) W (ha.kept (Kept.of hW)) (hmb.kept (Kept.of hW)) (hob.kept (Kept.of hW))
                  rw [hpk, hle] at h
                  exact h))
                clear hpk hle hwk
                have hX1 := hX0.below hbr hX0.lt
                have q0 := hX1.c0
                have q1 := hX1.c1
                have hr0 : Below wb.heap.size wb wo2.drew := below_drw hbr
                have hr1 : Below wb.heap.size wb (wo2.alloc (.cells #[.slice none 0 0, .slice none 0 0] 37)).drew := below_drw (hbr.alloc hbr.size _)
                have hbA := (Below.refl wo2.heap.size wo2).alloc (Nat.le_refl _) (.cells #[.slice none 0 0, .slice none 0 0] 37)
                have hcA := (Kept.of hbA).cell hc1
                have hXA := hX1.below hbA hX1.lt
                have r0 := hXA.c0
                have r1 := hXA.c1
                have hN0 := Arr.new wo2 37 [.slice none 0 0, .slice none 0 0]
                go_wp2_with fail
                go_region_law (first | (go_simp; go_at_call 40; refine (HcP.out _ hr1).mono ?_; rintro e w3 ⟨ul, rfl, hl, hb3⟩; obtain ⟨S, sc, T, tc, rfl⟩ := hl.form; have hbr3 : Below wb.heap.size wb w3 := hr1.trans (hb3.mono hr1.size); have hY : Arr w3 wo2.heap.size 37 [.slice none 0 0, .slice none 0 0] := Arr.below (w := (wo2.alloc (.cells #[.slice none 0 0, .slice none 0 0] 37)).drew) hN0 hb3 hN0.lt; have z0 := hY.c0; have z1 := hY.c1; have z2 := hY.frozen 0; have z3 := hY.frozen 1; have hY9 := (hY.set_ 0 (.slice S l.fst.length sc)).set_ 1 (.slice T l.snd.length tc); have hb9 : Below wb.heap.size wb ((w3.setCell ⟨wo2.heap.size, 0, none⟩ (.slice S l.fst.length sc)).setCell ⟨wo2.heap.size, 1, none⟩ (.slice T l.snd.length tc)) := (hbr3.setCell (p := ⟨wo2.heap.size, 0, none⟩) hbr.size _).setCell (p := ⟨wo2.heap.size, 1, none⟩) hbr.size _; have hl9 : IsTwo ((w3.setCell ⟨wo2.heap.size, 0, none⟩ (.slice S l.fst.length sc)).setCell ⟨wo2.heap.size, 1, none⟩ (.slice T l.snd.length tc)) _ l := (hl.heapFrom (fun b hb => by rw [Below.heap_setCell _ _ _ _ (by simp at hb ⊢; omega), Below.heap_setCell _ _ _ _ (by simp at hb ⊢; omega)])).two) | (go_simp; go_at_call 40; refine (HcP.out _ hr0).mono ?_; rintro e w3 ⟨ul, rfl, hl, hb3⟩; obtain ⟨S, sc, T, tc, rfl⟩ := hl.form; have hbr3 : Below wb.heap.size wb w3 := hr0.trans (hb3.mono hr0.size); have hY := Arr.new w3 37 [.slice none 0 0, .slice none 0 0]; have z0 := hY.c0; have z1 := hY.c1; have z2 := hY.frozen 0; have z3 := hY.frozen 1; have hY9 := Arr.new w3 37 [.slice S l.fst.length sc, .slice T l.snd.length tc]; have hb9 : Below wb.heap.size wb (w3.alloc (.cells #[.slice S l.fst.length sc, .slice T l.snd.length tc] 37)) := hbr3.alloc hbr3.size _; have hl9 : IsTwo (w3.alloc (.cells #[.slice S l.fst.length sc, .slice T l.snd.length tc] 37)) _ l := hl.two.kept (Kept.of ((Below.refl w3.heap.size w3).alloc (Nat.le_refl _) _))))
                all_goals
                  clear z0 z1 z2 z3 q0 q1 r0 r1 hcA hXA hbA hr0 hr1 HcP hN0 hl hY hbr3 hb3
                  have hX9 := hX0.below hb9 hX0.lt
                  have q0 := hX9.c0
                  have q1 := hX9.c1
                  have q2 := hX9.c2
                  have q3 := Arr.c0 hY9
                  have q4 := Arr.c1 hY9
                  go_wp2_with fail
                  refine (specPlayWon_any _ g _ l _ (hg.kept (Kept.of hb9)) hl9).mono ?_
                  rintro e w5 ⟨rfl, hb5⟩
                  rw [Hwk.out]
                  go_wp2
                  exact ⟨⟨k + 1, by omega, by go_num, hb9.trans (hb5.mono hb9.size)⟩, by simp [intOf]; omega⟩
              · obtain rfl : k = s.length := by omega
                have hlt2 : ¬ ((s.length : Nat) : Int) < s.length := by omega
                go_wp2
                go_ret
                exact ⟨by simp [hbl0], hbb.trans (hbr.mono hbb.size)⟩
          · have Hp := Lib.hid (Hplay.out other (mixTo pl full pl.length) (fun h => by omega) (fun _ => ⟨rfl, rfl⟩))
            subst hw
            clear Hplay hff hfx
            go_wp2_with fail
            go_loopw [15] (fun i wr => ∃ k : Nat, k ≤ s.length ∧ i = .int .i64 k ∧ Below wb.heap.size wb wr) (fun i _ => s.length - (intOf i).toNat)
            case atStart => exact ⟨0, Nat.zero_le _, rfl, Below.refl _ _⟩
            case round =>
              obtain ⟨k, hk, rfl, hbr⟩ := hrel
              obtain ⟨wo2, rfl⟩ : ∃ wo2 : World, wo2 = wr := ⟨_, rfl⟩
              by_cases hlt : k < s.length
              · have hlt2 : (k : Int) < s.length := by omega
                obtain ⟨b1, e1, hc1⟩ := (hrb.kept (Kept.of hbr)).at_ hlt
                cases e1
                obtain ⟨hpk, hwk⟩ := Hp.out k hlt
                obtain ⟨l, hle⟩ : ∃ l, playG g.arena other (mixTo pl full pl.length) (ix s k) = l := ⟨_, rfl⟩
                rw [hle] at hwk
                have Hwk := Lib.hid hwk
                have HcP := Lib.hid (fun W (hW : Below wb.heap.size wb W) => (show Calls Try.prog 40 #[.agg #[.slice A g.arena.owner.length ac, .slice A' g.arena.next.length ac'], .slice OB g.arena.owner.length obc, .slice (some ⟨G, 0, none⟩) g.arena.owner.length cap, .int .i64 (ix s k)] W (RetTwoB W l true) from by
                  have h := specPlayOf_any _ g.arena _ other _ (mixTo pl full pl.length) (ix s k) W (ha.kept (Kept.of hW)) (hob.kept (Kept.of hW)) (hmb.kept (Kept.of hW))
                  rw [hpk, hle] at h
                  exact h))
                clear hpk hle hwk
                have hX1 := hX0.below hbr hX0.lt
                have q0 := hX1.c0
                have q1 := hX1.c1
                have hr0 : Below wb.heap.size wb wo2.drew := below_drw hbr
                have hr1 : Below wb.heap.size wb (wo2.alloc (.cells #[.slice none 0 0, .slice none 0 0] 37)).drew := below_drw (hbr.alloc hbr.size _)
                have hbA := (Below.refl wo2.heap.size wo2).alloc (Nat.le_refl _) (.cells #[.slice none 0 0, .slice none 0 0] 37)
                have hcA := (Kept.of hbA).cell hc1
                have hXA := hX1.below hbA hX1.lt
                have r0 := hXA.c0
                have r1 := hXA.c1
                have hN0 := Arr.new wo2 37 [.slice none 0 0, .slice none 0 0]
                go_wp2_with fail
                go_region_law (first | (go_simp; go_at_call 40; refine (HcP.out _ hr1).mono ?_; rintro e w3 ⟨ul, rfl, hl, hb3⟩; obtain ⟨S, sc, T, tc, rfl⟩ := hl.form; have hbr3 : Below wb.heap.size wb w3 := hr1.trans (hb3.mono hr1.size); have hY : Arr w3 wo2.heap.size 37 [.slice none 0 0, .slice none 0 0] := Arr.below (w := (wo2.alloc (.cells #[.slice none 0 0, .slice none 0 0] 37)).drew) hN0 hb3 hN0.lt; have z0 := hY.c0; have z1 := hY.c1; have z2 := hY.frozen 0; have z3 := hY.frozen 1; have hY9 := (hY.set_ 0 (.slice S l.fst.length sc)).set_ 1 (.slice T l.snd.length tc); have hb9 : Below wb.heap.size wb ((w3.setCell ⟨wo2.heap.size, 0, none⟩ (.slice S l.fst.length sc)).setCell ⟨wo2.heap.size, 1, none⟩ (.slice T l.snd.length tc)) := (hbr3.setCell (p := ⟨wo2.heap.size, 0, none⟩) hbr.size _).setCell (p := ⟨wo2.heap.size, 1, none⟩) hbr.size _; have hl9 : IsTwo ((w3.setCell ⟨wo2.heap.size, 0, none⟩ (.slice S l.fst.length sc)).setCell ⟨wo2.heap.size, 1, none⟩ (.slice T l.snd.length tc)) _ l := (hl.heapFrom (fun b hb => by rw [Below.heap_setCell _ _ _ _ (by simp at hb ⊢; omega), Below.heap_setCell _ _ _ _ (by simp at hb ⊢; omega)])).two) | (go_simp; go_at_call 40; refine (HcP.out _ hr0).mono ?_; rintro e w3 ⟨ul, rfl, hl, hb3⟩; obtain ⟨S, sc, T, tc, rfl⟩ := hl.form; have hbr3 : Below wb.heap.size wb w3 := hr0.trans (hb3.mono hr0.size); have hY := Arr.new w3 37 [.slice none 0 0, .slice none 0 0]; have z0 := hY.c0; have z1 := hY.c1; have z2 := hY.frozen 0; have z3 := hY.frozen 1; have hY9 := Arr.new w3 37 [.slice S l.fst.length sc, .slice T l.snd.length tc]; have hb9 : Below wb.heap.size wb (w3.alloc (.cells #[.slice S l.fst.length sc, .slice T l.snd.length tc] 37)) := hbr3.alloc hbr3.size _; have hl9 : IsTwo (w3.alloc (.cells #[.slice S l.fst.length sc, .slice T l.snd.length tc] 37)) _ l := hl.two.kept (Kept.of ((Below.refl w3.heap.size w3).alloc (Nat.le_refl _) _))))
                all_goals
                  clear z0 z1 z2 z3 q0 q1 r0 r1 hcA hXA hbA hr0 hr1 HcP hN0 hl hY hbr3 hb3
                  have hX9 := hX0.below hb9 hX0.lt
                  have q0 := hX9.c0
                  have q1 := hX9.c1
                  have q2 := hX9.c2
                  have q3 := Arr.c0 hY9
                  have q4 := Arr.c1 hY9
                  go_wp2_with fail
                  refine (specPlayWon_any _ g _ l _ (hg.kept (Kept.of hb9)) hl9).mono ?_
                  rintro e w5 ⟨rfl, hb5⟩
                  rw [Hwk.out]
                  go_wp2
                  exact ⟨⟨k + 1, by omega, by go_num, hb9.trans (hb5.mono hb9.size)⟩, by simp [intOf]; omega⟩
              · obtain rfl : k = s.length := by omega
                have hlt2 : ¬ ((s.length : Nat) : Int) < s.length := by omega
                go_wp2
                go_ret
                exact ⟨by simp [hbl0], hbb.trans (hbr.mono hbb.size)⟩
  · have hd : decide (4096 < l0) = true := by simp; omega
    rw [hd] at Hbig
    clear hd
    go_enter Try.func6, Try.ntmps6
    go_wp2_with fail
    refine Hbig.out.mono ?_
    rintro e w0 ⟨rfl, hw0⟩
    subst w0
    go_wp2
    go_ret
    exact ⟨rfl, Below.refl _ _⟩
end Go.Proofs.Ytogfpalgnjlfcaa
