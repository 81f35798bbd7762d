/- The law on plays: the play of two full plans is a play of the arena and follows both. -/
import Derived.Test.YtogfpalgnjlfcaaTable
import Derived.Test.YtogfpalgnjlfcaaPlaysFit
import Derived.Test.YtogfpalgnjlfcaaPlayWalks
import Derived.Test.YtogfpalgnjlfcaaLassoWalks2
namespace Go.Proofs.Ytogfpalgnjlfcaa
set_option linter.unusedSimpArgs false
set_option linter.unusedVariables false
open Go.RowKit

set_option maxRecDepth 100000 in
set_option maxHeartbeats 16000000 in
theorem FnPlays_true (v0 : Value) (l0 : Nat) (w : World) (hl0 : Bytes w v0 l0) :
    Calls Try.prog 3 #[v0] w fun e w' => e = .returned (.bool true) ∧ Below w.heap.size w w' := by
  have Hbig := Lib.hid (big_any v0 l0 w hl0)
  obtain ⟨BA, bc, rfl, hbl, hbm⟩ := hl0.form
  by_cases hn : l0 ≤ 4096
  · have hd : decide (4096 < l0) = false := by simp; omega
    rw [hd] at Hbig
    clear hd
    go_enter Try.func3, Try.ntmps3
    go_wp2_with fail
    refine Hbig.out.mono ?_
    rintro e w0 ⟨rfl, hw0⟩
    subst w0
    go_wp2_with fail
    refine (roll_any _ l0 605 _ hl0 hn (by omega)).mono ?_
    rintro e w1 ⟨C, rfl, hC, hdie, hbw⟩
    clear Hbig
    have hCl := hdie.lt
    go_wp2_with fail
    refine (w5Game_any C _ l0 9 _ (by omega) (by omega) hdie).mono ?_
    rintro e w2 ⟨ug, g, rfl, hop, hok, hg9, hd2⟩
    replace hbw := Below.drawn hbw hC hd2.2
    obtain ⟨A, ac, A', ac', P, pc, rfl⟩ := hop.form
    have hT := Tab.new hd2 hCl hop
    replace hbw := Below.up hbw ((Below.refl w2.heap.size w2).alloc (Nat.le_refl _) (.cells #[.slice A g.arena.owner.length ac, .slice A' g.arena.next.length ac', .slice P g.prio.length pc] 32))
    clear hop hd2 hdie
    have q0 := hT.box.c0
    have q1 := hT.box.c1
    have q2 := hT.box.c2
    go_wp2_with fail
    obtain ⟨X, hX⟩ : ∃ X, w2.heap.size = X := ⟨_, rfl⟩
    obtain ⟨D, hD⟩ : ∃ D, w1.heap.size = D := ⟨_, rfl⟩
    rw [hX, hD] at hT
    rw [hD] at hCl
    clear q0 q1 q2
    generalize w2.alloc (.cells #[.slice A g.arena.owner.length ac, .slice A' g.arena.next.length ac', .slice P g.prio.length pc] 32) = w3 at *
    refine (w5Plan_any C _ l0 _ g.arena 0 D X _ hT.die hT.game.oa.1 hT.lt hT.size hok.arena).mono ?_
    rintro e w4 ⟨ue, even, rfl, hev, hfe, hd4⟩
    have hw3 : X ≤ w3.heap.size := hT.size
    replace hT := hT.rolled hd4
    replace hbw := Below.drawn hbw hC hd4.2
    obtain ⟨E, ec, hef, _⟩ := hev.ints.form
    subst hef
    have q0 := hT.box.c0
    have q1 := hT.box.c1
    have q2 := hT.box.c2
    go_wp2_with fail
    clear q0 q1 q2
    refine (w5Plan_any C _ l0 _ g.arena 1 D X _ hT.die hT.game.oa.1 hT.lt hT.size hok.arena).mono ?_
    rintro e w5 ⟨uo, odd, rfl, hod, hfo, hd5⟩
    have hCD : C < w3.heap.size := by have := hT.lt; have := hT.le; omega
    replace hT := hT.rolled hd5
    replace hev := hev.rolled hd5 hCD
    have hCD2 : C < w4.heap.size := Nat.lt_of_lt_of_le hCD hd4.2.size
    replace hbw := Below.drawn hbw hC hd5.2
    obtain ⟨O, oc, hof, _⟩ := hod.ints.form
    subst hof
    have q0 := hT.box.c0
    have q1 := hT.box.c1
    have q2 := hT.box.c2
    go_wp2_with fail
    clear q0 q1 q2
    have hpos := hok.arena.pos
    have hpl := hok.len
    refine (below_any C _ l0 (g.prio.length : Int) _ hT.die (by omega) (by omega)).mono ?_
    rintro e w6 ⟨x, rfl, hx0, hx1, hd6⟩
    obtain ⟨y, rfl⟩ : ∃ y : Nat, x = (y : Int) := ⟨x.toNat, by omega⟩
    have hy : y < g.arena.owner.length := by omega
    replace hT := hT.rolled hd6
    have hev6 := (hev.rolled hd6 hCD).ints
    have hod6 := (hod.rolled hd6 hCD2).ints
    replace hbw := Below.drawn hbw hC hd6.2
    have Hfit := Lib.hid (plays_fit hok.arena hfe hfo hy)
    have Hpl := Lib.hid hpl
    have Hn := Lib.hid hok.arena.le
    have Hful := Lib.hid (show fullG g.arena 0 even = true from by unfold fullG; rw [arenaOkB_iff.2 hok.arena, hfe]; rfl)
    have hg := hT.parity
    have ha := hT.arena
    have hX0 := hT.box
    clear hd4 hd5 hd6 hev hod hfe hfo hCD hCD2 hT hw3 hpl hx0
    have q0 := hX0.c0
    have q1 := hX0.c1
    have q2 := hX0.c2
    go_wp2_with fail
    clear q0 q1 q2
    have HcP := Lib.hid (PlayOf_any _ g.arena _ even _ odd (y : Int) w6 ha hev6 hod6)
    have Hx : Hid (fixG g.arena 0 even = fixA g.arena even) := Lib.hid (by unfold fixG; rw [Hfit.out.x]; rfl)
    have Hy : Hid (fixG (fixA g.arena even) 1 odd = fixA (fixA g.arena even) odd) := Lib.hid (by unfold fixG; rw [Hfit.out.y]; rfl)
    have Hxo : Hid (planOkB g.arena 0 even = true) := Lib.hid Hfit.out.x
    have Hyo : Hid (planOkB (fixA g.arena even) 1 odd = true) := Lib.hid Hfit.out.y
    have Hpo : Hid (planOkB g.arena 1 odd = true) := Lib.hid Hfit.out.pl
    have Hl1 : Hid (lassoB g.arena (playG g.arena even odd y) = true) := Lib.hid (by unfold lassoB; rw [arenaOkB_iff.2 hok.arena, Hfit.out.lasso]; rfl)
    have Hl2 : Hid (lassoB (fixA (fixA g.arena even) odd) (playG g.arena even odd y) = true) := Lib.hid Hfit.out.lasso2
    have Hf : Hid (ix (wayL (playG g.arena even odd y)) 0 = (y : Int)) := Lib.hid Hfit.out.first
    have Hs : Hid (1 ≤ (playG g.arena even odd y).fst.length + (playG g.arena even odd y).snd.length ∧ (playG g.arena even odd y).fst.length + (playG g.arena even odd y).snd.length ≤ g.arena.owner.length) := Lib.hid ⟨by have := Hfit.out.pos; rwa [length_wayL] at this, by have := Hfit.out.short; rwa [length_wayL] at this⟩
    have Hpk : Hid (playOkB g.arena even odd y = true) := Lib.hid Hfit.out.ok
    clear Hfit
    obtain ⟨l, hle⟩ : ∃ l, playG g.arena even odd y = l := ⟨_, rfl⟩
    rw [hle] at HcP Hl1 Hl2 Hf Hs
    rw [Hpk.out] at HcP
    clear hle
    refine HcP.out.mono ?_
    rintro e w7 ⟨ul, rfl, hl, hbx⟩
    clear HcP
    obtain ⟨S, sc, T, tc, rfl⟩ := hl.form
    replace hX0 := hX0.below hbx hX0.lt
    replace hg := hg.kept (Kept.of hbx)
    replace ha := ha.kept (Kept.of hbx)
    replace hev6 := hev6.kept (Kept.of hbx)
    replace hod6 := hod6.kept (Kept.of hbx)
    have hlt := hl.two
    replace hbw := Below.up hbw hbx
    clear hbx hl
    have hY0 := Arr.new w7 37 [.slice S l.fst.length sc, .slice T l.snd.length tc]
    have hbx := (Below.refl w7.heap.size w7).alloc (Nat.le_refl _) (.cells #[.slice S l.fst.length sc, .slice T l.snd.length tc] 37)
    replace hX0 := hX0.below hbx hX0.lt
    replace hg := hg.kept (Kept.of hbx)
    replace ha := ha.kept (Kept.of hbx)
    replace hev6 := hev6.kept (Kept.of hbx)
    replace hod6 := hod6.kept (Kept.of hbx)
    replace hlt := hlt.kept (Kept.of hbx)
    replace hbw := Below.up hbw hbx
    have q0 := hX0.c0
    have q1 := hX0.c1
    have q2 := hX0.c2
    have q3 := hY0.c0
    have q4 := hY0.c1
    clear hbx
    go_wp2_with fail
    clear q0 q1 q2 q3 q4
    obtain ⟨Y, hY⟩ : ∃ Y, w7.heap.size = Y := ⟨_, rfl⟩
    rw [hY] at hY0
    generalize w7.alloc (.cells #[.slice S l.fst.length sc, .slice T l.snd.length tc] 37) = w8 at *
    refine (LassoOk_any _ g.arena _ l _ ha hlt).mono ?_
    rintro e w9 ⟨rfl, hbx⟩
    rw [Hl1.out]
    replace hX0 := hX0.below hbx hX0.lt
    replace hY0 := hY0.below hbx hY0.lt
    replace hg := hg.kept (Kept.of hbx)
    replace ha := ha.kept (Kept.of hbx)
    replace hev6 := hev6.kept (Kept.of hbx)
    replace hod6 := hod6.kept (Kept.of hbx)
    replace hlt := hlt.kept (Kept.of hbx)
    replace hbw := Below.up hbw hbx
    have q0 := hX0.c0
    have q1 := hX0.c1
    have q2 := hX0.c2
    have q3 := hY0.c0
    have q4 := hY0.c1
    clear hbx
    go_wp2_with fail
    clear q0 q1 q2 q3 q4
    refine (specLassoOk_any _ g.arena _ l _ ha hlt).mono ?_
    rintro e wa ⟨rfl, hbx⟩
    rw [Hl1.out]
    replace hX0 := hX0.below hbx hX0.lt
    replace hY0 := hY0.below hbx hY0.lt
    replace hg := hg.kept (Kept.of hbx)
    replace ha := ha.kept (Kept.of hbx)
    replace hev6 := hev6.kept (Kept.of hbx)
    replace hod6 := hod6.kept (Kept.of hbx)
    replace hlt := hlt.kept (Kept.of hbx)
    replace hbw := Below.up hbw hbx
    clear hbx
    obtain ⟨hn0', hbn'⟩ := new_ints wa
    have hn0 : OwnInts (wa.alloc (.cells #[] 2)).drew wa.heap.size (.slice (some ⟨wa.heap.size, 0, none⟩) 0 0) [] := hn0'
    have hbn : Below wa.heap.size wa (wa.alloc (.cells #[] 2)).drew := ⟨hbn'.os, hbn'.tape, hbn'.output, hbn'.size, hbn'.block⟩
    clear hn0' hbn'
    have hbs0 : wa.heap.size ≤ (wa.alloc (.cells #[] 2)).drew.heap.size := hbn.size
    have hY1 := hY0.below hbn hY0.lt
    obtain ⟨hs, ht⟩ := hlt.parts
    have hs1 : Ints (wa.alloc (.cells #[] 2)).drew (.slice S l.fst.length sc) l.fst := hs.kept (Kept.of hbn)
    have hss := Hs.out
    have hnn := Hn.out
    go_wp2_with fail
    go_region_held3 (fun W => W.cell? ⟨Y, 0, none⟩ = some (.slice S l.fst.length sc) ∧ W.cell? ⟨Y, 1, none⟩ = some (.slice T l.snd.length tc))
      (first | exact ⟨hY0.c0, hY0.c1⟩ | exact ⟨hY1.c0, hY1.c1⟩ | exact ⟨hY2.c0, hY2.c1⟩ | exact ⟨hY3.c0, hY3.c1⟩)
      (first | (refine step_append_ints _ rfl (.tmp 59) (.tmp 61) rfl wa.heap.size (.slice (some ⟨wa.heap.size, 0, none⟩) 0 0) [] rfl hn0 (.slice S l.fst.length sc) l.fst rfl hs1 (by simp; omega) hbs0 ?_; intro v1 w1x ho1 hb1 hg1 hl1; rw [List.nil_append] at ho1; obtain ⟨A1, c1, e1, _⟩ := ho1.ints.form; subst e1; have hY2 := hY1.below hb1 hY0.lt; have ht2 := ht.kept (Kept.of (hbn.trans hb1))) | (refine step_append_ints w1x rfl (.tmp 62) (.tmp 64) rfl wa.heap.size (.slice A1 l.fst.length c1) l.fst rfl ho1 (.slice T l.snd.length tc) l.snd rfl ht2 (by omega) (Nat.le_trans hbs0 hb1.size) ?_; intro v2 w2x ho2 hb2 hg2 hl2; have hY3 := hY2.below hb2 hY0.lt; obtain ⟨A2, c2, e2, _⟩ := ho2.ints.form; rw [List.length_append] at e2; subst e2))
    replace ho2 : OwnInts w2x wa.heap.size (.slice A2 (l.fst.length + l.snd.length) c2) (wayL l) := ho2
    have hbx := (hbn.trans hb1).trans hb2
    replace hX0 := hX0.below hbx hX0.lt
    replace hY0 := hY0.below hbx hY0.lt
    replace hg := hg.kept (Kept.of hbx)
    replace ha := ha.kept (Kept.of hbx)
    replace hev6 := hev6.kept (Kept.of hbx)
    replace hod6 := hod6.kept (Kept.of hbx)
    replace hlt := hlt.kept (Kept.of hbx)
    replace hbw := Below.up hbw hbx
    obtain ⟨b1, eb, hc1⟩ := ho2.ints.at_ (k := 0) (by rw [length_wayL]; omega)
    subst eb
    rw [add_zero', Hf.out] at hc1
    have hpl := Hpl.out
    have hll : l.fst.length + l.snd.length ≤ g.prio.length := by omega
    have hll2 : ((l.fst.length + l.snd.length : Nat) : Int) ≤ g.prio.length := by omega
    have hll3 : 0 < l.fst.length + l.snd.length := by omega
    have Hll := Lib.hid hll
    clear hpl
    clear hbx hb1 hb2 hg1 hg2 hl1 hl2 hY1 hY2 hY3 hs hs1 ht ht2 hn0 hbn hbs0 ho1 ho2
    have q0 := hX0.c0
    have q1 := hX0.c1
    have q2 := hX0.c2
    have q3 := hY0.c0
    have q4 := hY0.c1
    go_wp2_with fail
    clear q0 q1 q2 q3 q4 hc1 hll2 hll3 hss hll
    obtain ⟨xa, hxe⟩ : ∃ xa, fixA g.arena even = xa := ⟨_, rfl⟩
    rw [hxe] at Hx Hy Hyo Hl2
    clear hxe
    obtain ⟨ya, hye⟩ : ∃ ya, fixA xa odd = ya := ⟨_, rfl⟩
    rw [hye] at Hy Hl2
    clear hye
    have HcF := Lib.hid (FixedBy_any _ g.arena 0 _ even _ ha hev6)
    rw [Hx.out, Hxo.out] at HcF
    refine HcF.out.mono ?_
    rintro e wb ⟨ux, rfl, hxa, hbx⟩
    clear HcF
    obtain ⟨XA, xc, XB, xd, rfl⟩ := hxa.form
    replace hX0 := hX0.below hbx hX0.lt
    replace hY0 := hY0.below hbx hY0.lt
    replace hg := hg.kept (Kept.of hbx)
    replace ha := ha.kept (Kept.of hbx)
    replace hev6 := hev6.kept (Kept.of hbx)
    replace hod6 := hod6.kept (Kept.of hbx)
    replace hlt := hlt.kept (Kept.of hbx)
    replace hbw := Below.up hbw hbx
    have hxi := hxa.arena
    clear hbx hxa
    have hZ0 := Arr.new wb 30 [.slice XA xa.owner.length xc, .slice XB xa.next.length xd]
    have hbx := (Below.refl wb.heap.size wb).alloc (Nat.le_refl _) (.cells #[.slice XA xa.owner.length xc, .slice XB xa.next.length xd] 30)
    replace hX0 := hX0.below hbx hX0.lt
    replace hY0 := hY0.below hbx hY0.lt
    replace hg := hg.kept (Kept.of hbx)
    replace ha := ha.kept (Kept.of hbx)
    replace hev6 := hev6.kept (Kept.of hbx)
    replace hod6 := hod6.kept (Kept.of hbx)
    replace hlt := hlt.kept (Kept.of hbx)
    replace hxi := hxi.kept (Kept.of hbx)
    replace hbw := Below.up hbw hbx
    have q0 := hZ0.c0
    have q1 := hZ0.c1
    clear hbx
    go_wp2_with fail
    clear q0 q1
    obtain ⟨Z, hZ⟩ : ∃ Z, wb.heap.size = Z := ⟨_, rfl⟩
    rw [hZ] at hZ0
    generalize wb.alloc (.cells #[.slice XA xa.owner.length xc, .slice XB xa.next.length xd] 30) = wc at *
    have HcF := Lib.hid (FixedBy_any _ xa 1 _ odd _ hxi hod6)
    rw [Hy.out, Hyo.out] at HcF
    refine HcF.out.mono ?_
    rintro e wd ⟨uy, rfl, hya, hbx⟩
    clear HcF
    obtain ⟨YA, yc, YB, yd, rfl⟩ := hya.form
    replace hX0 := hX0.below hbx hX0.lt
    replace hY0 := hY0.below hbx hY0.lt
    replace hg := hg.kept (Kept.of hbx)
    replace ha := ha.kept (Kept.of hbx)
    replace hev6 := hev6.kept (Kept.of hbx)
    replace hod6 := hod6.kept (Kept.of hbx)
    replace hlt := hlt.kept (Kept.of hbx)
    replace hbw := Below.up hbw hbx
    have hyi := hya.arena
    clear hbx hya hZ0 hxi
    have hV0 := Arr.new wd 30 [.slice YA ya.owner.length yc, .slice YB ya.next.length yd]
    have hbx := (Below.refl wd.heap.size wd).alloc (Nat.le_refl _) (.cells #[.slice YA ya.owner.length yc, .slice YB ya.next.length yd] 30)
    replace hX0 := hX0.below hbx hX0.lt
    replace hY0 := hY0.below hbx hY0.lt
    replace hg := hg.kept (Kept.of hbx)
    replace ha := ha.kept (Kept.of hbx)
    replace hev6 := hev6.kept (Kept.of hbx)
    replace hod6 := hod6.kept (Kept.of hbx)
    replace hlt := hlt.kept (Kept.of hbx)
    replace hyi := hyi.kept (Kept.of hbx)
    replace hbw := Below.up hbw hbx
    clear hbx
    go_wp2_with fail
    obtain ⟨V, hV⟩ : ∃ V, wd.heap.size = V := ⟨_, rfl⟩
    rw [hV] at hV0
    generalize wd.alloc (.cells #[.slice YA ya.owner.length yc, .slice YB ya.next.length yd] 30) = wS at *
    have HSS := Lib.hid (fun W (hW : Below wS.heap.size wS W) => (show W.cell? ⟨X, 0, none⟩ = some (.slice A g.arena.owner.length ac) ∧ W.cell? ⟨X, 1, none⟩ = some (.slice A' g.arena.next.length ac') ∧ W.cell? ⟨X, 2, none⟩ = some (.slice P g.prio.length pc) ∧ W.cell? ⟨Y, 0, none⟩ = some (.slice S l.fst.length sc) ∧ W.cell? ⟨Y, 1, none⟩ = some (.slice T l.snd.length tc) ∧ W.cell? ⟨V, 0, none⟩ = some (.slice YA ya.owner.length yc) ∧ W.cell? ⟨V, 1, none⟩ = some (.slice YB ya.next.length yd) from ⟨(hX0.below hW hX0.lt).c0, (hX0.below hW hX0.lt).c1, (hX0.below hW hX0.lt).c2, (hY0.below hW hY0.lt).c0, (hY0.below hW hY0.lt).c1, (hV0.below hW hV0.lt).c0, (hV0.below hW hV0.lt).c1⟩))
    have hR0 : Below wS.heap.size wS wS.drew := ⟨rfl, rfl, rfl, Nat.le_refl _, fun _ _ => rfl⟩
    have Hc1 := Lib.hid (fun W (hW : Below wS.heap.size wS W) => LassoOk_any _ ya _ l W (hyi.kept (Kept.of hW)) (hlt.kept (Kept.of hW)))
    have Hc2 := Lib.hid (fun W (hW : Below wS.heap.size wS W) => PlayWon_any _ g _ l W (hg.kept (Kept.of hW)) (hlt.kept (Kept.of hW)))
    have Hc3 := Lib.hid (fun W (hW : Below wS.heap.size wS W) => specPlayWon_any _ g _ l W (hg.kept (Kept.of hW)) (hlt.kept (Kept.of hW)))
    have Hc4 := Lib.hid (fun W (hW : Below wS.heap.size wS W) => FullIn_any _ g.arena 0 _ even W (ha.kept (Kept.of hW)) (hev6.kept (Kept.of hW)))
    have Hc5 := Lib.hid (fun W (hW : Below wS.heap.size wS W) => implPlanOk_any _ g.arena 1 _ odd W (ha.kept (Kept.of hW)) (hod6.kept (Kept.of hW)))
    clear hX0 hY0 hV0 hg ha hev6 hod6 hlt hyi Hx Hy Hxo Hyo Hl1 Hf Hs Hpk Hll
    go_region_held3 (fun W => W.cell? ⟨X, 0, none⟩ = some (.slice A g.arena.owner.length ac) ∧ W.cell? ⟨X, 1, none⟩ = some (.slice A' g.arena.next.length ac') ∧ W.cell? ⟨X, 2, none⟩ = some (.slice P g.prio.length pc) ∧ W.cell? ⟨Y, 0, none⟩ = some (.slice S l.fst.length sc) ∧ W.cell? ⟨Y, 1, none⟩ = some (.slice T l.snd.length tc) ∧ W.cell? ⟨V, 0, none⟩ = some (.slice YA ya.owner.length yc) ∧ W.cell? ⟨V, 1, none⟩ = some (.slice YB ya.next.length yd))
      (first | exact HSS.out _ hR0 | exact HSS.out _ hR1 | exact HSS.out _ hR2 | exact HSS.out _ hR3 | exact HSS.out _ hR4 | exact HSS.out _ hR5)
      (first | (go_at_call 13; refine (Hc1.out _ hR0).mono ?_; rintro e w6x ⟨rfl, hb6⟩; rw [Hl2.out]; have hR1 := Below.up hR0 hb6) | (go_at_call 16; refine (Hc2.out _ hR1).mono ?_; rintro e w7x ⟨rfl, hb7⟩; have hR2 := Below.up hR1 hb7) | (go_at_call 17; refine (Hc3.out _ hR2).mono ?_; rintro e w8x ⟨rfl, hb8⟩; have hR3 := Below.up hR2 hb8) | (go_at_call 18; refine (Hc4.out _ hR3).mono ?_; rintro e w9x ⟨rfl, hb9⟩; rw [Hful.out]; have hR4 := Below.up hR3 hb9) | (go_at_call 19; refine (Hc5.out _ hR4).mono ?_; rintro e wax ⟨rfl, hba⟩; rw [Hpo.out]; have hR5 := Below.up hR4 hba))
    all_goals
      go_wp2
      go_ret
      exact ⟨rfl, hbw.trans (hR5.mono hbw.size)⟩
  · have hd : decide (4096 < l0) = true := by simp; omega
    rw [hd] at Hbig
    clear hd
    go_enter Try.func3, Try.ntmps3
    go_wp2_with fail
    refine Hbig.out.mono ?_
    rintro e w0 ⟨rfl, hw0⟩
    subst w0
    go_wp2
    go_ret
    exact ⟨rfl, Below.refl _ _⟩
end Go.Proofs.Ytogfpalgnjlfcaa
