/- The law on attractors: the attractor strategy forces a visit of the goal, and what is not attracted is a trap. -/
import Derived.Test.YtogfpalgnjlfcaaTable
import Derived.Test.YtogfpalgnjlfcaaAttractsFit
import Derived.Test.YtogfpalgnjlfcaaPlaysFit
import Derived.Test.YtogfpalgnjlfcaaRankWalks5
namespace Go.Proofs.Ytogfpalgnjlfcaa
set_option linter.unusedSimpArgs false
set_option linter.unusedVariables false
open Go.RowKit

set_option maxRecDepth 100000 in
set_option maxHeartbeats 16000000 in
theorem FnAttracts_true (v0 : Value) (l0 : Nat) (w : World) (hl0 : Bytes w v0 l0) :
    Calls Try.prog 4 #[v0] w fun e w' => e = .returned (.bool true) ∧ Below w.heap.size w w' := by
  have Hbig := Lib.hid (big_any v0 l0 w hl0)
  obtain ⟨BA, bc, rfl, hbl, hbm⟩ := hl0.form
  by_cases hn : l0 ≤ 4096
  · have hd : decide (4096 < l0) = false := by simp; omega
    rw [hd] at Hbig
    clear hd
    go_enter Try.func4, Try.ntmps4
    go_wp2_with fail
    refine Hbig.out.mono ?_
    rintro e w0 ⟨rfl, hw0⟩
    subst w0
    go_wp2_with fail
    refine (roll_any _ l0 603 _ hl0 hn (by omega)).mono ?_
    rintro e w1 ⟨C, rfl, hC, hdie, hbw⟩
    clear Hbig
    have hCl := hdie.lt
    go_wp2_with fail
    refine (w5Game_any C _ l0 9 _ (by omega) (by omega) hdie).mono ?_
    rintro e w2 ⟨ug, g, rfl, hop, hok, hg9, hd2⟩
    replace hbw := Below.drawn hbw hC hd2.2
    obtain ⟨A, ac, A', ac', P, pc, rfl⟩ := hop.form
    have hT := Tab.new hd2 hCl hop
    have hbx := (Below.refl w2.heap.size w2).alloc (Nat.le_refl _) (.cells #[.slice A g.arena.owner.length ac, .slice A' g.arena.next.length ac', .slice P g.prio.length pc] 32)
    replace hbw := Below.up hbw hbx
    have hZ0 := Arr.new (w2.alloc (.cells #[.slice A g.arena.owner.length ac, .slice A' g.arena.next.length ac', .slice P g.prio.length pc] 32)) 30 [.slice A g.arena.owner.length ac, .slice A' g.arena.next.length ac']
    have hby := (Below.refl (w2.alloc (.cells #[.slice A g.arena.owner.length ac, .slice A' g.arena.next.length ac', .slice P g.prio.length pc] 32)).heap.size (w2.alloc (.cells #[.slice A g.arena.owner.length ac, .slice A' g.arena.next.length ac', .slice P g.prio.length pc] 32))).alloc (Nat.le_refl _) (.cells #[.slice A g.arena.owner.length ac, .slice A' g.arena.next.length ac'] 30)
    have p0 := hT.box.c0
    have p1 := hT.box.c1
    replace hT := hT.below hby
    replace hbw := Below.up hbw hby
    clear hop hd2 hdie hbx hby
    have q0 := hZ0.c0
    have q1 := hZ0.c1
    go_wp2_with fail
    clear p0 p1
    have hZs : (w2.alloc (.cells #[.slice A g.arena.owner.length ac, .slice A' g.arena.next.length ac', .slice P g.prio.length pc] 32)).heap.size = w2.heap.size + 1 := by simp
    rw [hZs] at hZ0
    clear hZs
    obtain ⟨X, hX⟩ : ∃ X, w2.heap.size = X := ⟨_, rfl⟩
    obtain ⟨D, hD⟩ : ∃ D, w1.heap.size = D := ⟨_, rfl⟩
    rw [hX] at hT hZ0
    rw [hD] at hT
    rw [hD] at hCl
    clear q0 q1
    generalize (w2.alloc (.cells #[.slice A g.arena.owner.length ac, .slice A' g.arena.next.length ac', .slice P g.prio.length pc] 32)).alloc (.cells #[.slice A g.arena.owner.length ac, .slice A' g.arena.next.length ac'] 30) = w3 at *
    have hXC : C < X := Nat.lt_of_lt_of_le hT.lt hT.le
    have hZC : C < X + 1 := by omega
    refine (below_any C _ l0 2 _ hT.die (by omega) (by omega)).mono ?_
    rintro e w4 ⟨who, rfl, hx0, hx1, hd4⟩
    have hwho : who = 0 ∨ who = 1 := by omega
    clear hx0 hx1
    replace hT := hT.rolled hd4
    replace hbw := Below.drawn hbw hC hd4.2
    replace hZ0 := (hd4.2.block (X + 1) hZ0.lt (by omega)).trans hZ0
    have hle9 : g.arena.owner.length ≤ 256 := hok.arena.le
    clear hd4
    go_wp2_with fail
    refine (w5Set_any C _ l0 g.arena.owner.length _ hT.die hle9).mono ?_
    rintro e w5 ⟨ugl, goal, rfl, hgo, hgs, hd5⟩
    have hC4 : C < w4.heap.size := by have := hT.die.lt; exact this
    replace hT := hT.rolled hd5
    replace hbw := Below.drawn hbw hC hd5.2
    replace hZ0 := Eq.trans (hd5.2.block (X + 1) (by first | exact hZ0.lt | exact Arr.lt hZ0) (by omega)) hZ0
    have hgoi := hgo.ints
    obtain ⟨GA, gc, hgf, _⟩ := hgoi.form
    subst hgf
    have hs5 := hd5.2.size
    clear hd5
    go_wp2_with fail
    refine (specAllOf_any (g.arena.owner.length : Int) _).mono ?_
    rintro e w6 ⟨ua, rfl, hal, hbx⟩
    rw [allL_upFrom hle9] at hal
    have hali := hal.ints
    obtain ⟨LA, lc, haf, _⟩ := hali.form
    rw [length_upFrom] at haf
    subst haf
    replace hT := hT.below hbx
    replace hbw := Below.up hbw hbx
    replace hZ0 := Arr.below hZ0 hbx (Arr.lt hZ0)
    replace hgo := hgo.below hbx (Nat.le_refl _)
    replace hgoi := hgoi.kept (Kept.of hbx)
    have hs6 := hbx.size
    clear hbx
    have q0 := Arr.c0 hZ0
    have q1 := Arr.c1 hZ0
    go_wp2_with fail
    clear q0 q1
    refine (Attract_any _ g.arena who _ (upFrom 0 g.arena.owner.length) _ goal _ hT.arena hali hgoi).mono ?_
    rintro e w7 ⟨us, rfl, hqs, hbx⟩
    have Hfit := Lib.hid (attracts_fit hok.arena hwho hgs)
    have Htrap := Lib.hid (rest_trap hok.arena hwho hgs)
    have HcQ := Lib.hid (fun W (hA : IsArena W (.agg #[.slice A g.arena.owner.length ac, .slice A' g.arena.next.length ac']) g.arena) (h1 : Ints W (.slice LA g.arena.owner.length lc) (upFrom 0 g.arena.owner.length)) (h2 : Ints W (.slice GA goal.length gc) goal) => PullIn_any _ g.arena who _ (upFrom 0 g.arena.owner.length) _ goal W hA h1 h2)
    have HcS := Lib.hid (fun W (hA : IsArena W (.agg #[.slice A g.arena.owner.length ac, .slice A' g.arena.next.length ac']) g.arena) (h1 : Ints W (.slice LA g.arena.owner.length lc) (upFrom 0 g.arena.owner.length)) (h2 : Ints W (.slice GA goal.length gc) goal) => specAttract_any _ g.arena who _ (upFrom 0 g.arena.owner.length) _ goal W hA h1 h2)
    obtain ⟨q, hqe⟩ : ∃ q, attrG g.arena who (upFrom 0 g.arena.owner.length) goal = q := ⟨_, rfl⟩
    obtain ⟨p, hpe⟩ : ∃ p, pullG g.arena who (upFrom 0 g.arena.owner.length) goal = p := ⟨_, rfl⟩
    obtain ⟨r, hre⟩ : ∃ r, ranksG g.arena who (upFrom 0 g.arena.owner.length) goal = r := ⟨_, rfl⟩
    rw [hqe] at hqs Htrap HcS
    rw [hqe, hpe, hre] at Hfit
    rw [hpe] at HcQ
    clear hqe hpe hre
    have hqi := hqs.ints
    obtain ⟨SA, sc, hsf, _⟩ := hqi.form
    subst hsf
    replace hT := hT.below hbx
    replace hbw := Below.up hbw hbx
    replace hZ0 := Arr.below hZ0 hbx (Arr.lt hZ0)
    replace hgo := hgo.below hbx (Nat.le_refl _)
    replace hgoi := hgoi.kept (Kept.of hbx)
    replace hal := hal.below hbx (Nat.le_refl _)
    replace hali := hali.kept (Kept.of hbx)
    have hs7 := hbx.size
    clear hbx
    have q0 := Arr.c0 hZ0
    have q1 := Arr.c1 hZ0
    go_wp2_with fail
    clear q0 q1
    refine (HcQ.out _ hT.arena hali hgoi).mono ?_
    rintro e w8 ⟨up, rfl, hps, hbx⟩
    clear HcQ
    have hpi := hps.ints
    obtain ⟨PA, pac, hpf, _⟩ := hpi.form
    rw [Hfit.out.plen] at hpf
    subst hpf
    replace hT := hT.below hbx
    replace hbw := Below.up hbw hbx
    replace hZ0 := Arr.below hZ0 hbx (Arr.lt hZ0)
    replace hgo := hgo.below hbx (Nat.le_refl _)
    replace hgoi := hgoi.kept (Kept.of hbx)
    replace hal := hal.below hbx (Nat.le_refl _)
    replace hali := hali.kept (Kept.of hbx)
    replace hqs := hqs.below hbx (Nat.le_refl _)
    replace hqi := hqi.kept (Kept.of hbx)
    have hs8 := hbx.size
    clear hbx
    have q0 := Arr.c0 hZ0
    have q1 := Arr.c1 hZ0
    go_wp2_with fail
    clear q0 q1
    refine (HcS.out _ hT.arena hali hgoi).mono ?_
    rintro e w9 ⟨us2, rfl, hq2, hbx⟩
    clear HcS
    have hq2i := hq2.ints
    obtain ⟨S2, s2c, hsf, _⟩ := hq2i.form
    subst hsf
    replace hT := hT.below hbx
    replace hbw := Below.up hbw hbx
    replace hZ0 := Arr.below hZ0 hbx (Arr.lt hZ0)
    replace hgo := hgo.below hbx (Nat.le_refl _)
    replace hgoi := hgoi.kept (Kept.of hbx)
    replace hal := hal.below hbx (Nat.le_refl _)
    replace hali := hali.kept (Kept.of hbx)
    replace hqs := hqs.below hbx (Nat.le_refl _)
    replace hqi := hqi.kept (Kept.of hbx)
    replace hps := hps.below hbx (Nat.le_refl _)
    have hs9 := hbx.size
    clear hbx
    go_wp2_with fail
    refine (drew_below (likeInts_any _ _ q q _ hqi hq2i)).mono ?_
    rintro e wa ⟨rfl, hbx⟩
    rw [decide_eq_true rfl]
    replace hT := hT.below hbx
    replace hbw := Below.up hbw hbx
    replace hZ0 := Arr.below hZ0 hbx (Arr.lt hZ0)
    replace hgo := hgo.below hbx (Nat.le_refl _)
    replace hal := hal.below hbx (Nat.le_refl _)
    replace hqs := hqs.below hbx (Nat.le_refl _)
    replace hps := hps.below hbx (Nat.le_refl _)
    have hsa := hbx.size
    clear hbx hq2 hq2i hgoi hali hqi hpi
    have q0 := Arr.c0 hZ0
    have q1 := Arr.c1 hZ0
    go_wp2_with fail
    clear q0 q1
    refine (w5Plan_any C _ l0 _ g.arena (1 - who) D X _ hT.die hT.game.oa.1 hT.lt hT.size hok.arena).mono ?_
    rintro e wb ⟨ue, other, rfl, hev, hfe, hdb⟩
    replace hT := hT.rolled hdb
    replace hbw := Below.drawn hbw hC hdb.2
    replace hZ0 := Eq.trans (hdb.2.block (X + 1) (Arr.lt hZ0) (by omega)) hZ0
    have hgoi := (hgo.rolled hdb hC4).ints
    have hali := (hal.rolled hdb (by omega)).ints
    have hqi := (hqs.rolled hdb (by omega)).ints
    have hpi := (hps.rolled hdb (by omega)).ints
    have hoi := hev.ints
    obtain ⟨OA', oc', hof, _⟩ := hoi.form
    have hol := (full_plan hfe).len
    rw [hol] at hof
    subst hof
    have Hfull := Lib.hid (fun (v : Nat) (hv : v < g.arena.owner.length) (ho : ix g.arena.owner v ≠ who) => full_at hfe hv (show ix g.arena.owner v = 1 - who by have := hok.arena.owner hv; rcases hwho with rfl | rfl <;> omega))
    have Hol := Lib.hid hol
    have hown := hT.arena.parts.1
    have ha := hT.arena
    have hset := Lib.hid (show (upFrom 0 g.arena.owner.length).length ≤ 1099511627776 by rw [length_upFrom]; omega)
    clear hgo hal hqs hps hev hfe hdb hT hs5 hs6 hs7 hs8 hs9 hsa hC4 hXC hZC hCl hok hg9 hgs hol
    go_wp2_with fail
    go_loopw [13] (fun i wr => ∃ k : Nat, k ≤ q.length ∧ i = .int .i64 k ∧ Below wb.heap.size wb wr) (fun i _ => q.length - (intOf i).toNat)
    case atStart => exact ⟨0, Nat.zero_le _, rfl, Below.refl _ _⟩
    case round =>
      obtain ⟨k, hk, rfl, hbr⟩ := hrel
      by_cases hlt : k < q.length
      · have hlt2 : (k : Int) < q.length := by omega
        obtain ⟨b1, e1, hc1⟩ := (hqi.kept (Kept.of hbr)).at_ hlt
        subst e1
        obtain ⟨j0, hj0, hjn0, hr0, hrn0⟩ := Hfit.out.has k hlt
        rw [hj0] at hc1
        go_wp2_with fail
        go_loopw [14, 15] (fun jv tv wr => ∃ j t : Nat, jv = .int .i64 j ∧ tv = .int .i64 t ∧ j < g.arena.owner.length ∧ Hid (0 ≤ ix r j ∧ ix r j + t ≤ g.arena.owner.length) ∧ Below wb.heap.size wb wr) (fun _ tv _ => g.arena.owner.length + 1 - (intOf tv).toNat)
        case atStart => exact ⟨j0, 0, rfl, rfl, hjn0, Lib.hid ⟨hr0, by simpa using hrn0⟩, hbr⟩
        case round =>
          clear hbr hc1
          obtain ⟨j, t, rfl, rfl, hj, Hr, hbr⟩ := hrel
          have hjn2 : (j : Int) < g.arena.owner.length := by omega
          have htn : (t : Int) ≤ g.arena.owner.length := by have := Hr.out; omega
          cases hh : hasInB goal (j : Int)
          · have hpos : 0 < ix r j := by
              have h1 := Hr.out.1
              have h2 : ix r j ≠ 0 := fun e => by rw [Hfit.out.goal_ j hj e] at hh; cases hh
              omega
            have Hpos := Lib.hid hpos
            have Hh := Lib.hid hh
            clear hpos hh
            go_wp2_with fail
            refine (drew_below (specHasIn_any _ goal _ _ (hgoi.kept (Kept.of hbr)))).mono ?_
            rintro e wc ⟨rfl, hb8⟩
            rw [Hh.out]
            have hbc : Below wb.heap.size wb wc := hbr.trans (hb8.mono hbr.size)
            have hZ1 : Arr wc (X + 1) 30 _ := Arr.below hZ0 hbc (Arr.lt hZ0)
            have q0 := hZ1.c0
            obtain ⟨b2, e2, hc2⟩ := (hown.kept (Kept.of hbc)).at_ hj
            cases e2
            by_cases ho : ix g.arena.owner j = who
            · obtain ⟨j2, hj2, hjn3, hr2⟩ := Hfit.out.mine j hj ho Hpos.out
              obtain ⟨b3, e3, hc3⟩ := (hpi.kept (Kept.of hbc)).at_ (k := j) (by rw [Hfit.out.plen]; exact hj)
              cases e3
              rw [hj2] at hc3
              have hd1 : ¬ (j2 : Int) < 0 := by omega
              have hd2 : ¬ (g.arena.owner.length : Int) ≤ (j2 : Int) := by omega
              go_wp2_with fail
              exact ⟨⟨j2, t + 1, by go_num, by go_num, hjn3, Lib.hid ⟨by have := Hpos.out; omega, by have := Hr.out; push_cast; omega⟩, hbc⟩, by simp [intOf]; omega⟩
            · obtain ⟨j2, hj2, hjn3, hr2, hr3⟩ := Hfit.out.theirs j hj ho Hpos.out _ (Hfull.out j hj ho)
              obtain ⟨b3, e3, hc3⟩ := (hoi.kept (Kept.of hbc)).at_ (k := j) (by rw [Hol.out]; exact hj)
              cases e3
              rw [hj2] at hc3
              have hd1 : ¬ (j2 : Int) < 0 := by omega
              have hd2 : ¬ (g.arena.owner.length : Int) ≤ (j2 : Int) := by omega
              go_wp2_with fail
              exact ⟨⟨j2, t + 1, by go_num, by go_num, hjn3, Lib.hid ⟨hr2, by have := Hr.out; push_cast; omega⟩, hbc⟩, by simp [intOf]; omega⟩
          · have Hh := Lib.hid hh
            clear hh
            go_wp2_with fail
            refine (drew_below (specHasIn_any _ goal _ _ (hgoi.kept (Kept.of hbr)))).mono ?_
            rintro e wc ⟨rfl, hb8⟩
            rw [Hh.out]
            have hbc : Below wb.heap.size wb wc := hbr.trans (hb8.mono hbr.size)
            go_wp2_with fail
            refine (drew_below (specHasIn_any _ goal _ _ (hgoi.kept (Kept.of hbc)))).mono ?_
            rintro e wd ⟨rfl, hb9⟩
            rw [Hh.out]
            have hbd : Below wb.heap.size wb wd := hbc.trans (hb9.mono hbc.size)
            go_wp2_with fail
            exact ⟨⟨k + 1, by omega, by go_num, hbd⟩, by simp [intOf]; omega⟩
      · obtain rfl : k = q.length := by omega
        have hlt2 : ¬ ((q.length : Nat) : Int) < q.length := by omega
        go_wp2_with fail
        refine (specLessOf_any _ _ (upFrom 0 g.arena.owner.length) q _ (hali.kept (Kept.of hbr)) (hqi.kept (Kept.of hbr)) hset.out).mono ?_
        rintro e wc ⟨ur, rfl, hrs, hbx⟩
        have hbc : Below wb.heap.size wb wc := hbr.trans (hbx.mono hbr.size)
        have hri := hrs.ints
        obtain ⟨RA, rac, hrf, _⟩ := hri.form
        have hZ1 : Arr wc (X + 1) 30 _ := Arr.below hZ0 hbc (Arr.lt hZ0)
        have q0 := hZ1.c0
        have q1 := hZ1.c1
        obtain ⟨rest, hrest⟩ : ∃ rest, LessOf (upFrom 0 g.arena.owner.length) q = rest := ⟨_, rfl⟩
        rw [hrest] at hri hrf Htrap
        subst hrf
        clear hrest hbx hrs
        go_wp2_with fail
        clear q0 q1
        refine (TrapIn_any _ g.arena who _ rest _ (ha.kept (Kept.of hbc)) hri).mono ?_
        rintro e wd ⟨rfl, hbx⟩
        rw [Htrap.out.1]
        have hbd : Below wb.heap.size wb wd := hbc.trans (hbx.mono hbc.size)
        have hZ2 : Arr wd (X + 1) 30 _ := Arr.below hZ0 hbd (Arr.lt hZ0)
        have q0 := hZ2.c0
        have q1 := hZ2.c1
        go_wp2_with fail
        refine (EscapesIn_any _ g.arena who _ rest _ (ha.kept (Kept.of hbd)) (hri.kept (Kept.of hbx))).mono ?_
        rintro e we ⟨uz, rfl, hz, hbz⟩
        rw [Htrap.out.2] at hz
        obtain ⟨ZA, zc, hzf, _⟩ := hz.ints.form
        subst hzf
        have hbe : Below wb.heap.size wb we := hbd.trans (hbz.mono hbd.size)
        go_wp2
        go_ret
        exact ⟨rfl, hbw.trans (hbe.mono hbw.size)⟩
  · have hd : decide (4096 < l0) = true := by simp; omega
    rw [hd] at Hbig
    clear hd
    go_enter Try.func4, Try.ntmps4
    go_wp2_with fail
    refine Hbig.out.mono ?_
    rintro e w0 ⟨rfl, hw0⟩
    subst w0
    go_wp2
    go_ret
    exact ⟨rfl, Below.refl _ _⟩
end Go.Proofs.Ytogfpalgnjlfcaa
