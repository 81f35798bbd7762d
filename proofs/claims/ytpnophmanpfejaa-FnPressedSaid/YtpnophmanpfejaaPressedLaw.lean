/- The law that what Pressed answers is pressed. -/
import Derived.Test.YtpnophmanpfejaaDrawPress3
import Derived.Test.YtpnophmanpfejaaPressSpec
import Derived.Test.YtpnophmanpfejaaPressLaw
namespace Go.Proofs.Ytpnophmanpfejaa
set_option linter.unusedSimpArgs false
set_option linter.unusedVariables false
open Go.RowKit

set_option maxRecDepth 100000 in
set_option maxHeartbeats 16000000 in
theorem FnPressed_true (v0 : Value) (l0 : Nat) (w : World) (hl0 : Bytes w v0 l0) :
    Calls Try.prog 13 #[v0] w fun e w' => e = .returned (.bool true) ∧ Below w.heap.size w w' := by
  have Hbig := Lib.hid (big_any v0 l0 w hl0)
  obtain ⟨BA, bc, rfl, hbl, hbm⟩ := hl0.form
  by_cases hn : l0 ≤ 4096
  · have hd : decide (4096 < l0) = false := by simp; omega
    rw [hd] at Hbig
    clear hd
    go_enter Try.func13, Try.ntmps13
    go_wp2_with fail
    refine Hbig.out.mono ?_
    rintro e w0 ⟨rfl, hw0⟩
    subst w0
    go_wp2_with fail
    refine (DrawPressed_any _ l0 _ hl0 hn).mono ?_
    rintro e w1 ⟨ua, g, rfl, hg, hbig, hpl, hb1⟩
    clear Hbig
    obtain ⟨on, nn, pn, rfl⟩ := hg.open
    obtain ⟨hga, hgp⟩ := hg.parts
    obtain ⟨hgo, hgn⟩ := hga.parts
    obtain ⟨A, ac, rfl, _⟩ := hgo.form
    obtain ⟨A', ac', rfl, _⟩ := hgn.form
    obtain ⟨A2, ac2, rfl, _⟩ := hgp.form
    have hX0 := Arr.new w1 32 [.slice A g.arena.owner.length ac, .slice A' g.arena.next.length ac', .slice A2 g.prio.length ac2]
    have hbX := (Below.refl w1.heap.size w1).alloc (Nat.le_refl _) (.cells #[.slice A g.arena.owner.length ac, .slice A' g.arena.next.length ac', .slice A2 g.prio.length ac2] 32)
    have hb2 := Below.up hb1 hbX
    replace hg := hg.kept (Kept.of hbX)
    replace hgp := hgp.kept (Kept.of hbX)
    have q0 := hX0.c0
    have q1 := hX0.c1
    have q2 := hX0.c2
    clear hb1 hbX hgo hgn hga
    go_wp2_with fail
    have hXl := hX0.lt
    obtain ⟨X, hX⟩ : ∃ X, w1.heap.size = X := ⟨_, rfl⟩
    rw [hX] at hX0 hXl
    clear q0 q1 q2
    generalize w1.alloc (.cells #[.slice A g.arena.owner.length ac, .slice A' g.arena.next.length ac', .slice A2 g.prio.length ac2] 32) = w2 at *
    refine (Pressed_any _ g _ hg).mono ?_
    rintro e w3 ⟨z, rfl, hz, hbx⟩
    obtain ⟨Z, zc, Z', zc', Z2, zc2, rfl⟩ := hz.form
    have hzp := hz.parity
    replace hX0 := hX0.below hbx hXl
    replace hg := hg.kept (Kept.of hbx)
    replace hgp := hgp.kept (Kept.of hbx)
    have hb3 := Below.up hb2 hbx
    have hs3 := hbx.size
    clear hb2 hbx hz
    have hY0 := Arr.new w3 32 [.slice Z (pressG g).arena.owner.length zc, .slice Z' (pressG g).arena.next.length zc', .slice Z2 (pressG g).prio.length zc2]
    have hbY := (Below.refl w3.heap.size w3).alloc (Nat.le_refl _) (.cells #[.slice Z (pressG g).arena.owner.length zc, .slice Z' (pressG g).arena.next.length zc', .slice Z2 (pressG g).prio.length zc2] 32)
    replace hX0 := hX0.below hbY (by omega)
    replace hg := hg.kept (Kept.of hbY)
    replace hgp := hgp.kept (Kept.of hbY)
    replace hzp := hzp.kept (Kept.of hbY)
    replace hb3 := Below.up hb3 hbY
    have q0 := hX0.c0
    have q1 := hX0.c1
    have q2 := hX0.c2
    clear hbY hs3
    go_wp2_with fail
    obtain ⟨Y, hY⟩ : ∃ Y, w3.heap.size = Y := ⟨_, rfl⟩
    rw [hY] at hY0
    clear q0 q1 q2
    generalize w3.alloc (.cells #[.slice Z (pressG g).arena.owner.length zc, .slice Z' (pressG g).arena.next.length zc', .slice Z2 (pressG g).prio.length zc2] 32) = w4 at *
    refine (specParityOk_any _ g _ hg).mono ?_
    rintro e w5 ⟨rfl, hbx⟩
    replace hX0 := hX0.below hbx hX0.lt
    replace hY0 := hY0.below hbx hY0.lt
    replace hg := hg.kept (Kept.of hbx)
    replace hgp := hgp.kept (Kept.of hbx)
    replace hzp := hzp.kept (Kept.of hbx)
    replace hb3 := Below.up hb3 hbx
    clear hbx hXl
    cases hk : parityOkB g
    · have hq : pressG g = ⟨⟨[], []⟩, []⟩ := by unfold pressG; rw [hk]; rfl
      rw [hq] at hY0
      have q0 := hY0.c2
      rw [hq]
      go_wp2
      go_ret
      exact ⟨rfl, hb3⟩
    · have hok := parityOkB_iff.1 hk
      have hq : pressG g = pressP g := by unfold pressG; rw [hk]; rfl
      have Hsame := Lib.hid (press_same hok)
      have Hidem := Lib.hid (press_idem hok)
      have HcP := Lib.hid (fun W (hW : Below w5.heap.size w5 W) => (show Calls Try.prog 39 #[.agg #[.slice A g.arena.owner.length ac, .slice A' g.arena.next.length ac', .slice A2 g.prio.length ac2]] W (RetPar W (pressP g)) from by
        have h := specPressed_any _ g W (hg.kept (Kept.of hW))
        rwa [hq] at h))
      have Hplen := Lib.hid (press_len g)
      have Hmod := Lib.hid (fun v (hv : v < g.prio.length) => press_mod hv)
      have Hle := Lib.hid (fun v (hv : v < g.prio.length) => press_le hok hv)
      have Hmono := Lib.hid (fun v u (hv : v < g.prio.length) (hu : u < g.prio.length) => press_mono hv hu)
      have Hpos := Lib.hid hok.prio
      rw [hq] at hzp hY0
      rw [hq]
      clear hq hk hok
      obtain ⟨q, hqe⟩ : ∃ q, pressP g = q := ⟨_, rfl⟩
      rw [hqe] at hzp hY0 Hsame Hidem HcP Hplen Hmod Hle Hmono
      rw [hqe]
      clear hqe
      have HcQ := Lib.hid (fun W (hW : Below w5.heap.size w5 W) => (show Calls Try.prog 40 #[.agg #[.slice Z q.arena.owner.length zc, .slice Z' q.arena.next.length zc', .slice Z2 q.prio.length zc2]] W (RetPar W q) from by
        have h := Pressed_any _ q W (hzp.kept (Kept.of hW))
        rwa [Hidem.out] at h))
      have HSS := Lib.hid (fun W (hW : Below w5.heap.size w5 W) => (show W.cell? ⟨X, 0, none⟩ = some (.slice A g.arena.owner.length ac) ∧ W.cell? ⟨X, 1, none⟩ = some (.slice A' g.arena.next.length ac') ∧ W.cell? ⟨X, 2, none⟩ = some (.slice A2 g.prio.length ac2) ∧ W.cell? ⟨Y, 0, none⟩ = some (.slice Z q.arena.owner.length zc) ∧ W.cell? ⟨Y, 1, none⟩ = some (.slice Z' q.arena.next.length zc') ∧ W.cell? ⟨Y, 2, none⟩ = some (.slice Z2 q.prio.length zc2) from
        ⟨(hX0.below hW hX0.lt).c0, (hX0.below hW hX0.lt).c1, (hX0.below hW hX0.lt).c2, (hY0.below hW hY0.lt).c0, (hY0.below hW hY0.lt).c1, (hY0.below hW hY0.lt).c2⟩))
      have hR0 : Below w5.heap.size w5 w5.drew := ⟨rfl, rfl, rfl, Nat.le_refl _, fun _ _ => rfl⟩
      have Hsq := Lib.hid (fun W (hW : Below w5.heap.size w5 W) => hzp.kept (Kept.of hW))
      go_wp2_with fail
      go_region_held3 (fun W => W.cell? ⟨X, 0, none⟩ = some (.slice A g.arena.owner.length ac) ∧ W.cell? ⟨X, 1, none⟩ = some (.slice A' g.arena.next.length ac') ∧ W.cell? ⟨X, 2, none⟩ = some (.slice A2 g.prio.length ac2) ∧ W.cell? ⟨Y, 0, none⟩ = some (.slice Z q.arena.owner.length zc) ∧ W.cell? ⟨Y, 1, none⟩ = some (.slice Z' q.arena.next.length zc') ∧ W.cell? ⟨Y, 2, none⟩ = some (.slice Z2 q.prio.length zc2))
        (first | exact HSS.out _ hR0 | exact HSS.out _ hR1 | exact HSS.out _ hR2 | exact HSS.out _ hR3 | exact HSS.out _ hR4)
        (first | (go_at_call 39; refine (HcP.out _ hR0).mono ?_; rintro e w6 ⟨r1, rfl, hr1, hb6⟩; have hR1 := Below.up hR0 hb6) | (go_at_call 66; refine (specSameParity_any _ q _ q _ (Hsq.out _ hR1) hr1.parity).mono ?_; rintro e w7 ⟨rfl, hb7⟩; rw [Hsame.out]; have hR2 := Below.up hR1 hb7) | (go_at_call 40; refine (HcQ.out _ hR2).mono ?_; rintro e w8 ⟨r2, rfl, hr2, hb8⟩; have hR3 := Below.up hR2 hb8) | (go_at_call 67; refine (SameParity_any _ q _ q _ hr2.parity (Hsq.out _ hR3)).mono ?_; rintro e w9 ⟨rfl, hb9⟩; rw [Hsame.out]; have hR4 := Below.up hR3 hb9))
      all_goals
        clear HcP HcQ Hsame Hidem hg hX0 hY0
        have hzq := hzp.parts.2
        clear hzp Hsq
        go_wp2_with fail
        go_loopw [5] (fun i wr => ∃ k : Nat, k ≤ g.prio.length ∧ i = .int .i64 k ∧ Below w5.heap.size w5 wr) (fun i _ => g.prio.length - (intOf i).toNat)
        case atStart => exact ⟨0, Nat.zero_le _, rfl, hR4⟩
        case round =>
          clear hR0 hR1 hR2 hR3 hR4 hr1 hr2 hb6 hb7 hb8 hb9
          obtain ⟨k, hk, rfl, hbr⟩ := hrel
          by_cases hlt : k < g.prio.length
          · have hlt2 : (k : Int) < g.prio.length := by omega
            have hltq : k < q.prio.length := by rw [Hplen.out]; exact hlt
            have hltq2 : (k : Int) < q.prio.length := by omega
            have hm := Hmod.out k hlt
            obtain ⟨hl, hl'⟩ := Hle.out k hlt
            obtain ⟨hp0, hp1⟩ := Hpos.out k hlt
            have hng : ¬ ix g.prio k < ix q.prio k := by omega
            have Hmk := Lib.hid (fun u (hu : u < g.prio.length) (h : ix g.prio k < ix g.prio u) => Hmono.out k u hlt hu h)
            obtain ⟨c0, c1, c2, c3, c4, c5⟩ := HSS.out _ hbr
            obtain ⟨b1, e1, hc1⟩ := (hgp.kept (Kept.of hbr)).at_ hlt
            obtain ⟨b2, e2, hc2⟩ := (hzq.kept (Kept.of hbr)).at_ hltq
            subst e1
            subst e2
            go_wp2_with fail
            go_region
            go_wp2_with fail
            have hbr' := below_drwD hbr
            clear c0 c1 c2 c3 c4 c5 hc1 hc2 hm hng
            go_loopw [6] (fun i wr => ∃ u : Nat, u ≤ g.prio.length ∧ i = .int .i64 u ∧ Below w5.heap.size w5 wr) (fun i _ => g.prio.length - (intOf i).toNat)
            case atStart => exact ⟨0, Nat.zero_le _, rfl, hbr'⟩
            case round =>
              clear hbr hbr'
              obtain ⟨u, hu, rfl, hbr⟩ := hrel
              obtain ⟨c0, c1, c2, c3, c4, c5⟩ := HSS.out _ hbr
              by_cases hlu : u < g.prio.length
              · have hlu2 : (u : Int) < g.prio.length := by omega
                have hluq : u < q.prio.length := by rw [Hplen.out]; exact hlu
                have hluq2 : (u : Int) < q.prio.length := by omega
                obtain ⟨b1', e1, hc1⟩ := (hgp.kept (Kept.of hbr)).at_ hlt
                obtain ⟨b2', e2, hc2⟩ := (hzq.kept (Kept.of hbr)).at_ hltq
                obtain ⟨b3, e3, hc3⟩ := (hgp.kept (Kept.of hbr)).at_ hlu
                obtain ⟨b4, e4, hc4⟩ := (hzq.kept (Kept.of hbr)).at_ hluq
                cases e1
                cases e2
                cases e3
                cases e4
                by_cases hvu : ix g.prio k < ix g.prio u
                · have hmo := Hmk.out u hlu hvu
                  have hng : ¬ ix q.prio u < ix q.prio k := by omega
                  have hvd : decide (ix g.prio k < ix g.prio u) = true := decide_eq_true hvu
                  go_wp2_with fail
                  go_region
                  go_wp2
                  exact ⟨⟨u + 1, by omega, by go_num, below_drwD hbr⟩, by simp [intOf]; omega⟩
                · have hvd : decide (ix g.prio k < ix g.prio u) = false := decide_eq_false hvu
                  have hvl : ix g.prio u ≤ ix g.prio k := by omega
                  go_wp2_with fail
                  go_region
                  go_wp2
                  exact ⟨⟨u + 1, by omega, by go_num, below_drwD hbr⟩, by simp [intOf]; omega⟩
              · obtain rfl : u = g.prio.length := by omega
                have hlu2 : ¬ ((g.prio.length : Nat) : Int) < g.prio.length := by omega
                go_wp2
                exact ⟨⟨k + 1, by omega, by go_num, hbr⟩, by simp [intOf]; omega⟩
          · obtain rfl : k = g.prio.length := by omega
            have hlt2 : ¬ ((g.prio.length : Nat) : Int) < g.prio.length := by omega
            obtain ⟨c0, c1, c2, c3, c4, c5⟩ := HSS.out _ hbr
            go_wp2
            go_ret
            exact ⟨rfl, hb3.trans (hbr.mono hb3.size)⟩
  · have hd : decide (4096 < l0) = true := by simp; omega
    rw [hd] at Hbig
    clear hd
    go_enter Try.func13, Try.ntmps13
    go_wp2_with fail
    refine Hbig.out.mono ?_
    rintro e w0 ⟨rfl, hw0⟩
    subst w0
    go_wp2
    go_ret
    exact ⟨rfl, Below.refl _ _⟩
end Go.Proofs.Ytpnophmanpfejaa
