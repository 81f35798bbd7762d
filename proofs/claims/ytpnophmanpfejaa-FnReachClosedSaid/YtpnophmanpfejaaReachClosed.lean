/- The law that what ReachOf answers is closed. -/
import Derived.Test.YtpnophmanpfejaaDrawReach
import Derived.Test.YtpnophmanpfejaaReachLaw
namespace Go.Proofs.Ytpnophmanpfejaa
set_option linter.unusedSimpArgs false
set_option linter.unusedVariables false
open Go.RowKit

set_option maxRecDepth 100000 in
set_option maxHeartbeats 8000000 in
theorem FnReachClosed_true (v0 : Value) (l0 : Nat) (w : World) (hl0 : Bytes w v0 l0) :
    Calls Try.prog 12 #[v0] w fun e w' => e = .returned (.bool true) ∧ Below w.heap.size w w' := by
  have Hbig := Lib.hid (big_any v0 l0 w hl0)
  obtain ⟨BA, bc, rfl, hbl, hbm⟩ := hl0.form
  by_cases hn : l0 ≤ 4096
  · have hd : decide (4096 < l0) = false := by simp; omega
    rw [hd] at Hbig
    clear hd
    go_enter Try.func12, Try.ntmps12
    go_wp2_with fail
    refine Hbig.out.mono ?_
    rintro e w0 ⟨rfl, hw0⟩
    subst w0
    go_wp2_with fail
    refine (DrawReachOf_any _ l0 _ hl0 hn).mono ?_
    rintro e w1 ⟨ua, u, a, l, rfl, ha, hbig, hu, hll, hb1⟩
    clear Hbig
    obtain ⟨on, nn, rfl⟩ := ha.open
    obtain ⟨ho, hnx⟩ := ha.parts
    obtain ⟨A, ac, rfl, _⟩ := ho.form
    obtain ⟨A', ac', rfl, _⟩ := hnx.form
    obtain ⟨B1, bc1, rfl, _⟩ := hu.form
    have hX0 := Arr.new w1 30 [.slice A a.owner.length ac, .slice A' a.next.length ac']
    have hbX := (Below.refl w1.heap.size w1).alloc (Nat.le_refl _) (.cells #[.slice A a.owner.length ac, .slice A' a.next.length ac'] 30)
    have hb2 : Below w.heap.size w (w1.alloc (.cells #[.slice A a.owner.length ac, .slice A' a.next.length ac'] 30)) := Below.up hb1 hbX
    replace ha := ha.kept (Kept.of hbX)
    replace hnx := hnx.kept (Kept.of hbX)
    replace hu := hu.kept (Kept.of hbX)
    have q0 := hX0.c0
    have q1 := hX0.c1
    clear hb1 hbX ho
    go_wp2_with fail
    have hXl := hX0.lt
    obtain ⟨X, hX⟩ : ∃ X, w1.heap.size = X := ⟨_, rfl⟩
    rw [hX] at hX0 hXl
    clear q0 q1
    generalize w1.alloc (.cells #[.slice A a.owner.length ac, .slice A' a.next.length ac'] 30) = w2 at *
    refine (ReachOf_any _ a _ l _ ha hu).mono ?_
    rintro e w3 ⟨z, rfl, hz, hbx⟩
    obtain ⟨Z, zc, rfl, _⟩ := hz.ints.form
    replace hX0 := hX0.below hbx hXl
    replace ha := ha.kept (Kept.of hbx)
    replace hnx := hnx.kept (Kept.of hbx)
    replace hu := hu.kept (Kept.of hbx)
    have hzi := hz.ints
    have hb3 := Below.up hb2 hbx
    have q0 := hX0.c0
    have q1 := hX0.c1
    clear hb2 hbx hz hXl
    go_wp2_with fail
    clear q0 q1
    refine (specReachOf_any _ a _ l _ ha hu).mono ?_
    rintro e w4 ⟨z2, rfl, hz2, hbx⟩
    obtain ⟨Z2, zc2, rfl, _⟩ := hz2.ints.form
    go_wp2_with fail
    refine (drew_below (likeInts_any _ _ (reachG a l) (reachG a l) _ (hzi.kept (Kept.of hbx)) hz2.ints)).mono ?_
    rintro e w5 ⟨rfl, hby⟩
    rw [decide_eq_true rfl]
    have hbz := Below.up hbx hby
    replace hX0 := hX0.below hbz hX0.lt
    replace ha := ha.kept (Kept.of hbz)
    replace hnx := hnx.kept (Kept.of hbz)
    replace hzi := hzi.kept (Kept.of hbz)
    replace hb3 := Below.up hb3 hbz
    clear hbx hby hbz hz2 hu hll
    have hzl := reachG_len a l
    have Hstep := Lib.hid (fun k (hk : k < (reachG a l).length) => reachG_step hk)
    have Hidem := Lib.hid (reachG_idem a l)
    have hdeg := Lib.hid hbig.deg
    obtain ⟨s, hs⟩ : ∃ s, s = reachG a l := ⟨_, rfl⟩
    rw [← hs] at hzi hzl Hstep Hidem
    rw [← hs]
    clear hs
    have hnl := hbig.next
    go_wp2_with fail
    go_loopw [6] (fun i wr => ∃ k : Nat, k ≤ s.length ∧ i = .int .i64 k ∧ Below w5.heap.size w5 wr) (fun i _ => s.length - (intOf i).toNat)
    case atStart => exact ⟨0, by omega, rfl, Below.refl _ _⟩
    case round =>
      obtain ⟨k, hk, rfl, hbr⟩ := hrel
      by_cases hlt : k < s.length
      · have hlt2 : (k : Int) < s.length := by omega
        obtain ⟨j, hj, hjn, hstep⟩ := Hstep.out k hlt
        have Hs := Lib.hid hstep
        have hdj := hdeg.out j hjn
        clear hstep
        go_wp2_with fail
        go_loopw [7] (fun i wx => ∃ t : Nat, t ≤ (rx a.next j).length ∧ i = .int .i64 t ∧ Below w5.heap.size w5 wx) (fun i _ => (rx a.next j).length - (intOf i).toNat)
        case atStart => exact ⟨0, by omega, rfl, hbr⟩
        case round =>
          clear hbr
          obtain ⟨t, ht, rfl, hbr⟩ := hrel
          have hX := hX0.below hbr hX0.lt
          have hz := hzi.kept (Kept.of hbr)
          have hnw := hnx.kept (Kept.of hbr)
          obtain ⟨b1, rfl, hc1⟩ := hz.at_ hlt
          rw [hj] at hc1
          obtain ⟨b2, RA, rc, h3, hc3, hrow⟩ := hnw.at_ hjn
          subst h3
          have q0 := hX.c1
          have hjn2 : (j : Int) < a.next.length := by omega
          by_cases hlt3 : t < (rx a.next j).length
          · have hlt4 : (t : Int) < (rx a.next j).length := by omega
            obtain ⟨b4, rfl, hc4⟩ := hrow.at_ hlt3
            have hst := Hs.out t hlt3
            have hqz : Hid (hasInB s (ix (rx a.next j) t) = true) := Lib.hid hst
            clear hst
            go_wp2_with fail
            go_region
            go_wp2_with fail
            go_region_law (first | (go_simp; go_at_call 58; refine (drew_below (specHasIn_any _ s _ _ (hz.kept (by exact fun _ _ => rfl)))).mono ?_; rintro e w8 ⟨rfl, hb8⟩; rw [hqz.out]; have hb9 : Below wr.heap.size wr w8 := ⟨hb8.os, hb8.tape, hb8.output, hb8.size, hb8.block⟩))
            all_goals
              go_wp2
              exact ⟨⟨t + 1, by omega, by go_num, hbr.trans (hb9.mono hbr.size)⟩, by simp [intOf]; omega⟩
          · obtain rfl : t = (rx a.next j).length := by omega
            have hlt4 : ¬ (((rx a.next j).length : Nat) : Int) < (rx a.next j).length := by omega
            go_wp2_with fail
            go_region
            go_wp2
            exact ⟨⟨k + 1, by omega, by go_num, below_drwD hbr⟩, by simp [intOf]; omega⟩
      · obtain rfl : k = s.length := by omega
        have hlt2 : ¬ ((s.length : Nat) : Int) < s.length := by omega
        have hX := hX0.below hbr hX0.lt
        have q0 := hX.c0
        have q1 := hX.c1
        have hz := hzi.kept (Kept.of hbr)
        go_wp2_with fail
        refine (ReachOf_any _ a _ s _ (ha.kept (Kept.of hbr)) hz).mono ?_
        rintro e w7 ⟨z2, rfl, hz2, hbx⟩
        rw [Hidem.out] at hz2
        obtain ⟨Z2, zc2, rfl, _⟩ := hz2.ints.form
        go_wp2_with fail
        refine (drew_below (likeInts_any _ _ s s _ hz2.ints (hz.kept (Kept.of hbx)))).mono ?_
        rintro e w8 ⟨rfl, hby⟩
        rw [decide_eq_true rfl]
        go_wp2
        go_ret
        exact ⟨rfl, hb3.trans (((Below.up hbr (Below.up hbx hby))).mono hb3.size)⟩
  · have hd : decide (4096 < l0) = true := by simp; omega
    rw [hd] at Hbig
    clear hd
    go_enter Try.func12, Try.ntmps12
    go_wp2_with fail
    refine Hbig.out.mono ?_
    rintro e w0 ⟨rfl, hw0⟩
    subst w0
    go_wp2
    go_ret
    exact ⟨rfl, Below.refl _ _⟩
end Go.Proofs.Ytpnophmanpfejaa
