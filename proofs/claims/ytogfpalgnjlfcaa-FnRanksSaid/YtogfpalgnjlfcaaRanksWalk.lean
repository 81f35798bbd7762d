/- The law that ranks, pulls and the attractor agree. -/
import Derived.Test.YtogfpalgnjlfcaaDrawRanks
import Derived.Test.YtogfpalgnjlfcaaRanksLaw
import Derived.Test.YtogfpalgnjlfcaaRankWalks5
import Derived.Test.YtogfpalgnjlfcaaSetWalks3
import Derived.Test.YtogfpalgnjlfcaaClass
namespace Go.Proofs.Ytogfpalgnjlfcaa
set_option linter.unusedSimpArgs false
set_option linter.unusedVariables false
open Go.RowKit

set_option maxRecDepth 100000 in
set_option maxHeartbeats 16000000 in
theorem FnRanks_true (v0 : Value) (l0 : Nat) (w : World) (hl0 : Bytes w v0 l0) :
    Calls Try.prog 5 #[v0] w fun e w' => e = .returned (.bool true) ∧ Below w.heap.size w w' := by
  have Hbig := Lib.hid (big_any v0 l0 w hl0)
  obtain ⟨BA, bc, rfl, hbl, hbm⟩ := hl0.form
  by_cases hn : l0 ≤ 4096
  · have hd : decide (4096 < l0) = false := by simp; omega
    rw [hd] at Hbig
    clear hd
    go_enter Try.func5, Try.ntmps5
    go_wp2_with fail
    refine Hbig.out.mono ?_
    rintro e w0 ⟨rfl, hw0⟩
    subst w0
    go_wp2_with fail
    refine (DrawRanksIn_any _ l0 _ hl0 hn).mono ?_
    rintro e w1 ⟨ua, who, ui, ug, rfl, a, li, lg, ha, hbig, hi, hg, hli, hlg, hw0, hw1, hb1⟩
    clear Hbig
    obtain ⟨on, nn, rfl⟩ := ha.open
    obtain ⟨ho, hnx⟩ := ha.parts
    obtain ⟨A, ac, rfl, _⟩ := ho.form
    obtain ⟨A', ac', rfl, _⟩ := hnx.form
    obtain ⟨B1, bc1, rfl, _⟩ := hi.form
    obtain ⟨B2, bc2, rfl, _⟩ := hg.form
    have hX0 := Arr.new w1 30 [.slice A a.owner.length ac, .slice A' a.next.length ac']
    have hbX := (Below.refl w1.heap.size w1).alloc (Nat.le_refl _) (.cells #[.slice A a.owner.length ac, .slice A' a.next.length ac'] 30)
    have hb2 := Below.up hb1 hbX
    replace ha := ha.kept (Kept.of hbX)
    replace hi := hi.kept (Kept.of hbX)
    replace hg := hg.kept (Kept.of hbX)
    have q0 := hX0.c0
    have q1 := hX0.c1
    have hXl := hX0.lt
    clear hb1 hbX ho hnx
    go_wp2_with fail
    obtain ⟨X, hX⟩ : ∃ X, w1.heap.size = X := ⟨_, rfl⟩
    rw [hX] at hX0 hXl
    clear q0 q1
    generalize w1.alloc (.cells #[.slice A a.owner.length ac, .slice A' a.next.length ac'] 30) = w2 at *
    refine (RanksIn_any _ a who _ li _ lg _ ha hi hg).mono ?_
    rintro e w3 ⟨z1, rfl, hz1, hbx⟩
    obtain ⟨Z1, zc1, rfl, _⟩ := hz1.ints.form
    have hr := hz1.ints
    replace hX0 := hX0.below hbx hX0.lt
    replace ha := ha.kept (Kept.of hbx)
    replace hi := hi.kept (Kept.of hbx)
    replace hg := hg.kept (Kept.of hbx)
    replace hb2 := Below.up hb2 hbx
    have q0 := hX0.c0
    have q1 := hX0.c1
    clear hbx hz1
    go_wp2_with fail
    clear q0 q1
    refine (PullIn_any _ a who _ li _ lg _ ha hi hg).mono ?_
    rintro e w4 ⟨z2, rfl, hz2, hbx⟩
    obtain ⟨Z2, zc2, rfl, _⟩ := hz2.ints.form
    have hp := hz2.ints
    replace hX0 := hX0.below hbx hX0.lt
    replace ha := ha.kept (Kept.of hbx)
    replace hi := hi.kept (Kept.of hbx)
    replace hg := hg.kept (Kept.of hbx)
    replace hr := hr.kept (Kept.of hbx)
    replace hb2 := Below.up hb2 hbx
    have q0 := hX0.c0
    have q1 := hX0.c1
    clear hbx hz2
    go_wp2_with fail
    clear q0 q1
    refine (Attract_any _ a who _ li _ lg _ ha hi hg).mono ?_
    rintro e w5 ⟨z3, rfl, hz3, hbx⟩
    obtain ⟨Z3, zc3, rfl, _⟩ := hz3.ints.form
    have hq := hz3.ints
    replace hX0 := hX0.below hbx hX0.lt
    replace ha := ha.kept (Kept.of hbx)
    replace hi := hi.kept (Kept.of hbx)
    replace hg := hg.kept (Kept.of hbx)
    replace hr := hr.kept (Kept.of hbx)
    replace hp := hp.kept (Kept.of hbx)
    replace hb2 := Below.up hb2 hbx
    have q0 := hX0.c0
    have q1 := hX0.c1
    clear hbx hz3
    go_wp2_with fail
    clear q0 q1
    refine (specRanksIn_any _ a who _ li _ lg _ ha hi hg).mono ?_
    rintro e w6 ⟨z4, rfl, hz4, hbx⟩
    obtain ⟨Z4, zc4, rfl, _⟩ := hz4.ints.form
    have hr2 := hz4.ints
    replace hX0 := hX0.below hbx hX0.lt
    replace ha := ha.kept (Kept.of hbx)
    replace hr := hr.kept (Kept.of hbx)
    replace hp := hp.kept (Kept.of hbx)
    replace hq := hq.kept (Kept.of hbx)
    replace hb2 := Below.up hb2 hbx
    clear hbx hz4 hi hg
    go_wp2_with fail
    refine (drew_below (likeInts_any _ _ (ranksG a who li lg) (ranksG a who li lg) _ hr hr2)).mono ?_
    rintro e w7 ⟨rfl, hbx⟩
    rw [decide_eq_true rfl]
    replace hX0 := hX0.below hbx hX0.lt
    have hoo := (ha.kept (Kept.of hbx)).parts.1
    replace hr := hr.kept (Kept.of hbx)
    replace hp := hp.kept (Kept.of hbx)
    replace hq := hq.kept (Kept.of hbx)
    replace hb2 := Below.up hb2 hbx
    clear hbx hr2 ha
    have Hfit := Lib.hid (ranks_fit a who li lg)
    have hrl : (ranksG a who li lg).length ≤ 257 := Nat.le_trans Hfit.out.own hbig.owner
    obtain ⟨r, hre⟩ : ∃ r, r = ranksG a who li lg := ⟨_, rfl⟩
    obtain ⟨p, hpe⟩ : ∃ p, p = pullG a who li lg := ⟨_, rfl⟩
    obtain ⟨q, hqe⟩ : ∃ q, q = attrG a who li lg := ⟨_, rfl⟩
    rw [← hre] at hr Hfit hrl
    rw [← hpe] at hp Hfit
    rw [← hqe] at hq Hfit
    rw [← hre, ← hpe, ← hqe]
    clear hre hpe hqe
    have hpl := Hfit.out.len
    go_wp2_with fail
    go_loopw [10, 11] (fun mv vv wr => ∃ k : Nat, k ≤ r.length ∧ vv = .int .i64 k ∧ mv = .int .i64 ((attrTo r k).length : Int) ∧ Below w7.heap.size w7 wr) (fun _ vv _ => r.length - (intOf vv).toNat)
    case atStart => exact ⟨0, by omega, rfl, rfl, Below.refl _ _⟩
    case round =>
      obtain ⟨k, hk, rfl, rfl, hbr⟩ := hrel
      by_cases hlt : k < r.length
      · have hlt2 : (k : Int) < r.length := by omega
        have hlp : k < p.length := by omega
        have hlp2 : (k : Int) < p.length := by omega
        have hlo : k < a.owner.length := Nat.lt_of_lt_of_le hlt Hfit.out.own
        have hlo2 : (k : Int) < a.owner.length := by omega
        have hqw := hq.kept (Kept.of hbr)
        obtain ⟨b1, e1, hc1⟩ := (hr.kept (Kept.of hbr)).at_ hlt
        obtain ⟨b2, e2, hc2⟩ := (hp.kept (Kept.of hbr)).at_ hlp
        obtain ⟨b3, e3, hc3⟩ := (hoo.kept (Kept.of hbr)).at_ hlo
        subst e1
        subst e2
        subst e3
        have hal := attrTo_len r k
        have hhas := Hfit.out.has k hlt
        have hsucc : (attrTo r (k + 1)).length = (attrTo r k).length + (if 0 ≤ ix r k then 1 else 0) := by
          rw [attrTo_succ, List.length_append]
          by_cases h : 0 ≤ ix r k <;> simp [h]
        by_cases hr0 : 0 ≤ ix r k
        · rw [decide_eq_true hr0] at hhas
          rw [if_pos hr0] at hsucc
          go_wp2_with fail
          go_region_law (first | (go_simp; go_at_call 26; refine (drew_below (specHasIn_any _ q _ _ (hqw.kept (by exact fun _ _ => rfl)))).mono ?_; rintro e w8 ⟨rfl, hb8⟩; rw [hhas]; have hb9 : Below wr.heap.size wr w8 := ⟨hb8.os, hb8.tape, hb8.output, hb8.size, hb8.block⟩; have d1 := (Kept.of hb9).cell hc1))
          all_goals
            have hbw : Below w7.heap.size w7 w8 := hbr.trans (hb9.mono hbr.size)
            have d2 := (Kept.of hb9).cell hc1
            have d3 := (Kept.of hb9).cell hc2
            have d4 := (Kept.of hb9).cell hc3
            have d5 := (hX0.below hbw hX0.lt).c0
            by_cases hp0 : 0 ≤ ix p k
            · obtain ⟨j, hj, hjl, hjr, how⟩ := Hfit.out.pull k hlt hp0
              have hbd := Hfit.out.bound k hlt
              obtain ⟨b4, e4, hc4⟩ := (hr.kept (Kept.of hbw)).at_ hjl
              cases e4
              rw [hj] at d3 hp0
              have hjl2 : (j : Int) < r.length := by omega
              have hjl3 : ¬ (r.length : Int) ≤ (j : Int) := by omega
              have hjn : ¬ (j : Int) < 0 := by omega
              have hjd : decide (0 ≤ (j : Int)) = true := decide_eq_true (by omega)
              have hjd2 : (0 : Int) ≤ (j : Int) := by omega
              have hjb : (ix r j != ix r k - 1) = false := by rw [hjr]; simp
              have hob : (ix a.owner k != who) = false := by rw [how]; simp
              go_wp2_with fail
              have e0 := Cls.cell d2
              have e1 := Cls.cell d3
              have e2 := Cls.cell d4
              have e3 := Cls.cell d5
              have e4 := Cls.cell hc4
              refine wp_region_cls (by kernel_rfl) (by kernel_rfl) ?_
              repeat (first | go_big_quiet_step (fail) | quiet_step (fail))
              refine wpQuiet_nil ?_
              intro _ hw'
              obtain ⟨⟨wq, hbwq⟩, rfl⟩ := hw'
              clear e0 e1 e2 e3 e4
              replace d3 := (Kept.of hbwq).cell d3
              go_wp2
              exact ⟨⟨k + 1, by omega, by go_num, by rw [hsucc]; go_num, Below.up hbw hbwq⟩, by simp [intOf]; omega⟩
            · have hpn : ix p k < 0 := by omega
              have hpd : decide (0 ≤ ix p k) = false := decide_eq_false (by omega)
              have hpd2 : ¬ 0 ≤ ix p k := by omega
              go_wp2_with fail
              have e0 := Cls.cell d3
              refine wp_region_cls (by kernel_rfl) (by kernel_rfl) ?_
              repeat (first | go_big_quiet_step (fail) | quiet_step (fail))
              refine wpQuiet_nil ?_
              intro _ hw'
              obtain ⟨⟨wq, hbwq⟩, rfl⟩ := hw'
              clear e0
              replace d2 := (Kept.of hbwq).cell d2
              replace d3 := (Kept.of hbwq).cell d3
              replace d4 := (Kept.of hbwq).cell d4
              replace d5 := (Kept.of hbwq).cell d5
              by_cases hr1 : 0 < ix r k
              · have how := Hfit.out.none_ k hlt hpn hr1
                have hrd : decide (0 < ix r k) = true := decide_eq_true hr1
                have hwb : (ix a.owner k == who) = false := beq_eq_false_iff_ne.2 how
                go_wp2
                exact ⟨⟨k + 1, by omega, by go_num, by rw [hsucc]; go_num, Below.up hbw hbwq⟩, by simp [intOf]; omega⟩
              · obtain ⟨rv, hrv⟩ : ∃ rv, ix r k = rv := ⟨_, rfl⟩
                rw [hrv] at d2 hr1
                clear hrv hr0 hhas hpd hpd2
                have hrd : decide (0 < rv) = false := decide_eq_false hr1
                go_wp2
                exact ⟨⟨k + 1, by omega, by go_num, by rw [hsucc]; go_num, Below.up hbw hbwq⟩, by simp [intOf]; omega⟩
        · rw [decide_eq_false hr0] at hhas
          rw [if_neg hr0] at hsucc
          go_wp2_with fail
          go_region_law (first | (go_simp; go_at_call 26; refine (drew_below (specHasIn_any _ q _ _ (hqw.kept (by exact fun _ _ => rfl)))).mono ?_; rintro e w8 ⟨rfl, hb8⟩; rw [hhas]; have hb9 : Below wr.heap.size wr w8 := ⟨hb8.os, hb8.tape, hb8.output, hb8.size, hb8.block⟩; have d1 := (Kept.of hb9).cell hc1))
          all_goals
            have hbw : Below w7.heap.size w7 w8 := hbr.trans (hb9.mono hbr.size)
            have d2 := (Kept.of hb9).cell hc1
            have d3 := (Kept.of hb9).cell hc2
            have d4 := (Kept.of hb9).cell hc3
            have d5 := (hX0.below hbw hX0.lt).c0
            by_cases hp0 : 0 ≤ ix p k
            · obtain ⟨j, hj, hjl, hjr, how⟩ := Hfit.out.pull k hlt hp0
              have hbd := Hfit.out.bound k hlt
              obtain ⟨b4, e4, hc4⟩ := (hr.kept (Kept.of hbw)).at_ hjl
              cases e4
              rw [hj] at d3 hp0
              have hjl2 : (j : Int) < r.length := by omega
              have hjl3 : ¬ (r.length : Int) ≤ (j : Int) := by omega
              have hjn : ¬ (j : Int) < 0 := by omega
              have hjd : decide (0 ≤ (j : Int)) = true := decide_eq_true (by omega)
              have hjd2 : (0 : Int) ≤ (j : Int) := by omega
              have hjb : (ix r j != ix r k - 1) = false := by rw [hjr]; simp
              have hob : (ix a.owner k != who) = false := by rw [how]; simp
              go_wp2_with fail
              have e0 := Cls.cell d2
              have e1 := Cls.cell d3
              have e2 := Cls.cell d4
              have e3 := Cls.cell d5
              have e4 := Cls.cell hc4
              refine wp_region_cls (by kernel_rfl) (by kernel_rfl) ?_
              repeat (first | go_big_quiet_step (fail) | quiet_step (fail))
              refine wpQuiet_nil ?_
              intro _ hw'
              obtain ⟨⟨wq, hbwq⟩, rfl⟩ := hw'
              clear e0 e1 e2 e3 e4
              replace d3 := (Kept.of hbwq).cell d3
              go_wp2
              exact ⟨⟨k + 1, by omega, by go_num, by rw [hsucc]; rfl, Below.up hbw hbwq⟩, by simp [intOf]; omega⟩
            · have hpn : ix p k < 0 := by omega
              have hpd : decide (0 ≤ ix p k) = false := decide_eq_false (by omega)
              have hpd2 : ¬ 0 ≤ ix p k := by omega
              go_wp2_with fail
              have e0 := Cls.cell d3
              refine wp_region_cls (by kernel_rfl) (by kernel_rfl) ?_
              repeat (first | go_big_quiet_step (fail) | quiet_step (fail))
              refine wpQuiet_nil ?_
              intro _ hw'
              obtain ⟨⟨wq, hbwq⟩, rfl⟩ := hw'
              clear e0
              replace d2 := (Kept.of hbwq).cell d2
              replace d3 := (Kept.of hbwq).cell d3
              replace d4 := (Kept.of hbwq).cell d4
              replace d5 := (Kept.of hbwq).cell d5
              by_cases hr1 : 0 < ix r k
              · exfalso; omega
              · obtain ⟨rv, hrv⟩ : ∃ rv, ix r k = rv := ⟨_, rfl⟩
                rw [hrv] at d2 hr1
                clear hrv hr0 hhas hpd hpd2
                have hrd : decide (0 < rv) = false := decide_eq_false hr1
                go_wp2
                exact ⟨⟨k + 1, by omega, by go_num, by rw [hsucc]; rfl, Below.up hbw hbwq⟩, by simp [intOf]; omega⟩
      · obtain rfl : k = r.length := by omega
        have hlt2 : ¬ ((r.length : Nat) : Int) < r.length := by omega
        have hmany := Hfit.out.many
        go_wp2
        go_ret
        exact ⟨by simp [hmany], hb2.trans (hbr.mono hb2.size)⟩
  · have hd : decide (4096 < l0) = true := by simp; omega
    rw [hd] at Hbig
    clear hd
    go_enter Try.func5, Try.ntmps5
    go_wp2_with fail
    refine Hbig.out.mono ?_
    rintro e w0 ⟨rfl, hw0⟩
    subst w0
    go_wp2
    go_ret
    exact ⟨rfl, Below.refl _ _⟩
end Go.Proofs.Ytogfpalgnjlfcaa
