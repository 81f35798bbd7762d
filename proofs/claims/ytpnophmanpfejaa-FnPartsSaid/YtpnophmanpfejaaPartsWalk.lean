/- The law on the parts that LoopsOf answers. -/
import Derived.Test.YtpnophmanpfejaaDrawLoops
import Derived.Test.YtpnophmanpfejaaPartsPlain
import Derived.Test.YtpnophmanpfejaaPkB
import Derived.Test.YtpnophmanpfejaaClass
import Derived.Deep.RegionHeld3
namespace Go.Proofs.Ytpnophmanpfejaa
set_option linter.unusedSimpArgs false
set_option linter.unusedVariables false
open Go.RowKit

set_option maxRecDepth 100000 in
set_option maxHeartbeats 8000000 in
theorem FnParts_true (v0 : Value) (l0 : Nat) (w : World) (hl0 : Bytes w v0 l0) :
    Calls Try.prog 14 #[v0] w fun e w' => e = .returned (.bool true) ∧ Below w.heap.size w w' := by
  have Hbig := Lib.hid (big_any v0 l0 w hl0)
  obtain ⟨BA, bc, rfl, hbl, hbm⟩ := hl0.form
  by_cases hn : l0 ≤ 4096
  · have hd : decide (4096 < l0) = false := by simp; omega
    rw [hd] at Hbig
    clear hd
    go_enter Try.func14, Try.ntmps14
    go_wp2_with fail
    refine Hbig.out.mono ?_
    rintro e w0 ⟨rfl, hw0⟩
    subst w0
    go_wp2_with fail
    refine (DrawLoopsOf_any _ l0 _ hl0 hn).mono ?_
    rintro e w1 ⟨ua, u, a, l, rfl, ha, hbig, hu, hll, hb1⟩
    clear Hbig
    obtain ⟨on, nn, rfl⟩ := ha.open
    obtain ⟨ho, hnx⟩ := ha.parts
    obtain ⟨A, ac, rfl, _⟩ := ho.form
    obtain ⟨A', ac', rfl, _⟩ := hnx.form
    clear ho hnx
    obtain ⟨B1, bc1, rfl, _⟩ := hu.form
    have hX0 := Arr.new w1 30 [.slice A a.owner.length ac, .slice A' a.next.length ac']
    have hbX := (Below.refl w1.heap.size w1).alloc (Nat.le_refl _) (.cells #[.slice A a.owner.length ac, .slice A' a.next.length ac'] 30)
    have hb2 : Below w.heap.size w (w1.alloc (.cells #[.slice A a.owner.length ac, .slice A' a.next.length ac'] 30)) := Below.up hb1 hbX
    replace ha := ha.kept (Kept.of hbX)
    replace hu := hu.kept (Kept.of hbX)
    have q0 := hX0.c0
    have q1 := hX0.c1
    clear hb1 hbX
    go_wp2_with fail
    have hXl := hX0.lt
    obtain ⟨X, hX⟩ : ∃ X, w1.heap.size = X := ⟨_, rfl⟩
    rw [hX] at hX0 hXl
    clear q0 q1
    generalize w1.alloc (.cells #[.slice A a.owner.length ac, .slice A' a.next.length ac'] 30) = w2 at *
    refine (LoopsOf_any _ a _ l _ ha hu).mono ?_
    rintro e w3 ⟨z, rfl, hz, hbx⟩
    have hzr := hz.rows
    clear hz
    obtain ⟨Z, zc, rfl, _⟩ := hzr.form
    replace hX0 := hX0.below hbx hXl
    replace ha := ha.kept (Kept.of hbx)
    replace hu := hu.kept (Kept.of hbx)
    have hb3 := Below.up hb2 hbx
    have q0 := hX0.c0
    have q1 := hX0.c1
    clear hb2 hbx hXl
    go_wp2_with fail
    clear q0 q1
    refine (specLoopsOf_any _ a _ l _ ha hu).mono ?_
    rintro e w4 ⟨z2, rfl, hz2, hbx⟩
    have hzr2 := hz2.rows
    clear hz2
    obtain ⟨Z2, zc2, rfl, _⟩ := hzr2.form
    replace hX0 := hX0.below hbx hX0.lt
    replace ha := ha.kept (Kept.of hbx)
    replace hu := hu.kept (Kept.of hbx)
    replace hzr := hzr.kept (Kept.of hbx)
    replace hb3 := Below.up hb3 hbx
    clear hbx
    obtain ⟨hrl, hrr⟩ := loopsG_len a l
    have Hfit := Lib.hid (fun k (hk : k < (loopsG a l).length) => part_fit a l hk)
    have hok : ∀ k, k < (loopsG a l).length → (rx (loopsG a l) k).length ≤ 256 := hrr
    generalize hre : loopsG a l = r at *
    have Hr := Lib.hid hre
    clear hre hrr
    go_wp2_with fail
    go_loopw [7] (fun i wr => ∃ k : Nat, k ≤ r.length ∧ i = .int .i64 k ∧ Below w4.heap.size w4 wr) (fun i _ => r.length - (intOf i).toNat)
    case atStart => exact ⟨0, by omega, rfl, Below.refl _ _⟩
    case round =>
      obtain ⟨k, hk, rfl, hbr⟩ := hrel
      obtain ⟨wo, rfl⟩ : ∃ wo : World, wo = wr := ⟨_, rfl⟩
      by_cases hlt : k < r.length
      · have hlt2 : (k : Int) < r.length := by omega
        have hfit := Hfit.out k hlt
        have hpos := hfit.pos
        have hins := hfit.inside
        have hapa := hfit.apart
        have hrea := hfit.reach
        rw [Hr.out] at hpos hins hapa hrea
        obtain ⟨b1, RA, rc, e1, hc1, h1⟩ := (hzr.kept (Kept.of hbr)).at_ hlt
        subst e1
        obtain ⟨b2, RA2, rc2, e2, hc2, h2⟩ := (hzr2.kept (Kept.of hbr)).at_ hlt
        subst e2
        have hu2 := hu.kept (Kept.of hbr)
        have hrow := hok k hlt
        have Hc1 := Lib.hid (fun (x : Cls wo) => calls_cls_drew (likeInts_any _ _ (rx r k) (rx r k) x.val (h1.kept (Cls.kept x)) (h2.kept (Cls.kept x))))
        rw [decide_eq_true rfl] at Hc1
        have Hc2 := Lib.hid (fun (x : Cls wo) => calls_cls (specPartIn_any _ _ (rx r k) l x.val (h1.kept (Cls.kept x)) (hu2.kept (Cls.kept x)) (by omega)))
        rw [hins] at Hc2
        have Hap := Lib.hid hapa
        have Hre := Lib.hid hrea
        have hne : ¬ ((rx r k).length : Int) = 0 := by omega
        have hne2 : (((rx r k).length : Int) == 0) = false := by simpa using hne
        have d1 := Cls.cell hc1
        have d2 := Cls.cell hc2
        clear hfit hins hapa hrea
        go_wp2_with fail
        refine wp_region_cls (by kernel_rfl) (by kernel_rfl) ?_
        repeat (first | go_big_quiet_step ((first | (go_at_call 59; exact Hc1.out _) | (go_at_call 69; exact Hc2.out _))) | quiet_step ((first | (go_at_call 59; exact Hc1.out _) | (go_at_call 69; exact Hc2.out _))))
        refine wpQuiet_nil ?_
        intro wq hw'
        have hbwq : Below wo.heap.size wo wq := by
          obtain ⟨x, e⟩ := hw'
          rw [e]
          exact x.property
        clear hw'
        have hbq : Below w4.heap.size w4 wq := Below.up hbr hbwq
        replace h1 := h1.kept (Kept.of hbwq)
        replace hc1 := (Kept.of hbwq).cell hc1
        clear d1 d2 Hc1 Hc2 h2 hc2 hu2 hbwq hbr
        go_wp2_with fail
        go_loopw [8] (fun i wr => ∃ t : Nat, t ≤ k ∧ i = .int .i64 t ∧ Below wq.heap.size wq wr) (fun i _ => k - (intOf i).toNat)
        case atStart => exact ⟨0, by omega, rfl, Below.refl _ _⟩
        case round =>
          obtain ⟨t, ht, rfl, hbt⟩ := hrel
          have hbt2 : Below w4.heap.size w4 wr := Below.up hbq hbt
          have h3 := h1.kept (Kept.of hbt)
          have hc3 := (Kept.of hbt).cell hc1
          by_cases htl : t < k
          · have htl2 : (t : Int) < k := by omega
            have htr : t < r.length := by omega
            have htr2 : (t : Int) < r.length := by omega
            obtain ⟨b4, RA4, rc4, e4, hc4, h4⟩ := (hzr.kept (Kept.of hbt2)).at_ htr
            injection e4 with e4
            subst e4
            have hmeet := Hap.out t htl
            go_wp2_with fail
            go_region_law (first | (go_simp; go_at_call 70; refine (specMeetOf_any _ _ (rx r k) (rx r t) _ (h3.kept (by exact fun _ _ => rfl)) (h4.kept (by exact fun _ _ => rfl)) (by omega)).mono ?_; rintro e w8 ⟨u8, rfl, ho8, hb8⟩; rw [hmeet] at ho8; obtain ⟨A8, c8, e8, _⟩ := ho8.ints.form; rw [List.length_nil] at e8; subst e8; have hb9 : Below wr.heap.size wr w8 := ⟨hb8.os, hb8.tape, hb8.output, hb8.size, hb8.block⟩))
            all_goals
              go_wp2
              exact ⟨⟨t + 1, by omega, by go_num, hbt.trans (hb9.mono hbt.size)⟩, by simp [intOf]; omega⟩
          · obtain rfl : t = k := by omega
            obtain ⟨ws, rfl⟩ : ∃ ws : World, ws = wr := ⟨_, rfl⟩
            have htl2 : ¬ (t : Int) < t := by omega
            obtain ⟨b5, e5, hc5⟩ := h3.at_ hpos
            subst e5
            have hc5' := hc5
            rw [Addr.add_zero'] at hc5'
            have hbA := (Below.refl ws.heap.size ws).alloc (Nat.le_refl _) (.cells #[.int .i64 (ix (rx r t) 0)] 2)
            have hd : Below ws.heap.size ws ws.drew := below_drwD (Below.refl _ _)
            have hdA : Below ws.heap.size ws (ws.alloc (.cells #[.int .i64 (ix (rx r t) 0)] 2)).drew := below_drwD hbA
            have hone := (ione_new ws (ix (rx r t) 0)).one_ints
            have haw := ha.kept (Kept.of hbt2)
            have hX := hX0.below hbt2 hX0.lt
            have HS := Lib.hid (fun W (hW : Below ws.heap.size ws W) => (show W.cell? ⟨X, 0, none⟩ = some (.slice A a.owner.length ac) ∧ W.cell? ⟨X, 1, none⟩ = some (.slice A' a.next.length ac') ∧ W.cell? (b1.add t) = some (.slice (some b5) (rx r t).length rc) ∧ W.cell? (b5.add 0) = some (.int .i64 (ix (rx r t) 0)) ∧ W.cell? b5 = some (.int .i64 (ix (rx r t) 0)) from ⟨(hX.below hW hX.lt).c0, (hX.below hW hX.lt).c1, (Kept.of hW).cell hc3, (Kept.of hW).cell hc5, (Kept.of hW).cell hc5'⟩))
            have hposI : (0 : Int) < (rx r t).length := by omega
            have hrg := reachG_len a [ix (rx r t) 0]
            have hXl := hX.lt
            clear hX hc5 hc5'
            go_wp2_with fail
            go_region_held3 (fun W => W.cell? ⟨X, 0, none⟩ = some (.slice A a.owner.length ac) ∧ W.cell? ⟨X, 1, none⟩ = some (.slice A' a.next.length ac') ∧ W.cell? (b1.add t) = some (.slice (some b5) (rx r t).length rc) ∧ W.cell? (b5.add 0) = some (.int .i64 (ix (rx r t) 0)) ∧ W.cell? b5 = some (.int .i64 (ix (rx r t) 0)))
              (first | exact HS.out _ hd | exact HS.out _ hdA | exact HS.out _ hb8 | exact HS.out _ hb9)
              (first | (go_at_call 63; refine (specReachOf_any _ a _ [ix (rx r t) 0] _ (haw.kept (Kept.of hdA)) (hone.kept (by exact fun _ _ => rfl))).mono ?_; rintro e w8 ⟨u8, rfl, ho8, hb8⟩; replace hb8 : Below ws.heap.size ws w8 := Below.up hdA hb8; obtain ⟨A8, c8, e8, _⟩ := ho8.ints.form; subst e8) | (go_at_call 56; refine (PartIn_any _ _ (rx r t) (reachG a [ix (rx r t) 0]) _ (h3.kept (Kept.of hb8)) ho8.ints (by omega) (by omega)).mono ?_; rintro e w9 ⟨rfl, hb9⟩; rw [Hre.out]; replace hb9 : Below ws.heap.size ws w9 := Below.up hb8 hb9))
            all_goals
              go_wp2
              exact ⟨⟨t + 1, by omega, by go_num, Below.up hbt2 hb9⟩, by simp [intOf]; omega⟩
      · obtain rfl : k = r.length := by omega
        have hlt2 : ¬ ((r.length : Nat) : Int) < r.length := by omega
        go_wp2
        go_ret
        exact ⟨rfl, Below.up hb3 hbr⟩
  · have hd : decide (4096 < l0) = true := by simp; omega
    rw [hd] at Hbig
    clear hd
    go_enter Try.func14, Try.ntmps14
    go_wp2_with fail
    refine Hbig.out.mono ?_
    rintro e w0 ⟨rfl, hw0⟩
    subst w0
    go_wp2
    go_ret
    exact ⟨rfl, Below.refl _ _⟩
end Go.Proofs.Ytpnophmanpfejaa
