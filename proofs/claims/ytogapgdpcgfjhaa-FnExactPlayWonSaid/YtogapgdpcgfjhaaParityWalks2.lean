/- The walks of WithPrio. No condition but the lists' lengths. -/
import Derived.Test.YtogapgdpcgfjhaaParityWalks
namespace Go.Proofs.Ytogapgdpcgfjhaa
set_option linter.unusedSimpArgs false
set_option linter.unusedVariables false
open Go.RowKit

theorem OwnInts.drewN {w : World} {B : Nat} {v : Value} {l : List Int} (h : OwnInts w B v l) (q : Nat) : OwnInts (w.drewN q) B v l := h

set_option maxHeartbeats 1000000 in
theorem l4With_any (v : Value) (g : ParityD) (u : Value) (l : List Int) (x : Int) (w : World) (hv : IsParity w v g) (hu : Ints w u l) (hr : ∀ k, k < l.length → ∃ j : Nat, ix l k = (j : Int) ∧ j < g.prio.length) (hl : l.length ≤ 1048576) :
    Calls Try.prog 68 #[v, u, .int .i64 x] w (RetInts w (withL g.prio l x)) := by
  obtain ⟨o, n, p, rfl, hbw, hB⟩ := parity_box hv
  obtain ⟨ha, hp⟩ := hv.parts
  obtain ⟨A, c, rfl, hlc, hcm⟩ := hp.form
  obtain ⟨A', c', rfl, hlc', hcm'⟩ := hu.form
  obtain ⟨hown, hbn⟩ := new_ints (w.alloc (.cells #[o, n, .slice A g.prio.length c] 32))
  have Hall := Lib.hid (filter_all l fun v => decide (ix g.prio v.toNat = x))
  have hsz := Lib.hid (show (w.alloc (.cells #[o, n, .slice A g.prio.length c] 32)).heap.size = w.heap.size + 1 by simp)
  have hw0 := hbw.size
  go_enter Try.func68, Try.ntmps68
  go_wp2
  generalize w.alloc (.cells #[o, n, .slice A g.prio.length c] 32) = w0 at *
  generalize w0.alloc (.cells #[] 2) = w1 at *
  go_loopw [7, 8] (fun v i wr => ∃ k : Nat, k ≤ l.length ∧ i = .int .i64 k ∧ OwnInts wr w0.heap.size v ((l.take k).filter fun v => decide (ix g.prio v.toNat = x)) ∧ Below w0.heap.size w0 wr) (fun _ i _ => l.length - (intOf i).toNat)
  case atStart => exact ⟨0, Nat.zero_le _, rfl, by rw [← hsz.out]; simpa using hown, hbn⟩
  case round =>
    obtain ⟨k, hk, rfl, hown, hbr⟩ := hrel
    have hbs := hbr.size
    replace hB := hB.below hbr hB.lt
    replace hbw := Below.up hbw hbr
    have hbrs := hbr.size
    have hBc2 := hB.c2
    by_cases hlt : k < l.length
    · have hu1 := (hu.kept (Kept.of hbw))
      have hp1 := (hp.kept (Kept.of hbw))
      obtain ⟨a1, rfl, hc1⟩ := hu1.at_ hlt
      obtain ⟨j, hj, hjl⟩ := hr k hlt
      obtain ⟨a2, rfl, hc2⟩ := hp1.at_ hjl
      have hlen : ((l.take k).filter fun v => decide (ix g.prio v.toNat = x)).length ≤ l.length := length_filter_take
      have Hs := Lib.hid (filter_take hlt fun v => decide (ix g.prio v.toNat = x))
      rw [hj] at hc1 Hs
      have hjl' : (j : Int) < g.prio.length := by omega
      have hlt' : (k : Int) < l.length := by omega
      by_cases e : ix g.prio j = x
      · have hd : (ix g.prio j == x) = true := by simpa using e
        clear hj
        go_wp2
        go_quiet (fail)
        go_wp2_with (at_builtin; refine append_int _ rfl (.tmp 26) (.tmp 31) rfl w0.heap.size u7 _ rfl (hown.drewN nq) (j : Int) rfl (by omega) hbs ?_; intro v1 w1 ho1 hb1 hg1 hl1)
        exact ⟨⟨k + 1, by omega, by go_num, by rw [Hs.out]; simpa [e] using ho1, hbr.trans (below_of_drewN hb1)⟩, by simp [intOf]; omega⟩
      · have hd : (ix g.prio j == x) = false := by simpa using e
        clear hj
        go_wp2
        go_quiet (fail)
        go_wp2
        exact ⟨⟨k + 1, by omega, by go_num, by rw [Hs.out]; simpa [e] using hown.drewN nq, below_drewN hbr nq⟩, by simp [intOf]; omega⟩
    · obtain rfl : k = l.length := by omega
      go_wp2
      go_ret
      exact .mk' (by unfold withL; rw [← Hall.out]; exact hown.more (by omega)) hbw

theorem RetInts.at_ {w W w' : World} {l : List Int} {u : Value} (hb : Below w.heap.size w W) (h1 : OwnInts w' W.heap.size u l) (h2 : Below W.heap.size W w') : RetInts w l (.returned u) w' := .mk' (h1.more hb.size) (Below.up hb h2)

set_option maxHeartbeats 1000000 in
theorem WithPrio_any (v : Value) (g : ParityD) (u : Value) (l : List Int) (x : Int) (w : World) (hv : IsParity w v g) (hu : Ints w u l) (hl : l.length ≤ 1048576) :
    Calls Try.prog 27 #[v, u, .int .i64 x] w (RetInts w (withG g l x)) := by
  obtain ⟨o, n, p, rfl, hbw, hB⟩ := parity_box hv
  obtain ⟨ha, hp⟩ := hv.parts
  cases hE : parityOkB g
  · have hres : withG g l x = [] := by unfold withG; rw [hE]; rfl
    rw [hres]; clear hres
    go_enter Try.func27, Try.ntmps27
    have hBz := hB.lt
    have hBc0 := hB.c0
    have hBc1 := hB.c1
    have hBc2 := hB.c2
    go_wp2_with fail
    refine (ParityOk_any _ g _ (hv.kept (Kept.of hbw))).mono ?_
    rintro e w1 ⟨rfl, hb1⟩
    clear hBc0 hBc1 hBc2 hBz
    replace hB := hB.below hb1 hB.lt
    replace hbw := Below.up hbw hb1
    have hb1s := hb1.size
    clear hb1
    have hBz := hB.lt
    have hBc0 := hB.c0
    have hBc1 := hB.c1
    have hBc2 := hB.c2
    go_wp2
    go_ret
    exact .mk' (OwnInts.nil _ _) hbw
  · have hok := parityOkB_iff.1 hE
    cases hE2 : isSetB l g.arena.owner.length
    · have hres : withG g l x = [] := by unfold withG; rw [hE, hE2]; rfl
      rw [hres]; clear hres
      go_enter Try.func27, Try.ntmps27
      have hBz := hB.lt
      have hBc0 := hB.c0
      have hBc1 := hB.c1
      have hBc2 := hB.c2
      go_wp2_with fail
      refine (ParityOk_any _ g _ (hv.kept (Kept.of hbw))).mono ?_
      rintro e w1 ⟨rfl, hb1⟩
      clear hBc0 hBc1 hBc2 hBz
      replace hB := hB.below hb1 hB.lt
      replace hbw := Below.up hbw hb1
      have hb1s := hb1.size
      clear hb1
      have hBz := hB.lt
      have hBc0 := hB.c0
      have hBc1 := hB.c1
      have hBc2 := hB.c2
      go_wp2_with fail
      refine (size_any _ g.arena _ (ha.kept (Kept.of hbw))).mono ?_
      rintro e w2 ⟨rfl, hb2⟩
      clear hBc0 hBc1 hBc2 hBz
      replace hB := hB.below hb2 hB.lt
      replace hbw := Below.up hbw hb2
      have hb2s := hb2.size
      clear hb2
      have hBz := hB.lt
      have hBc0 := hB.c0
      have hBc1 := hB.c1
      have hBc2 := hB.c2
      go_wp2_with fail
      refine (same_below (isSet_any _ l _ _ (hu.kept (Kept.of hbw)))).mono ?_
      rintro e w3 ⟨rfl, hb3⟩
      clear hBc0 hBc1 hBc2 hBz
      replace hB := hB.below hb3 hB.lt
      replace hbw := Below.up hbw hb3
      have hb3s := hb3.size
      clear hb3
      have hBz := hB.lt
      have hBc0 := hB.c0
      have hBc1 := hB.c1
      have hBc2 := hB.c2
      go_wp2
      go_ret
      exact .mk' (OwnInts.nil _ _) hbw
    · have hres : withG g l x = withL g.prio l x := by unfold withG; rw [hE, hE2]; rfl
      have hr : ∀ k, k < l.length → ∃ j : Nat, ix l k = (j : Int) ∧ j < g.prio.length := fun k hk => by rw [hok.len]; exact (isSetB_iff.1 hE2).at_ hk
      rw [hres]; clear hres
      go_enter Try.func27, Try.ntmps27
      have hBz := hB.lt
      have hBc0 := hB.c0
      have hBc1 := hB.c1
      have hBc2 := hB.c2
      go_wp2_with fail
      refine (ParityOk_any _ g _ (hv.kept (Kept.of hbw))).mono ?_
      rintro e w1 ⟨rfl, hb1⟩
      clear hBc0 hBc1 hBc2 hBz
      replace hB := hB.below hb1 hB.lt
      replace hbw := Below.up hbw hb1
      have hb1s := hb1.size
      clear hb1
      have hBz := hB.lt
      have hBc0 := hB.c0
      have hBc1 := hB.c1
      have hBc2 := hB.c2
      go_wp2_with fail
      refine (size_any _ g.arena _ (ha.kept (Kept.of hbw))).mono ?_
      rintro e w2 ⟨rfl, hb2⟩
      clear hBc0 hBc1 hBc2 hBz
      replace hB := hB.below hb2 hB.lt
      replace hbw := Below.up hbw hb2
      have hb2s := hb2.size
      clear hb2
      have hBz := hB.lt
      have hBc0 := hB.c0
      have hBc1 := hB.c1
      have hBc2 := hB.c2
      go_wp2_with fail
      refine (same_below (isSet_any _ l _ _ (hu.kept (Kept.of hbw)))).mono ?_
      rintro e w3 ⟨rfl, hb3⟩
      clear hBc0 hBc1 hBc2 hBz
      replace hB := hB.below hb3 hB.lt
      replace hbw := Below.up hbw hb3
      have hb3s := hb3.size
      clear hb3
      have hBz := hB.lt
      have hBc0 := hB.c0
      have hBc1 := hB.c1
      have hBc2 := hB.c2
      go_wp2_with fail
      refine (withPrio_any _ g _ l x _ (hv.kept (Kept.of hbw)) (hu.kept (Kept.of hbw)) hr hl).mono ?_
      rintro e w9 ⟨u9, rfl, ho9, hb9⟩
      go_wp2
      go_ret
      exact .at_ hbw ho9 hb9

set_option maxHeartbeats 1000000 in
theorem specWithPrio_any (v : Value) (g : ParityD) (u : Value) (l : List Int) (x : Int) (w : World) (hv : IsParity w v g) (hu : Ints w u l) (hl : l.length ≤ 1048576) :
    Calls Try.prog 26 #[v, u, .int .i64 x] w (RetInts w (withG g l x)) := by
  obtain ⟨o, n, p, rfl, hbw, hB⟩ := parity_box hv
  cases hE : parityOkB g
  · have hres : withG g l x = [] := by unfold withG; rw [hE]; rfl
    rw [hres]; clear hres
    go_enter Try.func26, Try.ntmps26
    have hBz := hB.lt
    have hBc0 := hB.c0
    have hBc1 := hB.c1
    have hBc2 := hB.c2
    go_wp2_with fail
    refine (specParityOk_any _ g _ (hv.kept (Kept.of hbw))).mono ?_
    rintro e w1 ⟨rfl, hb1⟩
    clear hBc0 hBc1 hBc2 hBz
    replace hB := hB.below hb1 hB.lt
    replace hbw := Below.up hbw hb1
    have hb1s := hb1.size
    clear hb1
    have hBz := hB.lt
    have hBc0 := hB.c0
    have hBc1 := hB.c1
    have hBc2 := hB.c2
    obtain ⟨hown, hbn⟩ := new_ints w1
    go_wp2
    go_ret
    exact .at_ hbw hown hbn
  · have hok := parityOkB_iff.1 hE
    cases hE2 : isSetB l g.prio.length
    · have hres : withG g l x = [] := by unfold withG; rw [hE, ← hok.len, hE2]; rfl
      rw [hres]; clear hres
      go_enter Try.func26, Try.ntmps26
      have hBz := hB.lt
      have hBc0 := hB.c0
      have hBc1 := hB.c1
      have hBc2 := hB.c2
      go_wp2_with fail
      refine (specParityOk_any _ g _ (hv.kept (Kept.of hbw))).mono ?_
      rintro e w1 ⟨rfl, hb1⟩
      clear hBc0 hBc1 hBc2 hBz
      replace hB := hB.below hb1 hB.lt
      replace hbw := Below.up hbw hb1
      have hb1s := hb1.size
      clear hb1
      have hBz := hB.lt
      have hBc0 := hB.c0
      have hBc1 := hB.c1
      have hBc2 := hB.c2
      go_wp2_with fail
      refine (l4Set_any _ g _ l _ (hv.kept (Kept.of hbw)) (hu.kept (Kept.of hbw))).mono ?_
      rintro e w2 ⟨rfl, hb2⟩
      clear hBc0 hBc1 hBc2 hBz
      replace hB := hB.below hb2 hB.lt
      replace hbw := Below.up hbw hb2
      have hb2s := hb2.size
      clear hb2
      have hBz := hB.lt
      have hBc0 := hB.c0
      have hBc1 := hB.c1
      have hBc2 := hB.c2
      obtain ⟨hown, hbn⟩ := new_ints w2
      go_wp2
      go_ret
      exact .at_ hbw hown hbn
    · have hres : withG g l x = withL g.prio l x := by unfold withG; rw [hE, ← hok.len, hE2]; rfl
      have hr : ∀ k, k < l.length → ∃ j : Nat, ix l k = (j : Int) ∧ j < g.prio.length := fun k hk => (isSetB_iff.1 hE2).at_ hk
      rw [hres]; clear hres
      go_enter Try.func26, Try.ntmps26
      have hBz := hB.lt
      have hBc0 := hB.c0
      have hBc1 := hB.c1
      have hBc2 := hB.c2
      go_wp2_with fail
      refine (specParityOk_any _ g _ (hv.kept (Kept.of hbw))).mono ?_
      rintro e w1 ⟨rfl, hb1⟩
      clear hBc0 hBc1 hBc2 hBz
      replace hB := hB.below hb1 hB.lt
      replace hbw := Below.up hbw hb1
      have hb1s := hb1.size
      clear hb1
      have hBz := hB.lt
      have hBc0 := hB.c0
      have hBc1 := hB.c1
      have hBc2 := hB.c2
      go_wp2_with fail
      refine (l4Set_any _ g _ l _ (hv.kept (Kept.of hbw)) (hu.kept (Kept.of hbw))).mono ?_
      rintro e w2 ⟨rfl, hb2⟩
      clear hBc0 hBc1 hBc2 hBz
      replace hB := hB.below hb2 hB.lt
      replace hbw := Below.up hbw hb2
      have hb2s := hb2.size
      clear hb2
      have hBz := hB.lt
      have hBc0 := hB.c0
      have hBc1 := hB.c1
      have hBc2 := hB.c2
      go_wp2_with fail
      refine (l4With_any _ g _ l x _ (hv.kept (Kept.of hbw)) (hu.kept (Kept.of hbw)) hr hl).mono ?_
      rintro e w9 ⟨u9, rfl, ho9, hb9⟩
      go_wp2
      go_ret
      exact .at_ hbw ho9 hb9
end Go.Proofs.Ytogapgdpcgfjhaa
