/- The walks of the reference's RanksIn, Attract and PullIn. No condition. Printed by gen_rank5.py. -/
import Derived.Test.YtogfpalgnjlfcaaRankWalks4
namespace Go.Proofs.Ytogfpalgnjlfcaa
set_option linter.unusedSimpArgs false
set_option linter.unusedVariables false
open Go.RowKit

theorem ranksG_len (a : ArenaD) (who : Int) (s goal : List Int) : (ranksG a who s goal).length ≤ 1048576 := by
  unfold ranksG
  split
  · rename_i h
    have := (canB_parts h).1.le
    simp; omega
  · simp
theorem attrG_len (a : ArenaD) (who : Int) (s goal : List Int) : (attrG a who s goal).length ≤ 1048576 := by
  unfold attrG
  split
  · rename_i h
    have h1 := (canB_parts h).1.le
    have h2 := attrTo_len (ranksL a who s goal) a.owner.length
    unfold attrL
    omega
  · simp
theorem pullG_len (a : ArenaD) (who : Int) (s goal : List Int) : (pullG a who s goal).length ≤ 1048576 := by
  unfold pullG
  split
  · rename_i h
    have := (canB_parts h).1.le
    simp; omega
  · simp
theorem canB_l3 (a : ArenaD) (who : Int) (s t : List Int) : canB a who s t = (l3OkB a who s && l3OkB a who t) := by
  unfold canB l3OkB
  cases arenaOkB a <;> cases playerB who <;> cases isSetB s (a.owner.length : Int) <;> simp

set_option maxRecDepth 100000 in
set_option maxHeartbeats 4000000 in
theorem l3Attract_any (v : Value) (a : ArenaD) (who : Int) (u : Value) (s : List Int) (y : Value) (goal : List Int) (w : World) (hv : IsArena w v a) (hu : Ints w u s) (hy : Ints w y goal) (hok : ArenaOk a) (hs : IsSet s a.owner.length) (hg : IsSet goal a.owner.length) :
    Calls Try.prog 62 #[v, .int .i64 who, u, y] w (RetInts w (attrL a who s goal)) := by
  obtain ⟨o, n, rfl, hbw, hB⟩ := arena_open hv
  have hle := hok.le
  go_enter Try.func62, Try.ntmps62
  have hBz := hB.lt
  have hBc0 := hB.c0
  have hBc1 := hB.c1
  go_wp2_with fail
  refine (l3Ranks_any _ a who _ s _ goal _ (hv.kept (Kept.of hbw)) (hu.kept (Kept.of hbw)) (hy.kept (Kept.of hbw)) hok hs hg).mono ?_
  rintro e w2 ⟨ur, rfl, hR, hb2⟩
  obtain ⟨A, c, e1, _⟩ := hR.ints.form
  rw [length_ranksL] at e1
  subst e1
  clear hBc0 hBc1 hBz
  replace hB := hB.below hb2 hB.lt
  replace hbw := Below.up hbw hb2
  have hb2s := hb2.size
  clear hb2
  have hBz := hB.lt
  have hBc0 := hB.c0
  have hBc1 := hB.c1
  clear hBc0 hBc1 hBz
  have hw2 := hbw.size
  obtain ⟨hown, hbn⟩ := new_ints w2
  have hR2 := OI.of hR
  have Hall := Lib.hid (show attrTo (ranksL a who s goal) a.owner.length = attrL a who s goal from rfl)
  have Hlen := Lib.hid (length_ranksL (a := a) (who := who) (s := s) (goal := goal))
  generalize ranksL a who s goal = rl at *
  go_wp2
  generalize w2.alloc (.cells #[] 2) = w3 at *
  go_loopw [10, 11] (fun v i wr => ∃ k : Nat, k ≤ a.owner.length ∧ i = .int .i64 k ∧ OwnInts wr w2.heap.size v (attrTo rl k) ∧ Below w2.heap.size w2 wr) (fun _ i _ => a.owner.length - (intOf i).toNat)
  case atStart => exact ⟨0, Nat.zero_le _, rfl, hown, hbn⟩
  case round =>
    obtain ⟨k, hk, rfl, hown, hbr⟩ := hrel
    have hbs := hbr.size
    have hRr := (hR2.below hbr).ints
    by_cases hlt : k < a.owner.length
    · obtain ⟨a1, rfl, hc1⟩ := hRr.at_ (k := k) (by rw [Hlen.out]; exact hlt)
      have hl := attrTo_len rl k
      have Hs := Lib.hid (attrTo_succ rl k)
      have hlt' : (k : Int) < a.owner.length := by omega
      by_cases e : 0 ≤ ix rl k
      · have hd : decide (0 ≤ ix rl k) = true := decide_eq_true e
        rw [hd] at Hs
        clear e
        go_wp2_with (at_builtin; refine append_int _ rfl (.tmp 29) (.tmp 31) rfl w2.heap.size u10 _ rfl hown (k : Int) rfl (by omega) hbs ?_; intro v1 w4 ho1 hb1 hg1 hl1)
        exact ⟨⟨k + 1, by omega, by go_num, by rw [Hs.out]; exact ho1, hbr.trans hb1⟩, by simp [intOf]; omega⟩
      · have hd : decide (0 ≤ ix rl k) = false := decide_eq_false e
        rw [hd] at Hs
        clear e
        go_wp2
        exact ⟨⟨k + 1, by omega, by go_num, by rw [Hs.out]; simpa using hown, hbr⟩, by simp [intOf]; omega⟩
    · obtain rfl : k = a.owner.length := by omega
      rw [Hall.out] at hown
      go_wp2
      go_ret
      exact .mk' (hown.more hw2) (Below.up hbw hbr)


set_option maxRecDepth 100000 in
set_option maxHeartbeats 4000000 in
theorem specRanksIn_any (v : Value) (a : ArenaD) (who : Int) (u : Value) (s : List Int) (y : Value) (goal : List Int) (w : World) (hv : IsArena w v a) (hu : Ints w u s) (hy : Ints w y goal) :
    Calls Try.prog 32 #[v, .int .i64 who, u, y] w (RetInts w (ranksG a who s goal)) := by
  obtain ⟨o, n, rfl, hbw, hB⟩ := arena_open hv
  cases hE : l3OkB a who s
  · have hres : ranksG a who s goal = [] := by unfold ranksG; rw [canB_l3, hE]; rfl
    rw [hres]; clear hres
    go_enter Try.func32, Try.ntmps32
    have hBz := hB.lt
    have hBc0 := hB.c0
    have hBc1 := hB.c1
    go_wp2_with fail
    refine (l3Ok_any _ a who _ s _ (hv.kept (Kept.of hbw)) (hu.kept (Kept.of hbw))).mono ?_
    rintro e w1 ⟨rfl, hb1⟩
    clear hBc0 hBc1 hBz
    replace hB := hB.below hb1 hB.lt
    replace hbw := Below.up hbw hb1
    have hb1s := hb1.size
    clear hb1
    have hBz := hB.lt
    have hBc0 := hB.c0
    have hBc1 := hB.c1
    obtain ⟨hown, hbn⟩ := new_ints w1
    go_wp2
    go_ret
    exact .mk' (hown.more hbw.size) (Below.up hbw hbn)
  · cases hE2 : l3OkB a who goal
    · have hres : ranksG a who s goal = [] := by unfold ranksG; rw [canB_l3, hE, hE2]; rfl
      rw [hres]; clear hres
      go_enter Try.func32, Try.ntmps32
      have hBz := hB.lt
      have hBc0 := hB.c0
      have hBc1 := hB.c1
      go_wp2_with fail
      refine (l3Ok_any _ a who _ s _ (hv.kept (Kept.of hbw)) (hu.kept (Kept.of hbw))).mono ?_
      rintro e w1 ⟨rfl, hb1⟩
      clear hBc0 hBc1 hBz
      replace hB := hB.below hb1 hB.lt
      replace hbw := Below.up hbw hb1
      have hb1s := hb1.size
      clear hb1
      have hBz := hB.lt
      have hBc0 := hB.c0
      have hBc1 := hB.c1
      go_wp2_with fail
      refine (l3Ok_any _ a who _ goal _ (hv.kept (Kept.of hbw)) (hy.kept (Kept.of hbw))).mono ?_
      rintro e w2 ⟨rfl, hb2⟩
      clear hBc0 hBc1 hBz
      replace hB := hB.below hb2 hB.lt
      replace hbw := Below.up hbw hb2
      have hb2s := hb2.size
      clear hb2
      have hBz := hB.lt
      have hBc0 := hB.c0
      have hBc1 := hB.c1
      obtain ⟨hown, hbn⟩ := new_ints w2
      go_wp2
      go_ret
      exact .mk' (hown.more hbw.size) (Below.up hbw hbn)
    · have hres : ranksG a who s goal = ranksL a who s goal := by unfold ranksG; rw [canB_l3, hE, hE2]; rfl
      have hok := (l3OkB_iff.1 hE).arena
      have hs := (l3OkB_iff.1 hE).set
      have hg := (l3OkB_iff.1 hE2).set
      rw [hres]; clear hres
      go_enter Try.func32, Try.ntmps32
      have hBz := hB.lt
      have hBc0 := hB.c0
      have hBc1 := hB.c1
      go_wp2_with fail
      refine (l3Ok_any _ a who _ s _ (hv.kept (Kept.of hbw)) (hu.kept (Kept.of hbw))).mono ?_
      rintro e w1 ⟨rfl, hb1⟩
      clear hBc0 hBc1 hBz
      replace hB := hB.below hb1 hB.lt
      replace hbw := Below.up hbw hb1
      have hb1s := hb1.size
      clear hb1
      have hBz := hB.lt
      have hBc0 := hB.c0
      have hBc1 := hB.c1
      go_wp2_with fail
      refine (l3Ok_any _ a who _ goal _ (hv.kept (Kept.of hbw)) (hy.kept (Kept.of hbw))).mono ?_
      rintro e w2 ⟨rfl, hb2⟩
      clear hBc0 hBc1 hBz
      replace hB := hB.below hb2 hB.lt
      replace hbw := Below.up hbw hb2
      have hb2s := hb2.size
      clear hb2
      have hBz := hB.lt
      have hBc0 := hB.c0
      have hBc1 := hB.c1
      go_wp2_with fail
      refine (l3Ranks_any _ a who _ s _ goal _ (hv.kept (Kept.of hbw)) (hu.kept (Kept.of hbw)) (hy.kept (Kept.of hbw)) hok hs hg).mono ?_
      rintro e w9 ⟨u9, rfl, ho9, hb9⟩
      go_wp2
      go_ret
      exact .at_ hbw ho9 hb9


set_option maxRecDepth 100000 in
set_option maxHeartbeats 4000000 in
theorem specAttract_any (v : Value) (a : ArenaD) (who : Int) (u : Value) (s : List Int) (y : Value) (goal : List Int) (w : World) (hv : IsArena w v a) (hu : Ints w u s) (hy : Ints w y goal) :
    Calls Try.prog 25 #[v, .int .i64 who, u, y] w (RetInts w (attrG a who s goal)) := by
  obtain ⟨o, n, rfl, hbw, hB⟩ := arena_open hv
  cases hE : l3OkB a who s
  · have hres : attrG a who s goal = [] := by unfold attrG; rw [canB_l3, hE]; rfl
    rw [hres]; clear hres
    go_enter Try.func25, Try.ntmps25
    have hBz := hB.lt
    have hBc0 := hB.c0
    have hBc1 := hB.c1
    go_wp2_with fail
    refine (l3Ok_any _ a who _ s _ (hv.kept (Kept.of hbw)) (hu.kept (Kept.of hbw))).mono ?_
    rintro e w1 ⟨rfl, hb1⟩
    clear hBc0 hBc1 hBz
    replace hB := hB.below hb1 hB.lt
    replace hbw := Below.up hbw hb1
    have hb1s := hb1.size
    clear hb1
    have hBz := hB.lt
    have hBc0 := hB.c0
    have hBc1 := hB.c1
    obtain ⟨hown, hbn⟩ := new_ints w1
    go_wp2
    go_ret
    exact .mk' (hown.more hbw.size) (Below.up hbw hbn)
  · cases hE2 : l3OkB a who goal
    · have hres : attrG a who s goal = [] := by unfold attrG; rw [canB_l3, hE, hE2]; rfl
      rw [hres]; clear hres
      go_enter Try.func25, Try.ntmps25
      have hBz := hB.lt
      have hBc0 := hB.c0
      have hBc1 := hB.c1
      go_wp2_with fail
      refine (l3Ok_any _ a who _ s _ (hv.kept (Kept.of hbw)) (hu.kept (Kept.of hbw))).mono ?_
      rintro e w1 ⟨rfl, hb1⟩
      clear hBc0 hBc1 hBz
      replace hB := hB.below hb1 hB.lt
      replace hbw := Below.up hbw hb1
      have hb1s := hb1.size
      clear hb1
      have hBz := hB.lt
      have hBc0 := hB.c0
      have hBc1 := hB.c1
      go_wp2_with fail
      refine (l3Ok_any _ a who _ goal _ (hv.kept (Kept.of hbw)) (hy.kept (Kept.of hbw))).mono ?_
      rintro e w2 ⟨rfl, hb2⟩
      clear hBc0 hBc1 hBz
      replace hB := hB.below hb2 hB.lt
      replace hbw := Below.up hbw hb2
      have hb2s := hb2.size
      clear hb2
      have hBz := hB.lt
      have hBc0 := hB.c0
      have hBc1 := hB.c1
      obtain ⟨hown, hbn⟩ := new_ints w2
      go_wp2
      go_ret
      exact .mk' (hown.more hbw.size) (Below.up hbw hbn)
    · have hres : attrG a who s goal = attrL a who s goal := by unfold attrG; rw [canB_l3, hE, hE2]; rfl
      have hok := (l3OkB_iff.1 hE).arena
      have hs := (l3OkB_iff.1 hE).set
      have hg := (l3OkB_iff.1 hE2).set
      rw [hres]; clear hres
      go_enter Try.func25, Try.ntmps25
      have hBz := hB.lt
      have hBc0 := hB.c0
      have hBc1 := hB.c1
      go_wp2_with fail
      refine (l3Ok_any _ a who _ s _ (hv.kept (Kept.of hbw)) (hu.kept (Kept.of hbw))).mono ?_
      rintro e w1 ⟨rfl, hb1⟩
      clear hBc0 hBc1 hBz
      replace hB := hB.below hb1 hB.lt
      replace hbw := Below.up hbw hb1
      have hb1s := hb1.size
      clear hb1
      have hBz := hB.lt
      have hBc0 := hB.c0
      have hBc1 := hB.c1
      go_wp2_with fail
      refine (l3Ok_any _ a who _ goal _ (hv.kept (Kept.of hbw)) (hy.kept (Kept.of hbw))).mono ?_
      rintro e w2 ⟨rfl, hb2⟩
      clear hBc0 hBc1 hBz
      replace hB := hB.below hb2 hB.lt
      replace hbw := Below.up hbw hb2
      have hb2s := hb2.size
      clear hb2
      have hBz := hB.lt
      have hBc0 := hB.c0
      have hBc1 := hB.c1
      go_wp2_with fail
      refine (l3Attract_any _ a who _ s _ goal _ (hv.kept (Kept.of hbw)) (hu.kept (Kept.of hbw)) (hy.kept (Kept.of hbw)) hok hs hg).mono ?_
      rintro e w9 ⟨u9, rfl, ho9, hb9⟩
      go_wp2
      go_ret
      exact .at_ hbw ho9 hb9


end Go.Proofs.Ytogfpalgnjlfcaa
