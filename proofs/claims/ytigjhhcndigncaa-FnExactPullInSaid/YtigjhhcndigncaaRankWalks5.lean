/- The walks of the reference's RanksIn, Attract and PullIn. No condition. Printed by gen_rank5.py. -/
import Derived.Test.YtigjhhcndigncaaRankWalks4
namespace Go.Proofs.Ytigjhhcndigncaa
set_option linter.unusedSimpArgs false
set_option linter.unusedVariables false
open Go.RowKit

theorem ranksG_len (a : ArenaD) (who : Int) (s goal : List Int) : (ranksG a who s goal).length ≤ 1048576 := by
  unfold ranksG
  split
  · rename_i h
    have := (canB_parts h).1.le
    simp; omega
  · simp
theorem attrG_len (a : ArenaD) (who : Int) (s goal : List Int) : (attrG a who s goal).length ≤ 1048576 := by
  unfold attrG
  split
  · rename_i h
    have h1 := (canB_parts h).1.le
    have h2 := attrTo_len (ranksL a who s goal) a.owner.length
    unfold attrL
    omega
  · simp
theorem pullG_len (a : ArenaD) (who : Int) (s goal : List Int) : (pullG a who s goal).length ≤ 1048576 := by
  unfold pullG
  split
  · rename_i h
    have := (canB_parts h).1.le
    simp; omega
  · simp
theorem canB_l3 (a : ArenaD) (who : Int) (s t : List Int) : canB a who s t = (l3OkB a who s && l3OkB a who t) := by
  unfold canB l3OkB
  cases arenaOkB a <;> cases playerB who <;> cases isSetB s (a.owner.length : Int) <;> simp

set_option maxRecDepth 100000 in
set_option maxHeartbeats 4000000 in
theorem l3Attract_any (v : Value) (a : ArenaD) (who : Int) (u : Value) (s : List Int) (y : Value) (goal : List Int) (w : World) (hv : IsArena w v a) (hu : Ints w u s) (hy : Ints w y goal) (hok : ArenaOk a) (hs : IsSet s a.owner.length) (hg : IsSet goal a.owner.length) :
    Calls Try.prog 93 #[v, .int .i64 who, u, y] w (RetInts w (attrL a who s goal)) := by
  obtain ⟨o, n, rfl, hbw, hB⟩ := arena_open hv
  have hle := hok.le
  go_enter Try.func93, Try.ntmps93
  have hBz := hB.lt
  have hBc0 := hB.c0
  have hBc1 := hB.c1
  go_wp2_with fail
  refine (l3Ranks_any _ a who _ s _ goal _ (hv.kept (Kept.of hbw)) (hu.kept (Kept.of hbw)) (hy.kept (Kept.of hbw)) hok hs hg).mono ?_
  rintro e w2 ⟨ur, rfl, hR, hb2⟩
  obtain ⟨A, c, e1, _⟩ := hR.ints.form
  rw [length_ranksL] at e1
  subst e1
  clear hBc0 hBc1 hBz
  replace hB := hB.below hb2 hB.lt
  replace hbw := Below.up hbw hb2
  have hb2s := hb2.size
  clear hb2
  have hBz := hB.lt
  have hBc0 := hB.c0
  have hBc1 := hB.c1
  clear hBc0 hBc1 hBz
  have hw2 := hbw.size
  obtain ⟨hown, hbn⟩ := new_ints w2
  have hR2 := OI.of hR
  have Hall := Lib.hid (show attrTo (ranksL a who s goal) a.owner.length = attrL a who s goal from rfl)
  have Hlen := Lib.hid (length_ranksL (a := a) (who := who) (s := s) (goal := goal))
  generalize ranksL a who s goal = rl at *
  go_wp2
  generalize w2.alloc (.cells #[] 2) = w3 at *
  go_loopw [10, 11] (fun v i wr => ∃ k : Nat, k ≤ a.owner.length ∧ i = .int .i64 k ∧ OwnInts wr w2.heap.size v (attrTo rl k) ∧ Below w2.heap.size w2 wr) (fun _ i _ => a.owner.length - (intOf i).toNat)
  case atStart => exact ⟨0, Nat.zero_le _, rfl, hown, hbn⟩
  case round =>
    obtain ⟨k, hk, rfl, hown, hbr⟩ := hrel
    have hbs := hbr.size
    have hRr := (hR2.below hbr).ints
    by_cases hlt : k < a.owner.length
    · obtain ⟨a1, rfl, hc1⟩ := hRr.at_ (k := k) (by rw [Hlen.out]; exact hlt)
      have hl := attrTo_len rl k
      have Hs := Lib.hid (attrTo_succ rl k)
      have hlt' : (k : Int) < a.owner.length := by omega
      by_cases e : 0 ≤ ix rl k
      · have hd : decide (0 ≤ ix rl k) = true := decide_eq_true e
        rw [hd] at Hs
        clear e
        go_wp2_with (at_builtin; refine append_int _ rfl (.tmp 29) (.tmp 31) rfl w2.heap.size u10 _ rfl hown (k : Int) rfl (by omega) hbs ?_; intro v1 w4 ho1 hb1 hg1 hl1)
        exact ⟨⟨k + 1, by omega, by go_num, by rw [Hs.out]; exact ho1, hbr.trans hb1⟩, by simp [intOf]; omega⟩
      · have hd : decide (0 ≤ ix rl k) = false := decide_eq_false e
        rw [hd] at Hs
        clear e
        go_wp2
        exact ⟨⟨k + 1, by omega, by go_num, by rw [Hs.out]; simpa using hown, hbr⟩, by simp [intOf]; omega⟩
    · obtain rfl : k = a.owner.length := by omega
      rw [Hall.out] at hown
      go_wp2
      go_ret
      exact .mk' (hown.more hw2) (Below.up hbw hbr)


set_option maxRecDepth 100000 in
set_option maxHeartbeats 4000000 in
theorem specRanksIn_any (v : Value) (a : ArenaD) (who : Int) (u : Value) (s : List Int) (y : Value) (goal : List Int) (w : World) (hv : IsArena w v a) (hu : Ints w u s) (hy : Ints w y goal) :
    Calls Try.prog 39 #[v, .int .i64 who, u, y] w (RetInts w (ranksG a who s goal)) := by
  obtain ⟨o, n, rfl, hbw, hB⟩ := arena_open hv
  cases hE : l3OkB a who s
  · have hres : ranksG a who s goal = [] := by unfold ranksG; rw [canB_l3, hE]; rfl
    rw [hres]; clear hres
    go_enter Try.func39, Try.ntmps39
    have hBz := hB.lt
    have hBc0 := hB.c0
    have hBc1 := hB.c1
    go_wp2_with fail
    refine (l3Ok_any _ a who _ s _ (hv.kept (Kept.of hbw)) (hu.kept (Kept.of hbw))).mono ?_
    rintro e w1 ⟨rfl, hb1⟩
    clear hBc0 hBc1 hBz
    replace hB := hB.below hb1 hB.lt
    replace hbw := Below.up hbw hb1
    have hb1s := hb1.size
    clear hb1
    have hBz := hB.lt
    have hBc0 := hB.c0
    have hBc1 := hB.c1
    obtain ⟨hown, hbn⟩ := new_ints w1
    go_wp2
    go_ret
    exact .mk' (hown.more hbw.size) (Below.up hbw hbn)
  · cases hE2 : l3OkB a who goal
    · have hres : ranksG a who s goal = [] := by unfold ranksG; rw [canB_l3, hE, hE2]; rfl
      rw [hres]; clear hres
      go_enter Try.func39, Try.ntmps39
      have hBz := hB.lt
      have hBc0 := hB.c0
      have hBc1 := hB.c1
      go_wp2_with fail
      refine (l3Ok_any _ a who _ s _ (hv.kept (Kept.of hbw)) (hu.kept (Kept.of hbw))).mono ?_
      rintro e w1 ⟨rfl, hb1⟩
      clear hBc0 hBc1 hBz
      replace hB := hB.below hb1 hB.lt
      replace hbw := Below.up hbw hb1
      have hb1s := hb1.size
      clear hb1
      have hBz := hB.lt
      have hBc0 := hB.c0
      have hBc1 := hB.c1
      go_wp2_with fail
      refine (l3Ok_any _ a who _ goal _ (hv.kept (Kept.of hbw)) (hy.kept (Kept.of hbw))).mono ?_
      rintro e w2 ⟨rfl, hb2⟩
      clear hBc0 hBc1 hBz
      replace hB := hB.below hb2 hB.lt
      replace hbw := Below.up hbw hb2
      have hb2s := hb2.size
      clear hb2
      have hBz := hB.lt
      have hBc0 := hB.c0
      have hBc1 := hB.c1
      obtain ⟨hown, hbn⟩ := new_ints w2
      go_wp2
      go_ret
      exact .mk' (hown.more hbw.size) (Below.up hbw hbn)
    · have hres : ranksG a who s goal = ranksL a who s goal := by unfold ranksG; rw [canB_l3, hE, hE2]; rfl
      have hok := (l3OkB_iff.1 hE).arena
      have hs := (l3OkB_iff.1 hE).set
      have hg := (l3OkB_iff.1 hE2).set
      rw [hres]; clear hres
      go_enter Try.func39, Try.ntmps39
      have hBz := hB.lt
      have hBc0 := hB.c0
      have hBc1 := hB.c1
      go_wp2_with fail
      refine (l3Ok_any _ a who _ s _ (hv.kept (Kept.of hbw)) (hu.kept (Kept.of hbw))).mono ?_
      rintro e w1 ⟨rfl, hb1⟩
      clear hBc0 hBc1 hBz
      replace hB := hB.below hb1 hB.lt
      replace hbw := Below.up hbw hb1
      have hb1s := hb1.size
      clear hb1
      have hBz := hB.lt
      have hBc0 := hB.c0
      have hBc1 := hB.c1
      go_wp2_with fail
      refine (l3Ok_any _ a who _ goal _ (hv.kept (Kept.of hbw)) (hy.kept (Kept.of hbw))).mono ?_
      rintro e w2 ⟨rfl, hb2⟩
      clear hBc0 hBc1 hBz
      replace hB := hB.below hb2 hB.lt
      replace hbw := Below.up hbw hb2
      have hb2s := hb2.size
      clear hb2
      have hBz := hB.lt
      have hBc0 := hB.c0
      have hBc1 := hB.c1
      go_wp2_with fail
      refine (l3Ranks_any _ a who _ s _ goal _ (hv.kept (Kept.of hbw)) (hu.kept (Kept.of hbw)) (hy.kept (Kept.of hbw)) hok hs hg).mono ?_
      rintro e w9 ⟨u9, rfl, ho9, hb9⟩
      go_wp2
      go_ret
      exact .at_ hbw ho9 hb9


set_option maxRecDepth 100000 in
set_option maxHeartbeats 4000000 in
theorem specAttract_any (v : Value) (a : ArenaD) (who : Int) (u : Value) (s : List Int) (y : Value) (goal : List Int) (w : World) (hv : IsArena w v a) (hu : Ints w u s) (hy : Ints w y goal) :
    Calls Try.prog 41 #[v, .int .i64 who, u, y] w (RetInts w (attrG a who s goal)) := by
  obtain ⟨o, n, rfl, hbw, hB⟩ := arena_open hv
  cases hE : l3OkB a who s
  · have hres : attrG a who s goal = [] := by unfold attrG; rw [canB_l3, hE]; rfl
    rw [hres]; clear hres
    go_enter Try.func41, Try.ntmps41
    have hBz := hB.lt
    have hBc0 := hB.c0
    have hBc1 := hB.c1
    go_wp2_with fail
    refine (l3Ok_any _ a who _ s _ (hv.kept (Kept.of hbw)) (hu.kept (Kept.of hbw))).mono ?_
    rintro e w1 ⟨rfl, hb1⟩
    clear hBc0 hBc1 hBz
    replace hB := hB.below hb1 hB.lt
    replace hbw := Below.up hbw hb1
    have hb1s := hb1.size
    clear hb1
    have hBz := hB.lt
    have hBc0 := hB.c0
    have hBc1 := hB.c1
    obtain ⟨hown, hbn⟩ := new_ints w1
    go_wp2
    go_ret
    exact .mk' (hown.more hbw.size) (Below.up hbw hbn)
  · cases hE2 : l3OkB a who goal
    · have hres : attrG a who s goal = [] := by unfold attrG; rw [canB_l3, hE, hE2]; rfl
      rw [hres]; clear hres
      go_enter Try.func41, Try.ntmps41
      have hBz := hB.lt
      have hBc0 := hB.c0
      have hBc1 := hB.c1
      go_wp2_with fail
      refine (l3Ok_any _ a who _ s _ (hv.kept (Kept.of hbw)) (hu.kept (Kept.of hbw))).mono ?_
      rintro e w1 ⟨rfl, hb1⟩
      clear hBc0 hBc1 hBz
      replace hB := hB.below hb1 hB.lt
      replace hbw := Below.up hbw hb1
      have hb1s := hb1.size
      clear hb1
      have hBz := hB.lt
      have hBc0 := hB.c0
      have hBc1 := hB.c1
      go_wp2_with fail
      refine (l3Ok_any _ a who _ goal _ (hv.kept (Kept.of hbw)) (hy.kept (Kept.of hbw))).mono ?_
      rintro e w2 ⟨rfl, hb2⟩
      clear hBc0 hBc1 hBz
      replace hB := hB.below hb2 hB.lt
      replace hbw := Below.up hbw hb2
      have hb2s := hb2.size
      clear hb2
      have hBz := hB.lt
      have hBc0 := hB.c0
      have hBc1 := hB.c1
      obtain ⟨hown, hbn⟩ := new_ints w2
      go_wp2
      go_ret
      exact .mk' (hown.more hbw.size) (Below.up hbw hbn)
    · have hres : attrG a who s goal = attrL a who s goal := by unfold attrG; rw [canB_l3, hE, hE2]; rfl
      have hok := (l3OkB_iff.1 hE).arena
      have hs := (l3OkB_iff.1 hE).set
      have hg := (l3OkB_iff.1 hE2).set
      rw [hres]; clear hres
      go_enter Try.func41, Try.ntmps41
      have hBz := hB.lt
      have hBc0 := hB.c0
      have hBc1 := hB.c1
      go_wp2_with fail
      refine (l3Ok_any _ a who _ s _ (hv.kept (Kept.of hbw)) (hu.kept (Kept.of hbw))).mono ?_
      rintro e w1 ⟨rfl, hb1⟩
      clear hBc0 hBc1 hBz
      replace hB := hB.below hb1 hB.lt
      replace hbw := Below.up hbw hb1
      have hb1s := hb1.size
      clear hb1
      have hBz := hB.lt
      have hBc0 := hB.c0
      have hBc1 := hB.c1
      go_wp2_with fail
      refine (l3Ok_any _ a who _ goal _ (hv.kept (Kept.of hbw)) (hy.kept (Kept.of hbw))).mono ?_
      rintro e w2 ⟨rfl, hb2⟩
      clear hBc0 hBc1 hBz
      replace hB := hB.below hb2 hB.lt
      replace hbw := Below.up hbw hb2
      have hb2s := hb2.size
      clear hb2
      have hBz := hB.lt
      have hBc0 := hB.c0
      have hBc1 := hB.c1
      go_wp2_with fail
      refine (l3Attract_any _ a who _ s _ goal _ (hv.kept (Kept.of hbw)) (hu.kept (Kept.of hbw)) (hy.kept (Kept.of hbw)) hok hs hg).mono ?_
      rintro e w9 ⟨u9, rfl, ho9, hb9⟩
      go_wp2
      go_ret
      exact .at_ hbw ho9 hb9


set_option maxRecDepth 100000 in
set_option maxHeartbeats 4000000 in
theorem specPullIn_any (v : Value) (a : ArenaD) (who : Int) (u : Value) (s : List Int) (y : Value) (goal : List Int) (w : World) (hv : IsArena w v a) (hu : Ints w u s) (hy : Ints w y goal) :
    Calls Try.prog 43 #[v, .int .i64 who, u, y] w (RetInts w (pullG a who s goal)) := by
  obtain ⟨o, n, rfl, hbw, hB⟩ := arena_open hv
  have hw0 : (w.alloc (.cells #[o, n] 28)).heap.size = w.heap.size + 1 := by simp
  obtain ⟨hown, hbn⟩ := new_ints (w.alloc (.cells #[o, n] 28))
  rw [hw0] at hown hbn
  clear hw0
  replace hB := hB.alloc (.cells #[] 2)
  replace hbw := hbw.trans (hbn.mono (Nat.le_succ _))
  replace hown := OI.of hown
  clear hbn
  cases hE : l3OkB a who s
  · have hres : pullG a who s goal = [] := by unfold pullG; rw [canB_l3, hE]; rfl
    rw [hres]; clear hres
    go_enter Try.func43, Try.ntmps43
    have hBz := hB.lt
    have hBc0 := hB.c0
    have hBc1 := hB.c1
    go_wp2_with fail
    refine (l3Ok_any _ a who _ s _ (hv.kept (Kept.of hbw)) (hu.kept (Kept.of hbw))).mono ?_
    rintro e w1 ⟨rfl, hb1⟩
    clear hBc0 hBc1 hBz
    replace hB := hB.below hb1 hB.lt
    replace hown := hown.below hb1
    replace hbw := Below.up hbw hb1
    have hb1s := hb1.size
    clear hb1
    have hBz := hB.lt
    have hBc0 := hB.c0
    have hBc1 := hB.c1
    go_wp2
    go_ret
    exact .mk' (hown.1.more (Nat.le_succ _)) hbw
  · cases hE2 : l3OkB a who goal
    · have hres : pullG a who s goal = [] := by unfold pullG; rw [canB_l3, hE, hE2]; rfl
      rw [hres]; clear hres
      go_enter Try.func43, Try.ntmps43
      have hBz := hB.lt
      have hBc0 := hB.c0
      have hBc1 := hB.c1
      go_wp2_with fail
      refine (l3Ok_any _ a who _ s _ (hv.kept (Kept.of hbw)) (hu.kept (Kept.of hbw))).mono ?_
      rintro e w1 ⟨rfl, hb1⟩
      clear hBc0 hBc1 hBz
      replace hB := hB.below hb1 hB.lt
      replace hown := hown.below hb1
      replace hbw := Below.up hbw hb1
      have hb1s := hb1.size
      clear hb1
      have hBz := hB.lt
      have hBc0 := hB.c0
      have hBc1 := hB.c1
      go_wp2_with fail
      refine (l3Ok_any _ a who _ goal _ (hv.kept (Kept.of hbw)) (hy.kept (Kept.of hbw))).mono ?_
      rintro e w2 ⟨rfl, hb2⟩
      clear hBc0 hBc1 hBz
      replace hB := hB.below hb2 hB.lt
      replace hown := hown.below hb2
      replace hbw := Below.up hbw hb2
      have hb2s := hb2.size
      clear hb2
      have hBz := hB.lt
      have hBc0 := hB.c0
      have hBc1 := hB.c1
      go_wp2
      go_ret
      exact .mk' (hown.1.more (Nat.le_succ _)) hbw
    · have hres : pullG a who s goal = pullL a who s goal := by unfold pullG; rw [canB_l3, hE, hE2]; rfl
      have hok := (l3OkB_iff.1 hE).arena
      have hs := (l3OkB_iff.1 hE).set
      have hg := (l3OkB_iff.1 hE2).set
      rw [hres]; clear hres
      go_enter Try.func43, Try.ntmps43
      have hBz := hB.lt
      have hBc0 := hB.c0
      have hBc1 := hB.c1
      go_wp2_with fail
      refine (l3Ok_any _ a who _ s _ (hv.kept (Kept.of hbw)) (hu.kept (Kept.of hbw))).mono ?_
      rintro e w1 ⟨rfl, hb1⟩
      clear hBc0 hBc1 hBz
      replace hB := hB.below hb1 hB.lt
      replace hown := hown.below hb1
      replace hbw := Below.up hbw hb1
      have hb1s := hb1.size
      clear hb1
      have hBz := hB.lt
      have hBc0 := hB.c0
      have hBc1 := hB.c1
      go_wp2_with fail
      refine (l3Ok_any _ a who _ goal _ (hv.kept (Kept.of hbw)) (hy.kept (Kept.of hbw))).mono ?_
      rintro e w2 ⟨rfl, hb2⟩
      clear hBc0 hBc1 hBz
      replace hB := hB.below hb2 hB.lt
      replace hown := hown.below hb2
      replace hbw := Below.up hbw hb2
      have hb2s := hb2.size
      clear hb2
      have hBz := hB.lt
      have hBc0 := hB.c0
      have hBc1 := hB.c1
      obtain ⟨ho, hn⟩ := hv.parts
      obtain ⟨A, c, rfl, hlc, hcm⟩ := ho.form
      obtain ⟨A', c', rfl, hlc', hcm'⟩ := hn.form
      have hle := hok.le
      have Hlen := Lib.hid hok.len
      go_wp2_with fail
      clear hE hE2
      refine (l3Ranks_any _ a who _ s _ goal _ (hv.kept (Kept.of hbw)) (hu.kept (Kept.of hbw)) (hy.kept (Kept.of hbw)) hok hs hg).mono ?_
      rintro e w9 ⟨ur, rfl, hR, hb9⟩
      obtain ⟨R, rc, e1, _⟩ := hR.ints.form
      rw [length_ranksL] at e1
      subst e1
      clear hBc0 hBc1 hBz
      replace hB := hB.below hb9 hB.lt
      replace hown := hown.below hb9
      replace hbw := Below.up hbw hb9
      have hb9s := hb9.size
      clear hb9
      have hBz := hB.lt
      have hBc0 := hB.c0
      have hBc1 := hB.c1
      clear hBc0 hBc1 hBz
      have hw9 := hbw.size
      have hR2 := OI.of hR
      have hBl := hB.lt
      have Hrl := Lib.hid (length_ranksL (a := a) (who := who) (s := s) (goal := goal))
      have hrb : Hid (∀ v, v < a.owner.length → -1 ≤ ix (ranksL a who s goal) v ∧ ix (ranksL a who s goal) v ≤ 256) := Lib.hid fun v hv => rank_i64 hv hle
      have Hpull := Lib.hid (show pullL a who s goal = (List.range a.owner.length).map fun v => pullV a who (ranksL a who s goal) v from rfl)
      generalize pullL a who s goal = pl at *
      generalize ranksL a who s goal = rl at *
      obtain ⟨C, hC⟩ : ∃ C, w2.heap.size = C := ⟨_, rfl⟩
      rw [hC] at hR2
      have hR3 : OI w9 C w9.heap.size (.slice R a.owner.length rc) rl := hR2
      have hol : ∀ b, (Value.slice (some ⟨w.heap.size + 1, 0, none⟩) 0 0).ownBlock = some b → b < C := fun b hb => by
        have h1 := hown.2 b hb
        have h2 := hb1s
        simp at h1 h2
        omega
      go_wp2
      go_loopw [9, 11] (fun v i wr => ∃ k : Nat, k ≤ a.owner.length ∧ i = .int .i64 k ∧ OwnInts wr (w.heap.size + 1) v ((List.range k).map fun v => pullV a who rl v) ∧ OI wr C w9.heap.size (.slice R a.owner.length rc) rl ∧ (∀ b, v.ownBlock = some b → b < C ∨ w9.heap.size ≤ b) ∧ w9.heap.size ≤ wr.heap.size ∧ Below (w.heap.size + 1) w9 wr) (fun _ i _ => a.owner.length - (intOf i).toNat)
      case atStart => exact ⟨0, Nat.zero_le _, rfl, hown.1, hR3, fun b hb => .inl (hol b hb), Nat.le_refl _, Below.refl _ _⟩
      case round =>
        obtain ⟨k, hk, rfl, hown, hR, hap, hws, hbr⟩ := hrel
        obtain ⟨wo, rfl⟩ : ∃ wo : World, wo = wr := ⟨_, rfl⟩
        have hbwo : Below w.heap.size w wo := hbw.trans (hbr.mono (Nat.le_succ _))
        have hBr := hB.below hbr (Nat.lt_succ_self _)
        have hBr0 := hBr.c0
        have hBr1 := hBr.c1
        by_cases hlt : k < a.owner.length
        · obtain ⟨a1, rfl, hc1⟩ := hR.ints.at_ (k := k) (by rw [Hrl.out]; exact hlt)
          obtain ⟨a3, ea, hc3⟩ := (ho.kept (Kept.of hbwo)).at_ hlt
          subst ea
          obtain ⟨a2, R2, q2, ea, hc2, hrow⟩ := (hn.kept (Kept.of hbwo)).at_ (k := k) (by rw [Hlen.out]; exact hlt)
          subst ea
          obtain ⟨R', r', he, hrl2, hrm2⟩ := hrow.form
          simp only [Value.slice.injEq, true_and] at he
          obtain ⟨rfl, rfl⟩ := he
          have hlt' : (k : Int) < a.owner.length := by omega
          have hlt2 : (k : Int) < a.next.length := by rw [Hlen.out]; omega
          obtain ⟨hb1, hb2⟩ := hrb.out k hlt
          have hvn := hok.vert_next hlt
          have hdeg : 0 < (rx a.next k).length := (hok.deg hlt).1
          have Hs := Lib.hid (show (List.range (k + 1)).map (fun v => pullV a who rl v) = (List.range k).map (fun v => pullV a who rl v) ++ [pullV a who rl k] by rw [List.range_succ, List.map_append]; rfl)
          have hlen : ((List.range k).map fun v => pullV a who rl v).length ≤ 1099511627776 := by simp; omega
          generalize (List.range k).map (fun v => pullV a who rl v) = dn at *
          by_cases e2 : ix a.owner k = who ∧ 0 < ix rl k
          · have hd2 : (ix a.owner k == who) = true := by simpa using e2.1
            have hd3 : 0 < ix rl k := e2.2
            have Hp := Lib.hid (show pullV a who rl k = ((rx a.next k).find? fun u => decide (ix rl u.toNat = ix rl k - 1)).getD (-1) by unfold pullV; rw [if_pos e2])
            clear e2
            go_wp2
            go_loopw [12, 13] (fun x i wr => ∃ t : Nat, t ≤ (rx a.next k).length ∧ i = .int .i64 t ∧ (∃ q, wr = wo.drewN q) ∧ ((x = .int .i64 (-1) ∧ Hid (∀ j, j < t → decide (ix rl (ix (rx a.next k) j).toNat = ix rl k - 1) = false)) ∨ ∃ j : Nat, x = .int .i64 j ∧ Hid (pullV a who rl k = (j : Int)))) (fun _ i _ => (rx a.next k).length - (intOf i).toNat)
            case atStart => exact ⟨0, Nat.zero_le _, rfl, ⟨0, rfl⟩, .inl ⟨rfl, Lib.hid (fun j hj => by omega)⟩⟩
            case round =>
              obtain ⟨t, ht, rfl, ⟨q, rfl⟩, hx⟩ := hrel
              rcases hx with ⟨rfl, Hno⟩ | ⟨j, rfl, Hf⟩
              · by_cases htl : t < (rx a.next k).length
                · obtain ⟨a4, rfl, hc4⟩ := hrow.at_ htl
                  obtain ⟨i, hi, hin⟩ := hvn t htl
                  have Hi := Lib.hid hi
                  rw [hi] at hc4
                  clear hi
                  have hc6 := hR.ints.at_ (k := i) (by rw [Hrl.out]; exact hin)
                  obtain ⟨a6, ea6, hc6⟩ := hc6
                  injection ea6 with ea6
                  subst ea6
                  have hil : (i : Int) < a.owner.length := by omega
                  have htl' : (t : Int) < (rx a.next k).length := by omega
                  obtain ⟨hi1, hi2⟩ := hrb.out i hin
                  have hsub : IntKind.i64.wrap (ix rl k - 1) = ix rl k - 1 := IntWalk.i64_in _ (by omega)
                  by_cases e4 : ix rl i = ix rl k - 1
                  · have hd4 : (ix rl i == ix rl k - 1) = true := by simpa using e4
                    have Hf := Lib.hid (show pullV a who rl k = (i : Int) by
                      rw [Hp.out, find_first (p := fun u => decide (ix rl u.toNat = ix rl k - 1)) Hno.out htl (by rw [Hi.out]; simpa using e4), Hi.out]; rfl)
                    clear e4
                    go_wp2
                    go_quiet (fail)
                    clear hsub
                    go_wp2
                    exact ⟨⟨t + 1, by omega, by go_num, ⟨q + nq, by simp⟩, .inr ⟨i, rfl, Hf⟩⟩, by simp [intOf]; omega⟩
                  · have hd4 : (ix rl i == ix rl k - 1) = false := by simpa using e4
                    have Hne := Lib.hid (decide_eq_false e4)
                    clear e4
                    go_wp2
                    go_quiet (fail)
                    clear hsub
                    go_wp2
                    exact ⟨⟨t + 1, by omega, by go_num, ⟨q + nq, by simp⟩, .inl ⟨rfl, Lib.hid (fun j hj => by
                      by_cases e : j = t
                      · rw [e, Hi.out]; exact Hne.out
                      · exact Hno.out j (by omega))⟩⟩, by simp [intOf]; omega⟩
                · obtain rfl : t = (rx a.next k).length := by omega
                  have Hf := Lib.hid (show pullV a who rl k = -1 by rw [Hp.out, find_none (p := fun u => decide (ix rl u.toNat = ix rl k - 1)) Hno.out]; rfl)
                  have hown5 : OwnInts (wo.drewN q) (w.heap.size + 1) _ dn := hown
                  have hbs : w.heap.size + 1 ≤ (wo.drewN q).heap.size := by show _ ≤ wo.heap.size; omega
                  have hRq : OI (wo.drewN q) C w9.heap.size (.slice (some a1) a.owner.length rc) rl := hR
                  have hbq : Below (w.heap.size + 1) w9 (wo.drewN q) := below_drewN hbr q
                  go_wp2_with (at_builtin; refine append_int _ rfl (.tmp 94) (.tmp 96) rfl (w.heap.size + 1) u9 _ rfl hown5 (-1) rfl hlen hbs ?_; intro v1 w5 ho1 hb1 hg1 hl1)
                  refine ⟨⟨k + 1, by omega, by go_num, by rw [Hs.out, Hf.out]; exact ho1, hRq.grown hg1 hap, fun b hb => ?_, Nat.le_trans hws hg1.size, hbq.trans hb1⟩, by simp [intOf]; omega⟩
                  rcases hl1 with e | e
                  · exact hap b (e ▸ hb)
                  · rw [e] at hb; simp only [Option.some.injEq] at hb; exact .inr (by have h9 : b = wo.heap.size + 1 := hb.symm; omega)
              · by_cases htl : t < (rx a.next k).length
                · have htl' : (t : Int) < (rx a.next k).length := by omega
                  have hown5 : OwnInts (wo.drewN q) (w.heap.size + 1) _ dn := hown
                  have hbs : w.heap.size + 1 ≤ (wo.drewN q).heap.size := by show _ ≤ wo.heap.size; omega
                  have hRq : OI (wo.drewN q) C w9.heap.size (.slice (some a1) a.owner.length rc) rl := hR
                  have hbq : Below (w.heap.size + 1) w9 (wo.drewN q) := below_drewN hbr q
                  go_wp2_with (at_builtin; refine append_int _ rfl (.tmp 94) (.tmp 96) rfl (w.heap.size + 1) u9 _ rfl hown5 ((j : Int)) rfl hlen hbs ?_; intro v1 w5 ho1 hb1 hg1 hl1)
                  refine ⟨⟨k + 1, by omega, by go_num, by rw [Hs.out, Hf.out]; exact ho1, hRq.grown hg1 hap, fun b hb => ?_, Nat.le_trans hws hg1.size, hbq.trans hb1⟩, by simp [intOf]; omega⟩
                  rcases hl1 with e | e
                  · exact hap b (e ▸ hb)
                  · rw [e] at hb; simp only [Option.some.injEq] at hb; exact .inr (by have h9 : b = wo.heap.size + 1 := hb.symm; omega)
                · have htl' : ¬ (t : Int) < (rx a.next k).length := by omega
                  have hown5 : OwnInts (wo.drewN q) (w.heap.size + 1) _ dn := hown
                  have hbs : w.heap.size + 1 ≤ (wo.drewN q).heap.size := by show _ ≤ wo.heap.size; omega
                  have hRq : OI (wo.drewN q) C w9.heap.size (.slice (some a1) a.owner.length rc) rl := hR
                  have hbq : Below (w.heap.size + 1) w9 (wo.drewN q) := below_drewN hbr q
                  go_wp2_with (at_builtin; refine append_int _ rfl (.tmp 94) (.tmp 96) rfl (w.heap.size + 1) u9 _ rfl hown5 ((j : Int)) rfl hlen hbs ?_; intro v1 w5 ho1 hb1 hg1 hl1)
                  refine ⟨⟨k + 1, by omega, by go_num, by rw [Hs.out, Hf.out]; exact ho1, hRq.grown hg1 hap, fun b hb => ?_, Nat.le_trans hws hg1.size, hbq.trans hb1⟩, by simp [intOf]; omega⟩
                  rcases hl1 with e | e
                  · exact hap b (e ▸ hb)
                  · rw [e] at hb; simp only [Option.some.injEq] at hb; exact .inr (by have h9 : b = wo.heap.size + 1 := hb.symm; omega)
          · have Hf := Lib.hid (show pullV a who rl k = -1 by unfold pullV; rw [if_neg e2])
            by_cases e3 : ix a.owner k = who
            · have hd2 : (ix a.owner k == who) = true := by simpa using e3
              have hd3 : ¬ 0 < ix rl k := fun h => e2 ⟨e3, h⟩
              clear e2 e3
              go_wp2
              refine wp_loop_rounds 1 ?_
              rw [rounds_succ]
              have hown5 : OwnInts wo (w.heap.size + 1) _ dn := hown
              have hbs : w.heap.size + 1 ≤ wo.heap.size := by show _ ≤ wo.heap.size; omega
              have hRq : OI wo C w9.heap.size (.slice (some a1) a.owner.length rc) rl := hR
              have hbq : Below (w.heap.size + 1) w9 wo := hbr
              go_wp2_with (at_builtin; refine append_int _ rfl (.tmp 94) (.tmp 96) rfl (w.heap.size + 1) u9 _ rfl hown5 (-1) rfl hlen hbs ?_; intro v1 w5 ho1 hb1 hg1 hl1)
              refine ⟨⟨k + 1, by omega, by go_num, by rw [Hs.out, Hf.out]; exact ho1, hRq.grown hg1 hap, fun b hb => ?_, Nat.le_trans hws hg1.size, hbq.trans hb1⟩, by simp [intOf]; omega⟩
              rcases hl1 with e | e
              · exact hap b (e ▸ hb)
              · rw [e] at hb; simp only [Option.some.injEq] at hb; exact .inr (by have h9 : b = wo.heap.size + 1 := hb.symm; omega)
            · have hd2 : (ix a.owner k == who) = false := by simpa using e3
              clear e2 e3
              go_wp2
              refine wp_loop_rounds 1 ?_
              rw [rounds_succ]
              have hown5 : OwnInts wo (w.heap.size + 1) _ dn := hown
              have hbs : w.heap.size + 1 ≤ wo.heap.size := by show _ ≤ wo.heap.size; omega
              have hRq : OI wo C w9.heap.size (.slice (some a1) a.owner.length rc) rl := hR
              have hbq : Below (w.heap.size + 1) w9 wo := hbr
              go_wp2_with (at_builtin; refine append_int _ rfl (.tmp 94) (.tmp 96) rfl (w.heap.size + 1) u9 _ rfl hown5 (-1) rfl hlen hbs ?_; intro v1 w5 ho1 hb1 hg1 hl1)
              refine ⟨⟨k + 1, by omega, by go_num, by rw [Hs.out, Hf.out]; exact ho1, hRq.grown hg1 hap, fun b hb => ?_, Nat.le_trans hws hg1.size, hbq.trans hb1⟩, by simp [intOf]; omega⟩
              rcases hl1 with e | e
              · exact hap b (e ▸ hb)
              · rw [e] at hb; simp only [Option.some.injEq] at hb; exact .inr (by have h9 : b = wo.heap.size + 1 := hb.symm; omega)
        · obtain rfl : k = a.owner.length := by omega
          rw [← Hpull.out] at hown
          go_wp2
          go_ret
          exact .mk' (hown.more (Nat.le_succ _)) hbwo

end Go.Proofs.Ytigjhhcndigncaa
