/- The walks of EscapesIn and TrapIn, both ways. Conditions: the lists' lengths. -/
import Derived.Test.YtogfpalgnjlfcaaPkB
namespace Go.Proofs.Ytogfpalgnjlfcaa
set_option linter.unusedSimpArgs false
set_option linter.unusedVariables false
open Go.RowKit

set_option maxHeartbeats 1000000 in
theorem canAttract_any (v : Value) (a : ArenaD) (who : Int) (u : Value) (s : List Int) (y : Value) (t : List Int) (w : World) (hv : IsArena w v a) (hu : Ints w u s) (hy : Ints w y t) :
    Calls Try.prog 58 #[v, .int .i64 who, u, y] w fun e w' => e = .returned (.bool (canB a who s t)) ∧ Below w.heap.size w w' := by
  obtain ⟨o, n, rfl, hbw, hB⟩ := arena_open hv
  cases hE : arenaOkB a
  · have hres : canB a who s t = false := by unfold canB; rw [hE]; rfl
    rw [hres]; clear hres
    go_enter Try.func58, Try.ntmps58
    have hBz := hB.lt
    have hBc0 := hB.c0
    have hBc1 := hB.c1
    go_wp2_with fail
    refine (ArenaOk_any _ a _ (hv.kept (Kept.of hbw))).mono ?_
    rintro e w1 ⟨rfl, hb1⟩
    clear hBc0 hBc1 hBz
    replace hB := hB.below hb1 hB.lt
    replace hbw := Below.up hbw hb1
    have hb1s := hb1.size
    clear hb1
    have hBz := hB.lt
    have hBc0 := hB.c0
    have hBc1 := hB.c1
    go_wp2
    go_ret
    exact ⟨rfl, hbw⟩
  · cases hE2 : playerB who
    · have hres : canB a who s t = false := by unfold canB; rw [hE, hE2]; rfl
      rw [hres]; clear hres
      go_enter Try.func58, Try.ntmps58
      have hBz := hB.lt
      have hBc0 := hB.c0
      have hBc1 := hB.c1
      go_wp2_with fail
      refine (ArenaOk_any _ a _ (hv.kept (Kept.of hbw))).mono ?_
      rintro e w1 ⟨rfl, hb1⟩
      clear hBc0 hBc1 hBz
      replace hB := hB.below hb1 hB.lt
      replace hbw := Below.up hbw hb1
      have hb1s := hb1.size
      clear hb1
      have hBz := hB.lt
      have hBc0 := hB.c0
      have hBc1 := hB.c1
      go_wp2_with fail
      refine (same_below (isPlayer_any who _)).mono ?_
      rintro e w2 ⟨rfl, hb2⟩
      clear hBc0 hBc1 hBz
      replace hB := hB.below hb2 hB.lt
      replace hbw := Below.up hbw hb2
      have hb2s := hb2.size
      clear hb2
      have hBz := hB.lt
      have hBc0 := hB.c0
      have hBc1 := hB.c1
      go_wp2
      go_ret
      exact ⟨rfl, hbw⟩
    · cases hE3 : isSetB s a.owner.length
      · have hres : canB a who s t = false := by unfold canB; rw [hE, hE2, hE3]; rfl
        rw [hres]; clear hres
        go_enter Try.func58, Try.ntmps58
        have hBz := hB.lt
        have hBc0 := hB.c0
        have hBc1 := hB.c1
        go_wp2_with fail
        refine (ArenaOk_any _ a _ (hv.kept (Kept.of hbw))).mono ?_
        rintro e w1 ⟨rfl, hb1⟩
        clear hBc0 hBc1 hBz
        replace hB := hB.below hb1 hB.lt
        replace hbw := Below.up hbw hb1
        have hb1s := hb1.size
        clear hb1
        have hBz := hB.lt
        have hBc0 := hB.c0
        have hBc1 := hB.c1
        go_wp2_with fail
        refine (same_below (isPlayer_any who _)).mono ?_
        rintro e w2 ⟨rfl, hb2⟩
        clear hBc0 hBc1 hBz
        replace hB := hB.below hb2 hB.lt
        replace hbw := Below.up hbw hb2
        have hb2s := hb2.size
        clear hb2
        have hBz := hB.lt
        have hBc0 := hB.c0
        have hBc1 := hB.c1
        go_wp2_with fail
        refine (size_any _ a _ (hv.kept (Kept.of hbw))).mono ?_
        rintro e w3 ⟨rfl, hb3⟩
        clear hBc0 hBc1 hBz
        replace hB := hB.below hb3 hB.lt
        replace hbw := Below.up hbw hb3
        have hb3s := hb3.size
        clear hb3
        have hBz := hB.lt
        have hBc0 := hB.c0
        have hBc1 := hB.c1
        go_wp2_with fail
        refine (same_below (isSet_any _ s _ _ (hu.kept (Kept.of hbw)))).mono ?_
        rintro e w4 ⟨rfl, hb4⟩
        clear hBc0 hBc1 hBz
        replace hB := hB.below hb4 hB.lt
        replace hbw := Below.up hbw hb4
        have hb4s := hb4.size
        clear hb4
        have hBz := hB.lt
        have hBc0 := hB.c0
        have hBc1 := hB.c1
        go_wp2
        go_ret
        exact ⟨rfl, hbw⟩
      · have hres : canB a who s t = isSetB t a.owner.length := by unfold canB; rw [hE, hE2, hE3]; rfl
        rw [hres]; clear hres
        go_enter Try.func58, Try.ntmps58
        have hBz := hB.lt
        have hBc0 := hB.c0
        have hBc1 := hB.c1
        go_wp2_with fail
        refine (ArenaOk_any _ a _ (hv.kept (Kept.of hbw))).mono ?_
        rintro e w1 ⟨rfl, hb1⟩
        clear hBc0 hBc1 hBz
        replace hB := hB.below hb1 hB.lt
        replace hbw := Below.up hbw hb1
        have hb1s := hb1.size
        clear hb1
        have hBz := hB.lt
        have hBc0 := hB.c0
        have hBc1 := hB.c1
        go_wp2_with fail
        refine (same_below (isPlayer_any who _)).mono ?_
        rintro e w2 ⟨rfl, hb2⟩
        clear hBc0 hBc1 hBz
        replace hB := hB.below hb2 hB.lt
        replace hbw := Below.up hbw hb2
        have hb2s := hb2.size
        clear hb2
        have hBz := hB.lt
        have hBc0 := hB.c0
        have hBc1 := hB.c1
        go_wp2_with fail
        refine (size_any _ a _ (hv.kept (Kept.of hbw))).mono ?_
        rintro e w3 ⟨rfl, hb3⟩
        clear hBc0 hBc1 hBz
        replace hB := hB.below hb3 hB.lt
        replace hbw := Below.up hbw hb3
        have hb3s := hb3.size
        clear hb3
        have hBz := hB.lt
        have hBc0 := hB.c0
        have hBc1 := hB.c1
        go_wp2_with fail
        refine (same_below (isSet_any _ s _ _ (hu.kept (Kept.of hbw)))).mono ?_
        rintro e w4 ⟨rfl, hb4⟩
        clear hBc0 hBc1 hBz
        replace hB := hB.below hb4 hB.lt
        replace hbw := Below.up hbw hb4
        have hb4s := hb4.size
        clear hb4
        have hBz := hB.lt
        have hBc0 := hB.c0
        have hBc1 := hB.c1
        go_wp2_with fail
        refine (size_any _ a _ (hv.kept (Kept.of hbw))).mono ?_
        rintro e w5 ⟨rfl, hb5⟩
        clear hBc0 hBc1 hBz
        replace hB := hB.below hb5 hB.lt
        replace hbw := Below.up hbw hb5
        have hb5s := hb5.size
        clear hb5
        have hBz := hB.lt
        have hBc0 := hB.c0
        have hBc1 := hB.c1
        go_wp2_with fail
        refine (same_below (isSet_any _ t _ _ (hy.kept (Kept.of hbw)))).mono ?_
        rintro e w6 ⟨rfl, hb6⟩
        clear hBc0 hBc1 hBz
        replace hB := hB.below hb6 hB.lt
        replace hbw := Below.up hbw hb6
        have hb6s := hb6.size
        clear hb6
        have hBz := hB.lt
        have hBc0 := hB.c0
        have hBc1 := hB.c1
        go_wp2
        go_ret
        exact ⟨rfl, hbw⟩

set_option maxHeartbeats 1000000 in
theorem l3Ok_any (v : Value) (a : ArenaD) (who : Int) (u : Value) (s : List Int) (w : World) (hv : IsArena w v a) (hu : Ints w u s) :
    Calls Try.prog 61 #[v, .int .i64 who, u] w fun e w' => e = .returned (.bool (l3OkB a who s)) ∧ Below w.heap.size w w' := by
  obtain ⟨o, n, rfl, hbw, hB⟩ := arena_open hv
  obtain ⟨ho, hn⟩ := hv.parts
  obtain ⟨A, c, rfl, hlc, hcm⟩ := ho.form
  cases hE : arenaOkB a
  · have hres : l3OkB a who s = false := by unfold l3OkB; rw [hE]; rfl
    rw [hres]; clear hres
    go_enter Try.func61, Try.ntmps61
    have hBz := hB.lt
    have hBc0 := hB.c0
    have hBc1 := hB.c1
    go_wp2_with fail
    refine (specArenaOk_any _ a _ (hv.kept (Kept.of hbw))).mono ?_
    rintro e w1 ⟨rfl, hb1⟩
    clear hBc0 hBc1 hBz
    replace hB := hB.below hb1 hB.lt
    replace hbw := Below.up hbw hb1
    have hb1s := hb1.size
    clear hb1
    have hBz := hB.lt
    have hBc0 := hB.c0
    have hBc1 := hB.c1
    go_wp2
    go_ret
    exact ⟨rfl, hbw⟩
  · cases hE2 : playerB who
    · have hres : l3OkB a who s = false := by unfold l3OkB; rw [hE, hE2]; rfl
      rw [hres]; clear hres
      go_enter Try.func61, Try.ntmps61
      have hBz := hB.lt
      have hBc0 := hB.c0
      have hBc1 := hB.c1
      go_wp2_with fail
      refine (specArenaOk_any _ a _ (hv.kept (Kept.of hbw))).mono ?_
      rintro e w1 ⟨rfl, hb1⟩
      clear hBc0 hBc1 hBz
      replace hB := hB.below hb1 hB.lt
      replace hbw := Below.up hbw hb1
      have hb1s := hb1.size
      clear hb1
      have hBz := hB.lt
      have hBc0 := hB.c0
      have hBc1 := hB.c1
      go_wp2_with fail
      refine (same_below (l1In_player who _)).mono ?_
      rintro e w2 ⟨rfl, hb2⟩
      clear hBc0 hBc1 hBz
      replace hB := hB.below hb2 hB.lt
      replace hbw := Below.up hbw hb2
      have hb2s := hb2.size
      clear hb2
      have hBz := hB.lt
      have hBc0 := hB.c0
      have hBc1 := hB.c1
      go_wp2
      go_ret
      exact ⟨rfl, hbw⟩
    · have hres : l3OkB a who s = isSetB s a.owner.length := by unfold l3OkB; rw [hE, hE2]; rfl
      rw [hres]; clear hres
      go_enter Try.func61, Try.ntmps61
      have hBz := hB.lt
      have hBc0 := hB.c0
      have hBc1 := hB.c1
      go_wp2_with fail
      refine (specArenaOk_any _ a _ (hv.kept (Kept.of hbw))).mono ?_
      rintro e w1 ⟨rfl, hb1⟩
      clear hBc0 hBc1 hBz
      replace hB := hB.below hb1 hB.lt
      replace hbw := Below.up hbw hb1
      have hb1s := hb1.size
      clear hb1
      have hBz := hB.lt
      have hBc0 := hB.c0
      have hBc1 := hB.c1
      go_wp2_with fail
      refine (same_below (l1In_player who _)).mono ?_
      rintro e w2 ⟨rfl, hb2⟩
      clear hBc0 hBc1 hBz
      replace hB := hB.below hb2 hB.lt
      replace hbw := Below.up hbw hb2
      have hb2s := hb2.size
      clear hb2
      have hBz := hB.lt
      have hBc0 := hB.c0
      have hBc1 := hB.c1
      go_wp2_with fail
      refine (drew_below (l1Set_any _ s _ _ (hu.kept (Kept.of hbw)) (by omega) (by omega))).mono ?_
      rintro e w3 ⟨rfl, hb3⟩
      clear hBc0 hBc1 hBz
      replace hB := hB.below hb3 hB.lt
      replace hbw := Below.up hbw hb3
      have hb3s := hb3.size
      clear hb3
      have hBz := hB.lt
      have hBc0 := hB.c0
      have hBc1 := hB.c1
      go_wp2
      go_ret
      exact ⟨rfl, hbw⟩

theorem Ints.nil (w : World) : Ints w (.slice none 0 0) [] := ⟨none, 0, rfl, Nat.le_refl _, by omega, fun k hk => absurd hk (Nat.not_lt_zero _)⟩

set_option maxHeartbeats 1000000 in
theorem EscapesIn_any (v : Value) (a : ArenaD) (who : Int) (u : Value) (s : List Int) (w : World) (hv : IsArena w v a) (hu : Ints w u s) :
    Calls Try.prog 29 #[v, .int .i64 who, u] w (RetInts w (escG a who s)) := by
  obtain ⟨o, n, rfl, hbw, hB⟩ := arena_open hv
  cases hE : l3OkB a who s
  · have hres : escG a who s = [] := by unfold escG; rw [hE]; rfl
    have hcan : canB a who s [] = false := by rw [canB_nil, hE]
    rw [hres]; clear hres
    go_enter Try.func29, Try.ntmps29
    have hBz := hB.lt
    have hBc0 := hB.c0
    have hBc1 := hB.c1
    go_wp2_with fail
    refine (canAttract_any _ a who _ s _ [] _ (hv.kept (Kept.of hbw)) (hu.kept (Kept.of hbw)) (Ints.nil _)).mono ?_
    rintro e w1 ⟨rfl, hb1⟩
    clear hBc0 hBc1 hBz
    replace hB := hB.below hb1 hB.lt
    replace hbw := Below.up hbw hb1
    have hb1s := hb1.size
    clear hb1
    have hBz := hB.lt
    have hBc0 := hB.c0
    have hBc1 := hB.c1
    go_wp2
    go_ret
    exact .mk' (OwnInts.nil _ _) hbw
  · have hres : escG a who s = escL a who s := by unfold escG; rw [hE]; rfl
    have hcan : canB a who s [] = true := by rw [canB_nil, hE]
    have hok := l3OkB_iff.1 hE
    rw [hres]; clear hres
    go_enter Try.func29, Try.ntmps29
    have hBz := hB.lt
    have hBc0 := hB.c0
    have hBc1 := hB.c1
    go_wp2_with fail
    refine (canAttract_any _ a who _ s _ [] _ (hv.kept (Kept.of hbw)) (hu.kept (Kept.of hbw)) (Ints.nil _)).mono ?_
    rintro e w1 ⟨rfl, hb1⟩
    clear hBc0 hBc1 hBz
    replace hB := hB.below hb1 hB.lt
    replace hbw := Below.up hbw hb1
    have hb1s := hb1.size
    clear hb1
    have hBz := hB.lt
    have hBc0 := hB.c0
    have hBc1 := hB.c1
    go_wp2_with fail
    refine (escapesIn_any _ a who _ s _ (hv.kept (Kept.of hbw)) (hu.kept (Kept.of hbw)) hok.arena hok.set).mono ?_
    rintro e w9 ⟨u9, rfl, ho9, hb9⟩
    go_wp2
    go_ret
    exact .at_ hbw ho9 hb9

set_option maxHeartbeats 1000000 in
theorem TrapIn_any (v : Value) (a : ArenaD) (who : Int) (u : Value) (s : List Int) (w : World) (hv : IsArena w v a) (hu : Ints w u s) :
    Calls Try.prog 28 #[v, .int .i64 who, u] w fun e w' => e = .returned (.bool (trapB a who s)) ∧ Below w.heap.size w w' := by
  obtain ⟨o, n, rfl, hbw, hB⟩ := arena_open hv
  cases hE : l3OkB a who s
  · have hres : trapB a who s = false := by unfold trapB; rw [hE]; rfl
    have hcan : canB a who s [] = false := by rw [canB_nil, hE]
    rw [hres]; clear hres
    go_enter Try.func28, Try.ntmps28
    have hBz := hB.lt
    have hBc0 := hB.c0
    have hBc1 := hB.c1
    go_wp2_with fail
    refine (canAttract_any _ a who _ s _ [] _ (hv.kept (Kept.of hbw)) (hu.kept (Kept.of hbw)) (Ints.nil _)).mono ?_
    rintro e w1 ⟨rfl, hb1⟩
    clear hBc0 hBc1 hBz
    replace hB := hB.below hb1 hB.lt
    replace hbw := Below.up hbw hb1
    have hb1s := hb1.size
    clear hb1
    have hBz := hB.lt
    have hBc0 := hB.c0
    have hBc1 := hB.c1
    go_wp2
    go_ret
    exact ⟨rfl, hbw⟩
  · have hres : trapB a who s = decide ((escL a who s).length = 0) := by unfold trapB; rw [hE]; rfl
    have hcan : canB a who s [] = true := by rw [canB_nil, hE]
    have hok := l3OkB_iff.1 hE
    rw [hres]; clear hres
    have hd : (((escL a who s).length : Int) == 0) = decide ((escL a who s).length = 0) := by
      rw [Bool.eq_iff_iff]; simp
    go_enter Try.func28, Try.ntmps28
    have hBz := hB.lt
    have hBc0 := hB.c0
    have hBc1 := hB.c1
    go_wp2_with fail
    refine (canAttract_any _ a who _ s _ [] _ (hv.kept (Kept.of hbw)) (hu.kept (Kept.of hbw)) (Ints.nil _)).mono ?_
    rintro e w1 ⟨rfl, hb1⟩
    clear hBc0 hBc1 hBz
    replace hB := hB.below hb1 hB.lt
    replace hbw := Below.up hbw hb1
    have hb1s := hb1.size
    clear hb1
    have hBz := hB.lt
    have hBc0 := hB.c0
    have hBc1 := hB.c1
    go_wp2_with fail
    refine (escapesIn_any _ a who _ s _ (hv.kept (Kept.of hbw)) (hu.kept (Kept.of hbw)) hok.arena hok.set).mono ?_
    rintro e w9 ⟨u9, rfl, ho9, hb9⟩
    obtain ⟨A9, c9, rfl, _⟩ := ho9.ints.form
    clear hBc0 hBc1 hBz
    replace hB := hB.below hb9 hB.lt
    replace hbw := Below.up hbw hb9
    have hb9s := hb9.size
    clear hb9
    have hBz := hB.lt
    have hBc0 := hB.c0
    have hBc1 := hB.c1
    have Hd := Lib.hid hd
    clear hd
    cases hD : decide ((escL a who s).length = 0)
    all_goals
      rw [hD] at Hd
      have hd := Hd.out
      have HD := Lib.hid hD
      clear hD
      go_wp2
      go_ret
      exact ⟨by rw [HD.out]; rfl, hbw⟩

theorem not_eq_comm' {a b : Bool} (h : (!a) = b) : a = !b := by cases a <;> cases b <;> simp_all
end Go.Proofs.Ytogfpalgnjlfcaa
