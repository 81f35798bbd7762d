/- The walks of EscapesIn and TrapIn, both ways. Conditions: the lists' lengths. -/
import Derived.Test.YtigjhhcndigncaaTrapWalks
import Derived.Test.YtigjhhcndigncaaParityWalks2
namespace Go.Proofs.Ytigjhhcndigncaa
set_option linter.unusedSimpArgs false
set_option linter.unusedVariables false
open Go.RowKit

set_option maxHeartbeats 1000000 in
theorem canAttract_any (v : Value) (a : ArenaD) (who : Int) (u : Value) (s : List Int) (y : Value) (t : List Int) (w : World) (hv : IsArena w v a) (hu : Ints w u s) (hy : Ints w y t) :
    Calls Try.prog 91 #[v, .int .i64 who, u, y] w fun e w' => e = .returned (.bool (canB a who s t)) ∧ Below w.heap.size w w' := by
  obtain ⟨o, n, rfl, hbw, hB⟩ := arena_open hv
  cases hE : arenaOkB a
  · have hres : canB a who s t = false := by unfold canB; rw [hE]; rfl
    rw [hres]; clear hres
    go_enter Try.func91, Try.ntmps91
    have hBz := hB.lt
    have hBc0 := hB.c0
    have hBc1 := hB.c1
    go_wp2_with fail
    refine (ArenaOk_any _ a _ (hv.kept (Kept.of hbw))).mono ?_
    rintro e w1 ⟨rfl, hb1⟩
    clear hBc0 hBc1 hBz
    replace hB := hB.below hb1 hB.lt
    replace hbw := Below.up hbw hb1
    have hb1s := hb1.size
    clear hb1
    have hBz := hB.lt
    have hBc0 := hB.c0
    have hBc1 := hB.c1
    go_wp2
    go_ret
    exact ⟨rfl, hbw⟩
  · cases hE2 : playerB who
    · have hres : canB a who s t = false := by unfold canB; rw [hE, hE2]; rfl
      rw [hres]; clear hres
      go_enter Try.func91, Try.ntmps91
      have hBz := hB.lt
      have hBc0 := hB.c0
      have hBc1 := hB.c1
      go_wp2_with fail
      refine (ArenaOk_any _ a _ (hv.kept (Kept.of hbw))).mono ?_
      rintro e w1 ⟨rfl, hb1⟩
      clear hBc0 hBc1 hBz
      replace hB := hB.below hb1 hB.lt
      replace hbw := Below.up hbw hb1
      have hb1s := hb1.size
      clear hb1
      have hBz := hB.lt
      have hBc0 := hB.c0
      have hBc1 := hB.c1
      go_wp2_with fail
      refine (same_below (isPlayer_any who _)).mono ?_
      rintro e w2 ⟨rfl, hb2⟩
      clear hBc0 hBc1 hBz
      replace hB := hB.below hb2 hB.lt
      replace hbw := Below.up hbw hb2
      have hb2s := hb2.size
      clear hb2
      have hBz := hB.lt
      have hBc0 := hB.c0
      have hBc1 := hB.c1
      go_wp2
      go_ret
      exact ⟨rfl, hbw⟩
    · cases hE3 : isSetB s a.owner.length
      · have hres : canB a who s t = false := by unfold canB; rw [hE, hE2, hE3]; rfl
        rw [hres]; clear hres
        go_enter Try.func91, Try.ntmps91
        have hBz := hB.lt
        have hBc0 := hB.c0
        have hBc1 := hB.c1
        go_wp2_with fail
        refine (ArenaOk_any _ a _ (hv.kept (Kept.of hbw))).mono ?_
        rintro e w1 ⟨rfl, hb1⟩
        clear hBc0 hBc1 hBz
        replace hB := hB.below hb1 hB.lt
        replace hbw := Below.up hbw hb1
        have hb1s := hb1.size
        clear hb1
        have hBz := hB.lt
        have hBc0 := hB.c0
        have hBc1 := hB.c1
        go_wp2_with fail
        refine (same_below (isPlayer_any who _)).mono ?_
        rintro e w2 ⟨rfl, hb2⟩
        clear hBc0 hBc1 hBz
        replace hB := hB.below hb2 hB.lt
        replace hbw := Below.up hbw hb2
        have hb2s := hb2.size
        clear hb2
        have hBz := hB.lt
        have hBc0 := hB.c0
        have hBc1 := hB.c1
        go_wp2_with fail
        refine (size_any _ a _ (hv.kept (Kept.of hbw))).mono ?_
        rintro e w3 ⟨rfl, hb3⟩
        clear hBc0 hBc1 hBz
        replace hB := hB.below hb3 hB.lt
        replace hbw := Below.up hbw hb3
        have hb3s := hb3.size
        clear hb3
        have hBz := hB.lt
        have hBc0 := hB.c0
        have hBc1 := hB.c1
        go_wp2_with fail
        refine (same_below (isSet_any _ s _ _ (hu.kept (Kept.of hbw)))).mono ?_
        rintro e w4 ⟨rfl, hb4⟩
        clear hBc0 hBc1 hBz
        replace hB := hB.below hb4 hB.lt
        replace hbw := Below.up hbw hb4
        have hb4s := hb4.size
        clear hb4
        have hBz := hB.lt
        have hBc0 := hB.c0
        have hBc1 := hB.c1
        go_wp2
        go_ret
        exact ⟨rfl, hbw⟩
      · have hres : canB a who s t = isSetB t a.owner.length := by unfold canB; rw [hE, hE2, hE3]; rfl
        rw [hres]; clear hres
        go_enter Try.func91, Try.ntmps91
        have hBz := hB.lt
        have hBc0 := hB.c0
        have hBc1 := hB.c1
        go_wp2_with fail
        refine (ArenaOk_any _ a _ (hv.kept (Kept.of hbw))).mono ?_
        rintro e w1 ⟨rfl, hb1⟩
        clear hBc0 hBc1 hBz
        replace hB := hB.below hb1 hB.lt
        replace hbw := Below.up hbw hb1
        have hb1s := hb1.size
        clear hb1
        have hBz := hB.lt
        have hBc0 := hB.c0
        have hBc1 := hB.c1
        go_wp2_with fail
        refine (same_below (isPlayer_any who _)).mono ?_
        rintro e w2 ⟨rfl, hb2⟩
        clear hBc0 hBc1 hBz
        replace hB := hB.below hb2 hB.lt
        replace hbw := Below.up hbw hb2
        have hb2s := hb2.size
        clear hb2
        have hBz := hB.lt
        have hBc0 := hB.c0
        have hBc1 := hB.c1
        go_wp2_with fail
        refine (size_any _ a _ (hv.kept (Kept.of hbw))).mono ?_
        rintro e w3 ⟨rfl, hb3⟩
        clear hBc0 hBc1 hBz
        replace hB := hB.below hb3 hB.lt
        replace hbw := Below.up hbw hb3
        have hb3s := hb3.size
        clear hb3
        have hBz := hB.lt
        have hBc0 := hB.c0
        have hBc1 := hB.c1
        go_wp2_with fail
        refine (same_below (isSet_any _ s _ _ (hu.kept (Kept.of hbw)))).mono ?_
        rintro e w4 ⟨rfl, hb4⟩
        clear hBc0 hBc1 hBz
        replace hB := hB.below hb4 hB.lt
        replace hbw := Below.up hbw hb4
        have hb4s := hb4.size
        clear hb4
        have hBz := hB.lt
        have hBc0 := hB.c0
        have hBc1 := hB.c1
        go_wp2_with fail
        refine (size_any _ a _ (hv.kept (Kept.of hbw))).mono ?_
        rintro e w5 ⟨rfl, hb5⟩
        clear hBc0 hBc1 hBz
        replace hB := hB.below hb5 hB.lt
        replace hbw := Below.up hbw hb5
        have hb5s := hb5.size
        clear hb5
        have hBz := hB.lt
        have hBc0 := hB.c0
        have hBc1 := hB.c1
        go_wp2_with fail
        refine (same_below (isSet_any _ t _ _ (hy.kept (Kept.of hbw)))).mono ?_
        rintro e w6 ⟨rfl, hb6⟩
        clear hBc0 hBc1 hBz
        replace hB := hB.below hb6 hB.lt
        replace hbw := Below.up hbw hb6
        have hb6s := hb6.size
        clear hb6
        have hBz := hB.lt
        have hBc0 := hB.c0
        have hBc1 := hB.c1
        go_wp2
        go_ret
        exact ⟨rfl, hbw⟩

set_option maxHeartbeats 1000000 in
theorem l3Ok_any (v : Value) (a : ArenaD) (who : Int) (u : Value) (s : List Int) (w : World) (hv : IsArena w v a) (hu : Ints w u s) :
    Calls Try.prog 89 #[v, .int .i64 who, u] w fun e w' => e = .returned (.bool (l3OkB a who s)) ∧ Below w.heap.size w w' := by
  obtain ⟨o, n, rfl, hbw, hB⟩ := arena_open hv
  obtain ⟨ho, hn⟩ := hv.parts
  obtain ⟨A, c, rfl, hlc, hcm⟩ := ho.form
  cases hE : arenaOkB a
  · have hres : l3OkB a who s = false := by unfold l3OkB; rw [hE]; rfl
    rw [hres]; clear hres
    go_enter Try.func89, Try.ntmps89
    have hBz := hB.lt
    have hBc0 := hB.c0
    have hBc1 := hB.c1
    go_wp2_with fail
    refine (specArenaOk_any _ a _ (hv.kept (Kept.of hbw))).mono ?_
    rintro e w1 ⟨rfl, hb1⟩
    clear hBc0 hBc1 hBz
    replace hB := hB.below hb1 hB.lt
    replace hbw := Below.up hbw hb1
    have hb1s := hb1.size
    clear hb1
    have hBz := hB.lt
    have hBc0 := hB.c0
    have hBc1 := hB.c1
    go_wp2
    go_ret
    exact ⟨rfl, hbw⟩
  · cases hE2 : playerB who
    · have hres : l3OkB a who s = false := by unfold l3OkB; rw [hE, hE2]; rfl
      rw [hres]; clear hres
      go_enter Try.func89, Try.ntmps89
      have hBz := hB.lt
      have hBc0 := hB.c0
      have hBc1 := hB.c1
      go_wp2_with fail
      refine (specArenaOk_any _ a _ (hv.kept (Kept.of hbw))).mono ?_
      rintro e w1 ⟨rfl, hb1⟩
      clear hBc0 hBc1 hBz
      replace hB := hB.below hb1 hB.lt
      replace hbw := Below.up hbw hb1
      have hb1s := hb1.size
      clear hb1
      have hBz := hB.lt
      have hBc0 := hB.c0
      have hBc1 := hB.c1
      go_wp2_with fail
      refine (same_below (l1In_player who _)).mono ?_
      rintro e w2 ⟨rfl, hb2⟩
      clear hBc0 hBc1 hBz
      replace hB := hB.below hb2 hB.lt
      replace hbw := Below.up hbw hb2
      have hb2s := hb2.size
      clear hb2
      have hBz := hB.lt
      have hBc0 := hB.c0
      have hBc1 := hB.c1
      go_wp2
      go_ret
      exact ⟨rfl, hbw⟩
    · have hres : l3OkB a who s = isSetB s a.owner.length := by unfold l3OkB; rw [hE, hE2]; rfl
      rw [hres]; clear hres
      go_enter Try.func89, Try.ntmps89
      have hBz := hB.lt
      have hBc0 := hB.c0
      have hBc1 := hB.c1
      go_wp2_with fail
      refine (specArenaOk_any _ a _ (hv.kept (Kept.of hbw))).mono ?_
      rintro e w1 ⟨rfl, hb1⟩
      clear hBc0 hBc1 hBz
      replace hB := hB.below hb1 hB.lt
      replace hbw := Below.up hbw hb1
      have hb1s := hb1.size
      clear hb1
      have hBz := hB.lt
      have hBc0 := hB.c0
      have hBc1 := hB.c1
      go_wp2_with fail
      refine (same_below (l1In_player who _)).mono ?_
      rintro e w2 ⟨rfl, hb2⟩
      clear hBc0 hBc1 hBz
      replace hB := hB.below hb2 hB.lt
      replace hbw := Below.up hbw hb2
      have hb2s := hb2.size
      clear hb2
      have hBz := hB.lt
      have hBc0 := hB.c0
      have hBc1 := hB.c1
      go_wp2_with fail
      refine (drew_below (l1Set_any _ s _ _ (hu.kept (Kept.of hbw)) (by omega) (by omega))).mono ?_
      rintro e w3 ⟨rfl, hb3⟩
      clear hBc0 hBc1 hBz
      replace hB := hB.below hb3 hB.lt
      replace hbw := Below.up hbw hb3
      have hb3s := hb3.size
      clear hb3
      have hBz := hB.lt
      have hBc0 := hB.c0
      have hBc1 := hB.c1
      go_wp2
      go_ret
      exact ⟨rfl, hbw⟩

theorem Ints.nil (w : World) : Ints w (.slice none 0 0) [] := ⟨none, 0, rfl, Nat.le_refl _, by omega, fun k hk => absurd hk (Nat.not_lt_zero _)⟩

theorem not_eq_comm' {a b : Bool} (h : (!a) = b) : a = !b := by cases a <;> cases b <;> simp_all
end Go.Proofs.Ytigjhhcndigncaa
