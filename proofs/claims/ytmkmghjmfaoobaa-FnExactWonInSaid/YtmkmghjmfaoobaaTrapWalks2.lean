/- The walks of EscapesIn and TrapIn, both ways. Conditions: the lists' lengths. -/
import Derived.Test.YtmkmghjmfaoobaaPkB
namespace Go.Proofs.Ytmkmghjmfaoobaa
set_option linter.unusedSimpArgs false
set_option linter.unusedVariables false
open Go.RowKit

set_option maxHeartbeats 1000000 in
theorem l3Ok_any (v : Value) (a : ArenaD) (who : Int) (u : Value) (s : List Int) (w : World) (hv : IsArena w v a) (hu : Ints w u s) :
    Calls Try.prog 73 #[v, .int .i64 who, u] w fun e w' => e = .returned (.bool (l3OkB a who s)) ∧ Below w.heap.size w w' := by
  obtain ⟨o, n, rfl, hbw, hB⟩ := arena_open hv
  obtain ⟨ho, hn⟩ := hv.parts
  obtain ⟨A, c, rfl, hlc, hcm⟩ := ho.form
  cases hE : arenaOkB a
  · have hres : l3OkB a who s = false := by unfold l3OkB; rw [hE]; rfl
    rw [hres]; clear hres
    go_enter Try.func73, Try.ntmps73
    have hBz := hB.lt
    have hBc0 := hB.c0
    have hBc1 := hB.c1
    go_wp2_with fail
    refine (specArenaOk_any _ a _ (hv.kept (Kept.of hbw))).mono ?_
    rintro e w1 ⟨rfl, hb1⟩
    clear hBc0 hBc1 hBz
    replace hB := hB.below hb1 hB.lt
    replace hbw := Below.up hbw hb1
    have hb1s := hb1.size
    clear hb1
    have hBz := hB.lt
    have hBc0 := hB.c0
    have hBc1 := hB.c1
    go_wp2
    go_ret
    exact ⟨rfl, hbw⟩
  · cases hE2 : playerB who
    · have hres : l3OkB a who s = false := by unfold l3OkB; rw [hE, hE2]; rfl
      rw [hres]; clear hres
      go_enter Try.func73, Try.ntmps73
      have hBz := hB.lt
      have hBc0 := hB.c0
      have hBc1 := hB.c1
      go_wp2_with fail
      refine (specArenaOk_any _ a _ (hv.kept (Kept.of hbw))).mono ?_
      rintro e w1 ⟨rfl, hb1⟩
      clear hBc0 hBc1 hBz
      replace hB := hB.below hb1 hB.lt
      replace hbw := Below.up hbw hb1
      have hb1s := hb1.size
      clear hb1
      have hBz := hB.lt
      have hBc0 := hB.c0
      have hBc1 := hB.c1
      go_wp2_with fail
      refine (same_below (l1In_player who _)).mono ?_
      rintro e w2 ⟨rfl, hb2⟩
      clear hBc0 hBc1 hBz
      replace hB := hB.below hb2 hB.lt
      replace hbw := Below.up hbw hb2
      have hb2s := hb2.size
      clear hb2
      have hBz := hB.lt
      have hBc0 := hB.c0
      have hBc1 := hB.c1
      go_wp2
      go_ret
      exact ⟨rfl, hbw⟩
    · have hres : l3OkB a who s = isSetB s a.owner.length := by unfold l3OkB; rw [hE, hE2]; rfl
      rw [hres]; clear hres
      go_enter Try.func73, Try.ntmps73
      have hBz := hB.lt
      have hBc0 := hB.c0
      have hBc1 := hB.c1
      go_wp2_with fail
      refine (specArenaOk_any _ a _ (hv.kept (Kept.of hbw))).mono ?_
      rintro e w1 ⟨rfl, hb1⟩
      clear hBc0 hBc1 hBz
      replace hB := hB.below hb1 hB.lt
      replace hbw := Below.up hbw hb1
      have hb1s := hb1.size
      clear hb1
      have hBz := hB.lt
      have hBc0 := hB.c0
      have hBc1 := hB.c1
      go_wp2_with fail
      refine (same_below (l1In_player who _)).mono ?_
      rintro e w2 ⟨rfl, hb2⟩
      clear hBc0 hBc1 hBz
      replace hB := hB.below hb2 hB.lt
      replace hbw := Below.up hbw hb2
      have hb2s := hb2.size
      clear hb2
      have hBz := hB.lt
      have hBc0 := hB.c0
      have hBc1 := hB.c1
      go_wp2_with fail
      refine (drew_below (l1Set_any _ s _ _ (hu.kept (Kept.of hbw)) (by omega) (by omega))).mono ?_
      rintro e w3 ⟨rfl, hb3⟩
      clear hBc0 hBc1 hBz
      replace hB := hB.below hb3 hB.lt
      replace hbw := Below.up hbw hb3
      have hb3s := hb3.size
      clear hb3
      have hBz := hB.lt
      have hBc0 := hB.c0
      have hBc1 := hB.c1
      go_wp2
      go_ret
      exact ⟨rfl, hbw⟩

theorem Ints.nil (w : World) : Ints w (.slice none 0 0) [] := ⟨none, 0, rfl, Nat.le_refl _, by omega, fun k hk => absurd hk (Nat.not_lt_zero _)⟩

theorem not_eq_comm' {a b : Bool} (h : (!a) = b) : a = !b := by cases a <;> cases b <;> simp_all
end Go.Proofs.Ytmkmghjmfaoobaa
