/- The walks of EdgeIn, SameArena and what they call. Printed by gen_arena2.py. -/
import Derived.Test.YtpnophmanpfejaaArenaWalks
namespace Go.Proofs.Ytpnophmanpfejaa
set_option linter.unusedSimpArgs false
set_option linter.unusedVariables false
open Go.RowKit

theorem size_any (v : Value) (a : ArenaD) (w : World) (hv : IsArena w v a) :
    Calls Try.prog 76 #[v] w fun e w' => e = .returned (.int .i64 (a.owner.length : Int)) ∧ Below w.heap.size w w' := by
  obtain ⟨o, n, rfl, ho, hn⟩ := hv
  have hb := box_arena w o n
  obtain ⟨A, c, rfl, hlc, hcm⟩ := ho.form
  go_enter Try.func76, Try.ntmps76
  go_wp2
  go_ret
  exact ⟨rfl, hb⟩



/-- Behind the first box of an arena. -/
theorem arena_box {w : World} {v : Value} {a : ArenaD} (hv : IsArena w v a) : ∃ o n, v = .agg #[o, n] ∧ Below w.heap.size w (w.alloc (.cells #[o, n] 30)) ∧ Arr (w.alloc (.cells #[o, n] 30)) w.heap.size 30 [o, n] ∧ IsArena (w.alloc (.cells #[o, n] 30)) (.agg #[o, n]) a := by
  have hv0 := hv
  obtain ⟨o, n, rfl, ho, hn⟩ := hv
  have hb := box_arena w o n
  exact ⟨o, n, rfl, hb, Arr.new _ _ _, hv0.kept (Kept.of hb)⟩

theorem l1In_player (who : Int) (w : World) : Calls Try.prog 110 #[.int .i64 who, .int .i64 0, .int .i64 1] w fun e w' => e = .returned (.bool (playerB who)) ∧ w' = w := l1In_any who 0 1 w
theorem isPlayer_any (who : Int) (w : World) : Calls Try.prog 137 #[.int .i64 who] w fun e w' => e = .returned (.bool (playerB who)) ∧ w' = w := by
  by_cases h0 : who = 0
  · subst h0
    go_enter Try.func137, Try.ntmps137
    go_wp2
    go_ret
    exact ⟨rfl, rfl⟩
  · have hd : (who == 0) = false := by simpa using h0
    have hres : playerB who = (who == 1) := by unfold playerB; rw [Bool.eq_iff_iff]; simp; omega
    rw [hres]
    clear hres h0
    go_enter Try.func137, Try.ntmps137
    go_wp2
    go_ret
    exact ⟨rfl, rfl⟩

set_option maxHeartbeats 1000000 in
theorem isPlan_any (v : Value) (a : ArenaD) (who : Int) (u : Value) (plan : List Int) (w : World) (hv : IsArena w v a) (hu : Ints w u plan) (hok : ArenaOk a) :
    Calls Try.prog 138 #[v, .int .i64 who, u] w fun e w' => e = .returned (.bool (planB a who plan)) ∧ Below w.heap.size w w' := by
  obtain ⟨o, n, rfl, ho, hn⟩ := hv
  have hb := box_arena w o n
  replace ho := ho.kept (Kept.of hb)
  replace hn := hn.kept (Kept.of hb)
  replace hu := hu.kept (Kept.of hb)
  obtain ⟨A, c, rfl, hlc, hcm⟩ := ho.form
  obtain ⟨A', c', rfl, hlc', hcm'⟩ := hn.form
  obtain ⟨A3, c3, rfl, hlc3, hcm3⟩ := hu.form
  have hle := hok.le
  by_cases h1 : plan.length = a.owner.length
  · have hd1 : ((plan.length : Int) != (a.owner.length : Int)) = false := by simp [h1]
    have H1 := Lib.hid h1
    clear h1
    go_enter Try.func138, Try.ntmps138
    go_wp2
    clear hd1
    go_loopw [17] (fun i wr => ∃ k q : Nat, k ≤ plan.length ∧ i = .int .i64 k ∧ wr = (w.alloc (.cells #[.slice A a.owner.length c, .slice A' a.next.length c'] 30)).drewN q ∧ ∀ j, j < k → planAtB a who j (ix plan j) = true) (fun i _ => plan.length - (intOf i).toNat)
    case atStart => exact ⟨0, 0, Nat.zero_le _, rfl, rfl, fun j hj => by omega⟩
    case round =>
      obtain ⟨k, q, hk, rfl, rfl, hm⟩ := hrel
      by_cases hlt : k < plan.length
      · have hlt2 : k < a.owner.length := by rw [← H1.out]; exact hlt
        have hlt3 : k < a.next.length := by rw [hok.len]; exact hlt2
        obtain ⟨a1, rfl, hc1⟩ := ho.at_ hlt2
        obtain ⟨a2, A2, c2, rfl, hc2, hr⟩ := hn.at_ hlt3
        obtain ⟨a3, rfl, hc3⟩ := hu.at_ hlt
        have H := Lib.hid (fun W (hW : Kept (w.alloc (.cells #[.slice (some a1) a.owner.length c, .slice (some a2) a.next.length c'] 30)) W) => Contains_any (.slice A2 (rx a.next k).length c2) (rx a.next k) (ix plan k) W (hr.kept hW))
        by_cases g1 : ix plan k = -1
        · have hv : planAtB a who k (ix plan k) = true := by unfold planAtB; simp [g1]
          have hd : (ix plan k != -1) = false := by simp [g1]
          clear g1 H
          have Hv := Lib.hid hv
          clear hv
          go_wp2
          exact ⟨⟨k + 1, q, by omega, by go_num, by simp, fun j hj => by
            by_cases hjk : j = k
            · rw [hjk]; exact Hv.out
            · exact hm j (by omega)⟩, by simp [intOf]; omega⟩
        · have hd : (ix plan k != -1) = true := by simpa using g1
          by_cases g2 : ix a.owner k = who
          · have hd2 : (ix a.owner k != who) = false := by simpa using g2
            cases g3 : hasB (rx a.next k) (ix plan k)
            · have hv : planAtB a who k (ix plan k) = false := by unfold planAtB; simp [g1, g3]
              clear g1 g2
              have hbad := planB_bad hlt hv
              have Hbad := Lib.hid hbad
              clear hbad hv
              go_wp2_with (go_at_call 81; refine (H.out _ (Kept.drewN _ _)).mono ?_; rintro e w2 ⟨rfl, hw⟩; subst w2)
              go_ret
              exact ⟨by rw [Hbad.out]; rfl, below_drewN hb q⟩
            · have hv : planAtB a who k (ix plan k) = true := by unfold planAtB; simp [g2, g3]
              clear g1 g2
              have Hv := Lib.hid hv
              clear hv
              go_wp2_with (go_at_call 81; refine (H.out _ (Kept.drewN _ _)).mono ?_; rintro e w2 ⟨rfl, hw⟩; subst w2)
              exact ⟨⟨k + 1, q, by omega, by go_num, by simp, fun j hj => by
                by_cases hjk : j = k
                · rw [hjk]; exact Hv.out
                · exact hm j (by omega)⟩, by simp [intOf]; omega⟩
          · have hd2 : (ix a.owner k != who) = true := by simpa using g2
            have hv : planAtB a who k (ix plan k) = false := by unfold planAtB; simp [g1, g2]
            clear g1 g2 H
            have hbad := planB_bad hlt hv
            have Hbad := Lib.hid hbad
            clear hbad hv
            go_wp2
            go_ret
            exact ⟨by rw [Hbad.out]; rfl, below_drewN hb q⟩
      · have ht : planB a who plan = true := planB_iff.2 ⟨H1.out, fun j hj => hm j (by omega)⟩
        have Ht := Lib.hid ht
        clear ht
        go_wp2
        go_ret
        exact ⟨by rw [Ht.out]; rfl, below_drewN hb q⟩
  · have hf : planB a who plan = false := planB_false fun h => h1 h.len
    have hd1 : ((plan.length : Int) != (a.owner.length : Int)) = true := by simp; omega
    rw [hf]
    clear hf
    go_enter Try.func138, Try.ntmps138
    go_wp2
    go_ret
    exact ⟨rfl, hb⟩

set_option maxHeartbeats 1000000 in
theorem l5Plan_any (v : Value) (a : ArenaD) (who : Int) (u : Value) (plan : List Int) (w : World) (hv : IsArena w v a) (hu : Ints w u plan) (hok : ArenaOk a) :
    Calls Try.prog 158 #[v, .int .i64 who, u] w fun e w' => e = .returned (.bool (planB a who plan)) ∧ Below w.heap.size w w' := by
  obtain ⟨o, n, rfl, ho, hn⟩ := hv
  have hb := box_arena w o n
  replace ho := ho.kept (Kept.of hb)
  replace hn := hn.kept (Kept.of hb)
  replace hu := hu.kept (Kept.of hb)
  obtain ⟨A, c, rfl, hlc, hcm⟩ := ho.form
  obtain ⟨A', c', rfl, hlc', hcm'⟩ := hn.form
  obtain ⟨A3, c3, rfl, hlc3, hcm3⟩ := hu.form
  have hle := hok.le
  by_cases h1 : plan.length = a.owner.length
  · have hd1 : ((plan.length : Int) != (a.owner.length : Int)) = false := by simp [h1]
    have H1 := Lib.hid h1
    clear h1
    go_enter Try.func158, Try.ntmps158
    go_wp2
    clear hd1
    go_loopw [7] (fun i wr => ∃ k q : Nat, k ≤ plan.length ∧ i = .int .i64 k ∧ wr = (w.alloc (.cells #[.slice A a.owner.length c, .slice A' a.next.length c'] 30)).drewN q ∧ ∀ j, j < k → planAtB a who j (ix plan j) = true) (fun i _ => plan.length - (intOf i).toNat)
    case atStart => exact ⟨0, 0, Nat.zero_le _, rfl, rfl, fun j hj => by omega⟩
    case round =>
      obtain ⟨k, q, hk, rfl, rfl, hm⟩ := hrel
      by_cases hlt : k < plan.length
      · have hlt2 : k < a.owner.length := by rw [← H1.out]; exact hlt
        have hlt3 : k < a.next.length := by rw [hok.len]; exact hlt2
        obtain ⟨a1, rfl, hc1⟩ := ho.at_ hlt2
        obtain ⟨a2, A2, c2, rfl, hc2, hr⟩ := hn.at_ hlt3
        obtain ⟨a3, rfl, hc3⟩ := hu.at_ hlt
        have H := Lib.hid (fun W (hW : Kept (w.alloc (.cells #[.slice (some a1) a.owner.length c, .slice (some a2) a.next.length c'] 30)) W) => l1Has_any (.slice A2 (rx a.next k).length c2) (rx a.next k) (ix plan k) W (hr.kept hW))
        by_cases g1 : ix plan k = -1
        · have hv : planAtB a who k (ix plan k) = true := by unfold planAtB; simp [g1]
          have hd : (ix plan k != -1) = false := by simp [g1]
          clear g1 H
          have Hv := Lib.hid hv
          clear hv
          go_wp2
          go_quiet (fail)
          go_wp2
          exact ⟨⟨k + 1, q + nq, by omega, by go_num, by simp, fun j hj => by
            by_cases hjk : j = k
            · rw [hjk]; exact Hv.out
            · exact hm j (by omega)⟩, by simp [intOf]; omega⟩
        · have hd : (ix plan k != -1) = true := by simpa using g1
          by_cases g2 : ix a.owner k = who
          · have hd2 : (ix a.owner k != who) = false := by simpa using g2
            cases g3 : hasB (rx a.next k) (ix plan k)
            · have hv : planAtB a who k (ix plan k) = false := by unfold planAtB; simp [g1, g3]
              clear g1 g2
              have hbad := planB_bad hlt hv
              have Hbad := Lib.hid hbad
              clear hbad hv
              go_wp2
              go_quiet ((go_at_call 111; first | exact Calls.quiet_of_same (H.out _ (Kept.drewN _ _)) | exact quiet_add (quiet_same (H.out _ (Kept.drewN _ _)))))
              go_wp2
              go_ret
              exact ⟨by rw [Hbad.out]; rfl, below_drewN (below_drewN hb q) nq⟩
            · have hv : planAtB a who k (ix plan k) = true := by unfold planAtB; simp [g2, g3]
              clear g1 g2
              have Hv := Lib.hid hv
              clear hv
              go_wp2
              go_quiet ((go_at_call 111; first | exact Calls.quiet_of_same (H.out _ (Kept.drewN _ _)) | exact quiet_add (quiet_same (H.out _ (Kept.drewN _ _)))))
              go_wp2
              exact ⟨⟨k + 1, q + nq, by omega, by go_num, by simp, fun j hj => by
                by_cases hjk : j = k
                · rw [hjk]; exact Hv.out
                · exact hm j (by omega)⟩, by simp [intOf]; omega⟩
          · have hd2 : (ix a.owner k != who) = true := by simpa using g2
            have hv : planAtB a who k (ix plan k) = false := by unfold planAtB; simp [g1, g2]
            clear g1 g2 H
            have hbad := planB_bad hlt hv
            have Hbad := Lib.hid hbad
            clear hbad hv
            go_wp2
            go_quiet (fail)
            go_wp2
            go_ret
            exact ⟨by rw [Hbad.out]; rfl, below_drewN (below_drewN hb q) nq⟩
      · have ht : planB a who plan = true := planB_iff.2 ⟨H1.out, fun j hj => hm j (by omega)⟩
        have Ht := Lib.hid ht
        clear ht
        go_wp2
        go_ret
        exact ⟨by rw [Ht.out]; rfl, below_drewN hb q⟩
  · have hf : planB a who plan = false := planB_false fun h => h1 h.len
    have hd1 : ((plan.length : Int) != (a.owner.length : Int)) = true := by simp; omega
    rw [hf]
    clear hf
    go_enter Try.func158, Try.ntmps158
    go_wp2
    go_ret
    exact ⟨rfl, hb⟩

set_option maxHeartbeats 400000 in
theorem specPlanOk_any (v : Value) (a : ArenaD) (who : Int) (u : Value) (plan : List Int) (w : World) (hv : IsArena w v a) (hu : Ints w u plan) :
    Calls Try.prog 136 #[v, .int .i64 who, u] w fun e w' => e = .returned (.bool (planOkB a who plan)) ∧ Below w.heap.size w w' := by
  obtain ⟨o, n, rfl, hbw, hB, hv⟩ := arena_box hv
  replace hu := hu.kept (Kept.of hbw)
  cases hE0 : arenaOkB a
  · have hres : planOkB a who plan = false := by unfold planOkB; rw [hE0]; rfl
    rw [hres]
    clear hres
    go_enter Try.func136, Try.ntmps136
    have hBc0 := hB.c0
    have hBc1 := hB.c1
    go_wp2_with fail
    refine (specArenaOk_any _ a _ hv).mono ?_
    rintro e w1 ⟨rfl, hb1⟩
    replace hB := hB.below hb1 hB.lt
    clear hBc0
    clear hBc1
    replace hv := hv.kept (Kept.of hb1)
    replace hu := hu.kept (Kept.of hb1)
    replace hbw := Below.up hbw hb1
    have hBc0 := hB.c0
    have hBc1 := hB.c1
    clear hb1
    go_wp2
    go_ret
    exact ⟨rfl, hbw⟩
  · skip
    cases hE1 : playerB who
    · have hres : planOkB a who plan = false := by unfold planOkB; rw [hE0, hE1]; rfl
      rw [hres]
      clear hres
      go_enter Try.func136, Try.ntmps136
      have hBc0 := hB.c0
      have hBc1 := hB.c1
      go_wp2_with fail
      refine (specArenaOk_any _ a _ hv).mono ?_
      rintro e w1 ⟨rfl, hb1⟩
      replace hB := hB.below hb1 hB.lt
      clear hBc0
      clear hBc1
      replace hv := hv.kept (Kept.of hb1)
      replace hu := hu.kept (Kept.of hb1)
      replace hbw := Below.up hbw hb1
      have hBc0 := hB.c0
      have hBc1 := hB.c1
      clear hb1
      go_wp2_with fail
      refine (same_below (l1In_player who _)).mono ?_
      rintro e w2 ⟨rfl, hb2⟩
      replace hB := hB.below hb2 hB.lt
      clear hBc0
      clear hBc1
      replace hv := hv.kept (Kept.of hb2)
      replace hu := hu.kept (Kept.of hb2)
      replace hbw := Below.up hbw hb2
      have hBc0 := hB.c0
      have hBc1 := hB.c1
      clear hb2
      go_wp2
      go_ret
      exact ⟨rfl, hbw⟩
    · skip
      have hres : planOkB a who plan = planB a who plan := by unfold planOkB; rw [hE0, hE1]; rfl
      rw [hres]
      clear hres
      go_enter Try.func136, Try.ntmps136
      have hBc0 := hB.c0
      have hBc1 := hB.c1
      go_wp2_with fail
      refine (specArenaOk_any _ a _ hv).mono ?_
      rintro e w1 ⟨rfl, hb1⟩
      replace hB := hB.below hb1 hB.lt
      clear hBc0
      clear hBc1
      replace hv := hv.kept (Kept.of hb1)
      replace hu := hu.kept (Kept.of hb1)
      replace hbw := Below.up hbw hb1
      have hBc0 := hB.c0
      have hBc1 := hB.c1
      clear hb1
      go_wp2_with fail
      refine (same_below (l1In_player who _)).mono ?_
      rintro e w2 ⟨rfl, hb2⟩
      replace hB := hB.below hb2 hB.lt
      clear hBc0
      clear hBc1
      replace hv := hv.kept (Kept.of hb2)
      replace hu := hu.kept (Kept.of hb2)
      replace hbw := Below.up hbw hb2
      have hBc0 := hB.c0
      have hBc1 := hB.c1
      clear hb2
      go_wp2_with fail
      refine (l5Plan_any _ a _ _ plan _ hv hu (arenaOkB_iff.1 hE0)).mono ?_
      rintro e w3 ⟨rfl, hb3⟩
      replace hB := hB.below hb3 hB.lt
      clear hBc0
      clear hBc1
      replace hv := hv.kept (Kept.of hb3)
      replace hu := hu.kept (Kept.of hb3)
      replace hbw := Below.up hbw hb3
      have hBc0 := hB.c0
      have hBc1 := hB.c1
      clear hb3
      go_wp2
      go_ret
      exact ⟨rfl, hbw⟩

end Go.Proofs.Ytpnophmanpfejaa
