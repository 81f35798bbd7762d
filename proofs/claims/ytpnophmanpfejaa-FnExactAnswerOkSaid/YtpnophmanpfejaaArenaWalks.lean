/- The walks of ArenaOk and its kin. Printed by gen_arena.py. -/
import Derived.Test.YtpnophmanpfejaaArenaPlain
import Derived.Test.YtpnophmanpfejaaSetWalks
namespace Go.Proofs.Ytpnophmanpfejaa
set_option linter.unusedSimpArgs false
set_option linter.unusedVariables false
open Go.RowKit

theorem box_arena (w : World) (o n : Value) : Below w.heap.size w (w.alloc (.cells #[o, n] 30)) := (Below.refl _ _).alloc (Nat.le_refl _) _

set_option maxHeartbeats 1000000 in
theorem specArenaOk_any (v : Value) (a : ArenaD) (w : World) (hv : IsArena w v a) :
    Calls Try.prog 100 #[v] w fun e w' => e = .returned (.bool (arenaOkB a)) ∧ Below w.heap.size w w' := by
  obtain ⟨o, n, rfl, ho, hn⟩ := hv
  have hb := box_arena w o n
  replace ho := ho.kept (Kept.of hb)
  replace hn := hn.kept (Kept.of hb)
  obtain ⟨A, c, rfl, hlc, hcm⟩ := ho.form
  obtain ⟨A', c', rfl, hlc', hcm'⟩ := hn.form
  by_cases h1 : 1 ≤ a.owner.length ∧ a.owner.length ≤ 256
  · obtain ⟨h1, h2⟩ := h1
    have hd1 : decide ((1 : Int) ≤ (a.owner.length : Int) ∧ (a.owner.length : Int) ≤ 256) = true := by simp; omega
    by_cases h3 : a.next.length = a.owner.length
    · have hd3 : ((a.next.length : Int) != (a.owner.length : Int)) = false := by simp [h3]
      have H3 := Lib.hid h3
      clear h3
      go_enter Try.func100, Try.ntmps100
      go_wp2_with (go_at_call 110; refine (l1In_any _ _ _ _).mono ?_; rintro e w' ⟨rfl, hw⟩; subst w')
      clear hd1 hd3
      go_loopw [4] (fun i wr => ∃ k q : Nat, k ≤ a.owner.length ∧ i = .int .i64 k ∧ wr = (w.alloc (.cells #[.slice A a.owner.length c, .slice A' a.next.length c'] 30)).drewN q ∧ ∀ j, j < k → vertexOkB a j = true) (fun i _ => a.owner.length - (intOf i).toNat)
      case atStart => exact ⟨0, 0, Nat.zero_le _, rfl, rfl, fun j hj => by omega⟩
      case round =>
        obtain ⟨k, q, hk, rfl, rfl, hm⟩ := hrel
        by_cases hlt : k < a.owner.length
        · obtain ⟨a1, rfl, hc1⟩ := ho.at_ hlt
          obtain ⟨a2, A2, c2, rfl, hc2, hr⟩ := hn.at_ (k := k) (by rw [H3.out]; exact hlt)
          obtain ⟨A2', c2', he, hlc2, hcm2⟩ := hr.form
          simp only [Value.slice.injEq, true_and] at he
          obtain ⟨rfl, rfl⟩ := he
          have hlt' : k < a.next.length := by rw [H3.out]; exact hlt
          by_cases g1 : 0 ≤ ix a.owner k ∧ ix a.owner k ≤ 1
          · have go : decide ((0 : Int) ≤ ix a.owner k ∧ ix a.owner k ≤ 1) = true := by simpa using g1
            by_cases g2 : 1 ≤ (rx a.next k).length
            · by_cases g3 : (rx a.next k).length ≤ 16
              · cases g4 : isSetB (rx a.next k) a.owner.length
                · have hv : vertexOkB a k = false := by unfold vertexOkB; rw [g4]; simp
                  clear g1
                  have hbad : arenaOkB a = false := arenaOkB_bad hlt hv
                  have Hbad := Lib.hid hbad
                  clear hbad hv
                  go_wp2_with (first | (go_at_call 110; refine (l1In_any _ _ _ _).mono ?_; rintro e w' ⟨rfl, hw⟩; subst w') | (go_at_call 101; refine (l1Set_any _ _ _ _ (hr.kept (Kept.drewN _ q)) (by omega) (by omega)).mono ?_; rintro e w' ⟨rfl, q2, rfl⟩))
                  go_ret
                  exact ⟨by rw [Hbad.out]; rfl, below_drewN hb _⟩
                · have hv : vertexOkB a k = true := by unfold vertexOkB; rw [g4]; simp; omega
                  clear g1
                  have Hv := Lib.hid hv
                  clear hv
                  go_wp2_with (first | (go_at_call 110; refine (l1In_any _ _ _ _).mono ?_; rintro e w' ⟨rfl, hw⟩; subst w') | (go_at_call 101; refine (l1Set_any _ _ _ _ (hr.kept (Kept.drewN _ q)) (by omega) (by omega)).mono ?_; rintro e w' ⟨rfl, q2, rfl⟩))
                  exact ⟨⟨k + 1, q + q2, by omega, by go_num, by simp, fun j hj => by
                    by_cases hjk : j = k
                    · rw [hjk]; exact Hv.out
                    · exact hm j (by omega)⟩, by simp [intOf]; omega⟩
              · have hv : vertexOkB a k = false := by unfold vertexOkB; rw [decide_eq_false (p := (rx a.next k).length ≤ 16) (by omega)]; simp
                clear g1
                have hbad : arenaOkB a = false := arenaOkB_bad hlt hv
                have Hbad := Lib.hid hbad
                clear hbad hv
                go_wp2_with (first | (go_at_call 110; refine (l1In_any _ _ _ _).mono ?_; rintro e w' ⟨rfl, hw⟩; subst w') | (go_at_call 101; refine (l1Set_any _ _ _ _ (hr.kept (Kept.drewN _ q)) (by omega) (by omega)).mono ?_; rintro e w' ⟨rfl, q2, rfl⟩))
                go_ret
                exact ⟨by rw [Hbad.out]; rfl, below_drewN hb _⟩
            · have hv : vertexOkB a k = false := by unfold vertexOkB; rw [decide_eq_false (p := 1 ≤ (rx a.next k).length) (by omega)]; simp
              clear g1
              have hbad : arenaOkB a = false := arenaOkB_bad hlt hv
              have Hbad := Lib.hid hbad
              clear hbad hv
              go_wp2_with (first | (go_at_call 110; refine (l1In_any _ _ _ _).mono ?_; rintro e w' ⟨rfl, hw⟩; subst w') | (go_at_call 101; refine (l1Set_any _ _ _ _ (hr.kept (Kept.drewN _ q)) (by omega) (by omega)).mono ?_; rintro e w' ⟨rfl, q2, rfl⟩))
              go_ret
              exact ⟨by rw [Hbad.out]; rfl, below_drewN hb _⟩
          · have go : decide ((0 : Int) ≤ ix a.owner k ∧ ix a.owner k ≤ 1) = false := by simpa using g1
            have hv : vertexOkB a k = false := by unfold vertexOkB; rw [decide_eq_false (fun h => g1 h)]; rfl
            clear g1
            have hbad : arenaOkB a = false := arenaOkB_bad hlt hv
            have Hbad := Lib.hid hbad
            clear hbad hv
            go_wp2_with (first | (go_at_call 110; refine (l1In_any _ _ _ _).mono ?_; rintro e w' ⟨rfl, hw⟩; subst w') | (go_at_call 101; refine (l1Set_any _ _ _ _ (hr.kept (Kept.drewN _ q)) (by omega) (by omega)).mono ?_; rintro e w' ⟨rfl, q2, rfl⟩))
            go_ret
            exact ⟨by rw [Hbad.out]; rfl, below_drewN hb _⟩
        · have ht : arenaOkB a = true := arenaOkB_iff.2 ⟨h1, h2, H3.out, fun j hj => hm j (by omega)⟩
          have Ht := Lib.hid ht
          clear ht
          have hk' : k = a.owner.length := by omega
          have h5 : a.owner.length ≤ a.next.length := by rw [H3.out]; omega
          have h6 : a.next.length ≤ a.owner.length := by rw [H3.out]; omega
          clear hk'
          go_wp2
          go_ret
          exact ⟨by rw [Ht.out]; rfl, below_drewN hb _⟩
    · have hf : arenaOkB a = false := arenaOkB_false fun h => h3 h.len
      have hd3 : ((a.next.length : Int) != (a.owner.length : Int)) = true := by simp; omega
      rw [hf]
      clear hf
      go_enter Try.func100, Try.ntmps100
      go_wp2_with (go_at_call 110; refine (l1In_any _ _ _ _).mono ?_; rintro e w' ⟨rfl, hw⟩; subst w')
      go_ret
      exact ⟨rfl, hb⟩
  · have hf : arenaOkB a = false := arenaOkB_false fun h => h1 ⟨h.pos, h.le⟩
    rw [hf]
    clear hf
    have hd1 : decide ((1 : Int) ≤ (a.owner.length : Int) ∧ (a.owner.length : Int) ≤ 256) = false := by simp; omega
    by_cases h0 : 1 ≤ a.owner.length
    · have h0' : ¬ a.owner.length ≤ 256 := fun h => h1 ⟨h0, h⟩
      clear h1
      go_enter Try.func100, Try.ntmps100
      go_wp2_with (go_at_call 110; refine (l1In_any _ _ _ _).mono ?_; rintro e w' ⟨rfl, hw⟩; subst w')
      go_ret
      exact ⟨rfl, hb⟩
    · clear h1
      go_enter Try.func100, Try.ntmps100
      go_wp2_with (go_at_call 110; refine (l1In_any _ _ _ _).mono ?_; rintro e w' ⟨rfl, hw⟩; subst w')
      go_ret
      exact ⟨rfl, hb⟩

set_option maxHeartbeats 1000000 in
theorem ArenaOk_any (v : Value) (a : ArenaD) (w : World) (hv : IsArena w v a) :
    Calls Try.prog 104 #[v] w fun e w' => e = .returned (.bool (arenaOkB a)) ∧ Below w.heap.size w w' := by
  obtain ⟨o, n, rfl, ho, hn⟩ := hv
  have hb := box_arena w o n
  replace ho := ho.kept (Kept.of hb)
  replace hn := hn.kept (Kept.of hb)
  obtain ⟨A, c, rfl, hlc, hcm⟩ := ho.form
  obtain ⟨A', c', rfl, hlc', hcm'⟩ := hn.form
  by_cases h1 : 1 ≤ a.owner.length ∧ a.owner.length ≤ 256
  · obtain ⟨h1, h2⟩ := h1
    have hd1 : decide ((1 : Int) ≤ (a.owner.length : Int) ∧ (a.owner.length : Int) ≤ 256) = true := by simp; omega
    by_cases h3 : a.next.length = a.owner.length
    · have hd3 : ((a.next.length : Int) != (a.owner.length : Int)) = false := by simp [h3]
      have H3 := Lib.hid h3
      clear h3
      go_enter Try.func104, Try.ntmps104
      go_wp2
      clear hd1 hd3
      go_loopw [25] (fun i wr => ∃ k q : Nat, k ≤ a.owner.length ∧ i = .int .i64 k ∧ wr = (w.alloc (.cells #[.slice A a.owner.length c, .slice A' a.next.length c'] 30)).drewN q ∧ ∀ j, j < k → vertexOkB a j = true) (fun i _ => a.owner.length - (intOf i).toNat)
      case atStart => exact ⟨0, 0, Nat.zero_le _, rfl, rfl, fun j hj => by omega⟩
      case round =>
        obtain ⟨k, q, hk, rfl, rfl, hm⟩ := hrel
        by_cases hlt : k < a.owner.length
        · obtain ⟨a1, rfl, hc1⟩ := ho.at_ hlt
          obtain ⟨a2, A2, c2, rfl, hc2, hr⟩ := hn.at_ (k := k) (by rw [H3.out]; exact hlt)
          obtain ⟨A2', c2', he, hlc2, hcm2⟩ := hr.form
          simp only [Value.slice.injEq, true_and] at he
          obtain ⟨rfl, rfl⟩ := he
          have hlt' : k < a.next.length := by rw [H3.out]; exact hlt
          by_cases g1 : 0 ≤ ix a.owner k ∧ ix a.owner k ≤ 1
          · obtain ⟨go1, go2⟩ := id g1
            by_cases g2 : 1 ≤ (rx a.next k).length
            · by_cases g3 : (rx a.next k).length ≤ 16
              · cases g4 : isSetB (rx a.next k) a.owner.length
                · have hv : vertexOkB a k = false := by unfold vertexOkB; rw [g4]; simp
                  clear g1
                  have hbad : arenaOkB a = false := arenaOkB_bad hlt hv
                  have Hbad := Lib.hid hbad
                  clear hbad hv
                  go_wp2_with (first | (go_at_call 75; refine (isSet_any _ _ _ _ (hr.kept (Kept.drewN _ q))).mono ?_; rintro e w' ⟨rfl, hw⟩; subst w'))
                  go_ret
                  exact ⟨by rw [Hbad.out]; rfl, below_drewN hb _⟩
                · have hv : vertexOkB a k = true := by unfold vertexOkB; rw [g4]; simp; omega
                  clear g1
                  have Hv := Lib.hid hv
                  clear hv
                  go_wp2_with (first | (go_at_call 75; refine (isSet_any _ _ _ _ (hr.kept (Kept.drewN _ q))).mono ?_; rintro e w' ⟨rfl, hw⟩; subst w'))
                  exact ⟨⟨k + 1, q, by omega, by go_num, by simp, fun j hj => by
                    by_cases hjk : j = k
                    · rw [hjk]; exact Hv.out
                    · exact hm j (by omega)⟩, by simp [intOf]; omega⟩
              · have hv : vertexOkB a k = false := by unfold vertexOkB; rw [decide_eq_false (p := (rx a.next k).length ≤ 16) (by omega)]; simp
                clear g1
                have hbad : arenaOkB a = false := arenaOkB_bad hlt hv
                have Hbad := Lib.hid hbad
                clear hbad hv
                go_wp2_with (first | (go_at_call 75; refine (isSet_any _ _ _ _ (hr.kept (Kept.drewN _ q))).mono ?_; rintro e w' ⟨rfl, hw⟩; subst w'))
                go_ret
                exact ⟨by rw [Hbad.out]; rfl, below_drewN hb _⟩
            · have hv : vertexOkB a k = false := by unfold vertexOkB; rw [decide_eq_false (p := 1 ≤ (rx a.next k).length) (by omega)]; simp
              clear g1
              have hbad : arenaOkB a = false := arenaOkB_bad hlt hv
              have Hbad := Lib.hid hbad
              clear hbad hv
              go_wp2_with (first | (go_at_call 75; refine (isSet_any _ _ _ _ (hr.kept (Kept.drewN _ q))).mono ?_; rintro e w' ⟨rfl, hw⟩; subst w'))
              go_ret
              exact ⟨by rw [Hbad.out]; rfl, below_drewN hb _⟩
          · have hv : vertexOkB a k = false := by unfold vertexOkB; rw [decide_eq_false (fun h => g1 h)]; rfl
            by_cases g0 : 0 ≤ ix a.owner k
            · have g1' : ¬ ix a.owner k ≤ 1 := fun h => g1 ⟨g0, h⟩
              clear g1
              have hbad : arenaOkB a = false := arenaOkB_bad hlt hv
              have Hbad := Lib.hid hbad
              clear hbad hv
              go_wp2_with (first | (go_at_call 75; refine (isSet_any _ _ _ _ (hr.kept (Kept.drewN _ q))).mono ?_; rintro e w' ⟨rfl, hw⟩; subst w'))
              go_ret
              exact ⟨by rw [Hbad.out]; rfl, below_drewN hb _⟩
            · clear g1
              have hbad : arenaOkB a = false := arenaOkB_bad hlt hv
              have Hbad := Lib.hid hbad
              clear hbad hv
              go_wp2_with (first | (go_at_call 75; refine (isSet_any _ _ _ _ (hr.kept (Kept.drewN _ q))).mono ?_; rintro e w' ⟨rfl, hw⟩; subst w'))
              go_ret
              exact ⟨by rw [Hbad.out]; rfl, below_drewN hb _⟩
        · have ht : arenaOkB a = true := arenaOkB_iff.2 ⟨h1, h2, H3.out, fun j hj => hm j (by omega)⟩
          have Ht := Lib.hid ht
          clear ht
          have hk' : k = a.owner.length := by omega
          have h5 : a.owner.length ≤ a.next.length := by rw [H3.out]; omega
          have h6 : a.next.length ≤ a.owner.length := by rw [H3.out]; omega
          clear hk'
          go_wp2
          go_ret
          exact ⟨by rw [Ht.out]; rfl, below_drewN hb _⟩
    · have hf : arenaOkB a = false := arenaOkB_false fun h => h3 h.len
      have hd3 : ((a.next.length : Int) != (a.owner.length : Int)) = true := by simp; omega
      rw [hf]
      clear hf
      go_enter Try.func104, Try.ntmps104
      go_wp2
      go_ret
      exact ⟨rfl, hb⟩
  · have hf : arenaOkB a = false := arenaOkB_false fun h => h1 ⟨h.pos, h.le⟩
    rw [hf]
    clear hf
    have hd1 : decide ((1 : Int) ≤ (a.owner.length : Int) ∧ (a.owner.length : Int) ≤ 256) = false := by simp; omega
    by_cases h0 : 1 ≤ a.owner.length
    · have h0' : ¬ a.owner.length ≤ 256 := fun h => h1 ⟨h0, h⟩
      clear h1
      go_enter Try.func104, Try.ntmps104
      go_wp2
      go_ret
      exact ⟨rfl, hb⟩
    · clear h1
      go_enter Try.func104, Try.ntmps104
      go_wp2
      go_ret
      exact ⟨rfl, hb⟩

end Go.Proofs.Ytpnophmanpfejaa
