/- The walks of SameArena. Printed by gen_same.py. -/
import Derived.Test.YtpnophmanpfejaaArenaWalks2
import Derived.Test.YtpnophmanpfejaaEqWalks
namespace Go.Proofs.Ytpnophmanpfejaa
set_option linter.unusedSimpArgs false
set_option linter.unusedVariables false
open Go.RowKit

theorem arena_eq (a b : ArenaD) : decide (a = b) = (decide (a.owner = b.owner) && decide (a.next = b.next)) := by
  cases a; cases b; simp
/-- Behind the boxes of two arenas. -/
theorem arena_box2 {w : World} {v u : Value} {a b : ArenaD} (hv : IsArena w v a) (hu : IsArena w u b) : ∃ o n o' n', v = .agg #[o, n] ∧ u = .agg #[o', n'] ∧
    Below w.heap.size w ((w.alloc (.cells #[o, n] 30)).alloc (.cells #[o', n'] 30)) ∧ Arr ((w.alloc (.cells #[o, n] 30)).alloc (.cells #[o', n'] 30)) w.heap.size 30 [o, n] ∧
    Arr ((w.alloc (.cells #[o, n] 30)).alloc (.cells #[o', n'] 30)) (w.heap.size + 1) 30 [o', n'] ∧
    IsArena ((w.alloc (.cells #[o, n] 30)).alloc (.cells #[o', n'] 30)) (.agg #[o, n]) a ∧ IsArena ((w.alloc (.cells #[o, n] 30)).alloc (.cells #[o', n'] 30)) (.agg #[o', n']) b := by
  have hv0 := hv
  have hu0 := hu
  obtain ⟨o, n, rfl, ho, hn⟩ := hv
  obtain ⟨o', n', rfl, ho', hn'⟩ := hu
  have hb : Below w.heap.size w ((w.alloc (.cells #[o, n] 30)).alloc (.cells #[o', n'] 30)) := ((Below.refl _ _).alloc (Nat.le_refl _) _).alloc (by simp) _
  have h2 := Arr.new (w.alloc (.cells #[o, n] 30)) 30 [o', n']
  refine ⟨o, n, o', n', rfl, rfl, hb, (Arr.new _ _ _).alloc _, by simpa using h2, hv0.kept (Kept.of hb), hu0.kept (Kept.of hb)⟩
theorem IsArena.parts {w : World} {o n : Value} {a : ArenaD} (h : IsArena w (.agg #[o, n]) a) : Ints w o a.owner ∧ Rows w n a.next := by
  obtain ⟨o', n', he, h1, h2⟩ := h
  simp only [Value.agg.injEq, Array.mk.injEq, List.cons.injEq, and_true] at he
  obtain ⟨rfl, rfl⟩ := he
  exact ⟨h1, h2⟩
def sameP (a b : ArenaD) : Bool := decide (a.owner = b.owner) && decide (a.next = b.next)

set_option maxHeartbeats 400000 in
theorem sameArena_any (v : Value) (a : ArenaD) (u : Value) (b : ArenaD) (w : World) (hv : IsArena w v a) (hu : IsArena w u b) :
    Calls Try.prog 124 #[v, u] w fun e w' => e = .returned (.bool (sameP a b)) ∧ Below w.heap.size w w' := by
  obtain ⟨o, n, o', n', rfl, rfl, hbw, hB, hD, hv, hu⟩ := arena_box2 hv hu
  cases hE0 : decide (a.owner = b.owner)
  · have hres : sameP a b = false := by unfold sameP; rw [hE0]; rfl
    rw [hres]
    clear hres
    go_enter Try.func124, Try.ntmps124
    have hBc0 := hB.c0
    have hBc1 := hB.c1
    have hDc0 := hD.c0
    have hDc1 := hD.c1
    go_wp2_with fail
    refine (drew_below (Equal_any _ _ _ _ _ hv.parts.1 hu.parts.1)).mono ?_
    rintro e w1 ⟨rfl, hb1⟩
    replace hB := hB.below hb1 hB.lt
    clear hBc0
    clear hBc1
    replace hD := hD.below hb1 hD.lt
    clear hDc0
    clear hDc1
    replace hv := hv.kept (Kept.of hb1)
    replace hu := hu.kept (Kept.of hb1)
    replace hbw := Below.up hbw hb1
    have hBc0 := hB.c0
    have hBc1 := hB.c1
    have hDc0 := hD.c0
    have hDc1 := hD.c1
    clear hb1
    go_wp2
    go_ret
    exact ⟨rfl, hbw⟩
  · skip
    have hres : sameP a b = decide (a.next = b.next) := by unfold sameP; rw [hE0]; rfl
    rw [hres]
    clear hres
    go_enter Try.func124, Try.ntmps124
    have hBc0 := hB.c0
    have hBc1 := hB.c1
    have hDc0 := hD.c0
    have hDc1 := hD.c1
    go_wp2_with fail
    refine (drew_below (Equal_any _ _ _ _ _ hv.parts.1 hu.parts.1)).mono ?_
    rintro e w1 ⟨rfl, hb1⟩
    replace hB := hB.below hb1 hB.lt
    clear hBc0
    clear hBc1
    replace hD := hD.below hb1 hD.lt
    clear hDc0
    clear hDc1
    replace hv := hv.kept (Kept.of hb1)
    replace hu := hu.kept (Kept.of hb1)
    replace hbw := Below.up hbw hb1
    have hBc0 := hB.c0
    have hBc1 := hB.c1
    have hDc0 := hD.c0
    have hDc1 := hD.c1
    clear hb1
    go_wp2_with fail
    refine (drew_below (EqualFunc_any _ _ _ _ _ hv.parts.2 hu.parts.2)).mono ?_
    rintro e w2 ⟨rfl, hb2⟩
    replace hB := hB.below hb2 hB.lt
    clear hBc0
    clear hBc1
    replace hD := hD.below hb2 hD.lt
    clear hDc0
    clear hDc1
    replace hv := hv.kept (Kept.of hb2)
    replace hu := hu.kept (Kept.of hb2)
    replace hbw := Below.up hbw hb2
    have hBc0 := hB.c0
    have hBc1 := hB.c1
    have hDc0 := hD.c0
    have hDc1 := hD.c1
    clear hb2
    go_wp2
    go_ret
    exact ⟨rfl, hbw⟩

theorem sameArena_eq (v : Value) (a : ArenaD) (u : Value) (b : ArenaD) (w : World) (hv : IsArena w v a) (hu : IsArena w u b) :
    Calls Try.prog 124 #[v, u] w fun e w' => e = .returned (.bool (decide (a = b))) ∧ Below w.heap.size w w' := by
  have h := sameArena_any v a u b w hv hu
  unfold sameP at h
  rwa [← arena_eq] at h

set_option maxHeartbeats 1000000 in
theorem specSameArena_any (v : Value) (a : ArenaD) (u : Value) (b : ArenaD) (w : World) (hv : IsArena w v a) (hu : IsArena w u b) :
    Calls Try.prog 122 #[v, u] w fun e w' => e = .returned (.bool (sameB a b)) ∧ Below w.heap.size w w' := by
  obtain ⟨o, n, o', n', rfl, rfl, hbw, hB, hD, hv, hu⟩ := arena_box2 hv hu

  cases hE0 : arenaOkB a
  · have hres : sameB a b = false := by unfold sameB; rw [arena_eq]; simp [hE0]
    rw [hres]
    clear hres
    go_enter Try.func122, Try.ntmps122
    have hBc0 := hB.c0
    have hBc1 := hB.c1
    have hDc0 := hD.c0
    have hDc1 := hD.c1
    go_wp2_with fail
    refine (specArenaOk_any _ a _ hv).mono ?_
    rintro e w1 ⟨rfl, hb1⟩
    replace hB := hB.below hb1 hB.lt
    clear hBc0
    clear hBc1
    replace hD := hD.below hb1 hD.lt
    clear hDc0
    clear hDc1
    replace hv := hv.kept (Kept.of hb1)
    replace hu := hu.kept (Kept.of hb1)
    replace hbw := Below.up hbw hb1
    have hBc0 := hB.c0
    have hBc1 := hB.c1
    have hDc0 := hD.c0
    have hDc1 := hD.c1
    clear hb1
    go_wp2
    go_ret
    exact ⟨rfl, hbw⟩
  · skip
    cases hE1 : arenaOkB b
    · have hres : sameB a b = false := by unfold sameB; rw [arena_eq]; simp [hE0, hE1]
      rw [hres]
      clear hres
      go_enter Try.func122, Try.ntmps122
      have hBc0 := hB.c0
      have hBc1 := hB.c1
      have hDc0 := hD.c0
      have hDc1 := hD.c1
      go_wp2_with fail
      refine (specArenaOk_any _ a _ hv).mono ?_
      rintro e w1 ⟨rfl, hb1⟩
      replace hB := hB.below hb1 hB.lt
      clear hBc0
      clear hBc1
      replace hD := hD.below hb1 hD.lt
      clear hDc0
      clear hDc1
      replace hv := hv.kept (Kept.of hb1)
      replace hu := hu.kept (Kept.of hb1)
      replace hbw := Below.up hbw hb1
      have hBc0 := hB.c0
      have hBc1 := hB.c1
      have hDc0 := hD.c0
      have hDc1 := hD.c1
      clear hb1
      go_wp2_with fail
      refine (specArenaOk_any _ b _ hu).mono ?_
      rintro e w2 ⟨rfl, hb2⟩
      replace hB := hB.below hb2 hB.lt
      clear hBc0
      clear hBc1
      replace hD := hD.below hb2 hD.lt
      clear hDc0
      clear hDc1
      replace hv := hv.kept (Kept.of hb2)
      replace hu := hu.kept (Kept.of hb2)
      replace hbw := Below.up hbw hb2
      have hBc0 := hB.c0
      have hBc1 := hB.c1
      have hDc0 := hD.c0
      have hDc1 := hD.c1
      clear hb2
      go_wp2
      go_ret
      exact ⟨rfl, hbw⟩
    · skip
      cases hE2 : decide (a.owner = b.owner)
      · have hres : sameB a b = false := by unfold sameB; rw [arena_eq]; simp [hE0, hE1, hE2]
        rw [hres]
        clear hres
        go_enter Try.func122, Try.ntmps122
        have hBc0 := hB.c0
        have hBc1 := hB.c1
        have hDc0 := hD.c0
        have hDc1 := hD.c1
        go_wp2_with fail
        refine (specArenaOk_any _ a _ hv).mono ?_
        rintro e w1 ⟨rfl, hb1⟩
        replace hB := hB.below hb1 hB.lt
        clear hBc0
        clear hBc1
        replace hD := hD.below hb1 hD.lt
        clear hDc0
        clear hDc1
        replace hv := hv.kept (Kept.of hb1)
        replace hu := hu.kept (Kept.of hb1)
        replace hbw := Below.up hbw hb1
        have hBc0 := hB.c0
        have hBc1 := hB.c1
        have hDc0 := hD.c0
        have hDc1 := hD.c1
        clear hb1
        go_wp2_with fail
        refine (specArenaOk_any _ b _ hu).mono ?_
        rintro e w2 ⟨rfl, hb2⟩
        replace hB := hB.below hb2 hB.lt
        clear hBc0
        clear hBc1
        replace hD := hD.below hb2 hD.lt
        clear hDc0
        clear hDc1
        replace hv := hv.kept (Kept.of hb2)
        replace hu := hu.kept (Kept.of hb2)
        replace hbw := Below.up hbw hb2
        have hBc0 := hB.c0
        have hBc1 := hB.c1
        have hDc0 := hD.c0
        have hDc1 := hD.c1
        clear hb2
        go_wp2_with fail
        refine (drew_below (l1Same_any _ _ _ _ _ hv.parts.1 hu.parts.1)).mono ?_
        rintro e w3 ⟨rfl, hb3⟩
        replace hB := hB.below hb3 hB.lt
        clear hBc0
        clear hBc1
        replace hD := hD.below hb3 hD.lt
        clear hDc0
        clear hDc1
        replace hv := hv.kept (Kept.of hb3)
        replace hu := hu.kept (Kept.of hb3)
        replace hbw := Below.up hbw hb3
        have hBc0 := hB.c0
        have hBc1 := hB.c1
        have hDc0 := hD.c0
        have hDc1 := hD.c1
        clear hb3
        go_wp2
        go_ret
        exact ⟨rfl, hbw⟩
      · skip
        have hres : sameB a b = decide (a.next = b.next) := by unfold sameB; rw [arena_eq, hE0, hE1, hE2]; rfl
        have hoka := arenaOkB_iff.1 hE0
        have hokb := arenaOkB_iff.1 hE1
        have hlen : a.next.length = b.next.length := by rw [hoka.len, hokb.len, of_decide_eq_true hE2]
        have Hlen := Lib.hid hlen
        have hl1 : a.next.length ≤ b.next.length := by omega
        have hl2 : b.next.length ≤ a.next.length := by omega
        clear hlen hoka hokb
        rw [hres]
        clear hres
        go_enter Try.func122, Try.ntmps122
        have hBc0 := hB.c0
        have hBc1 := hB.c1
        have hDc0 := hD.c0
        have hDc1 := hD.c1
        go_wp2_with fail
        refine (specArenaOk_any _ a _ hv).mono ?_
        rintro e w1 ⟨rfl, hb1⟩
        replace hB := hB.below hb1 hB.lt
        clear hBc0
        clear hBc1
        replace hD := hD.below hb1 hD.lt
        clear hDc0
        clear hDc1
        replace hv := hv.kept (Kept.of hb1)
        replace hu := hu.kept (Kept.of hb1)
        replace hbw := Below.up hbw hb1
        have hBc0 := hB.c0
        have hBc1 := hB.c1
        have hDc0 := hD.c0
        have hDc1 := hD.c1
        clear hb1
        go_wp2_with fail
        refine (specArenaOk_any _ b _ hu).mono ?_
        rintro e w2 ⟨rfl, hb2⟩
        replace hB := hB.below hb2 hB.lt
        clear hBc0
        clear hBc1
        replace hD := hD.below hb2 hD.lt
        clear hDc0
        clear hDc1
        replace hv := hv.kept (Kept.of hb2)
        replace hu := hu.kept (Kept.of hb2)
        replace hbw := Below.up hbw hb2
        have hBc0 := hB.c0
        have hBc1 := hB.c1
        have hDc0 := hD.c0
        have hDc1 := hD.c1
        clear hb2
        go_wp2_with fail
        refine (drew_below (l1Same_any _ _ _ _ _ hv.parts.1 hu.parts.1)).mono ?_
        rintro e w3 ⟨rfl, hb3⟩
        replace hB := hB.below hb3 hB.lt
        clear hBc0
        clear hBc1
        replace hD := hD.below hb3 hD.lt
        clear hDc0
        clear hDc1
        replace hv := hv.kept (Kept.of hb3)
        replace hu := hu.kept (Kept.of hb3)
        replace hbw := Below.up hbw hb3
        have hBc0 := hB.c0
        have hBc1 := hB.c1
        have hDc0 := hD.c0
        have hDc1 := hD.c1
        clear hb3
        go_wp2
        clear hE0 hE1 hE2
        obtain ⟨ho, hn⟩ := hv.parts
        obtain ⟨ho', hn'⟩ := hu.parts
        obtain ⟨A, c, rfl, hlc, hcm⟩ := hn.form
        obtain ⟨B, d, rfl, hmd, hdm⟩ := hn'.form
        go_loopw [5] (fun i wr => ∃ k q : Nat, k ≤ a.next.length ∧ i = .int .i64 k ∧ wr = w3.drewN q ∧ ∀ j, j < k → rx a.next j = rx b.next j) (fun i _ => a.next.length - (intOf i).toNat)
        case atStart => exact ⟨0, 0, Nat.zero_le _, rfl, rfl, fun j hj => by omega⟩
        case round =>
          obtain ⟨k, q, hk, rfl, rfl, heq⟩ := hrel
          by_cases hlt : k < a.next.length
          · obtain ⟨a1, A1, c1, rfl, h1, hr1⟩ := hn.at_ hlt
            obtain ⟨a2, A2, c2, rfl, h2, hr2⟩ := hn'.at_ (k := k) (by omega)
            have hltb : k < b.next.length := by omega
            have H := Lib.hid (fun W (hW : Kept w3 W) => l1Same_any _ _ _ _ W (hr1.kept hW) (hr2.kept hW))
            by_cases he : rx a.next k = rx b.next k
            · have hd : decide (rx a.next k = rx b.next k) = true := by simpa using he
              have He := Lib.hid he
              clear he
              go_wp2
              go_quiet ((go_at_call 123; first | exact Calls.quiet_of_same (H.out _ (Kept.drewN _ _)) | exact Calls.quiet_of (H.out _ (Kept.drewN _ _)) | exact quiet_add (quiet_same (H.out _ (Kept.drewN _ _))) | exact quiet_add (H.out _ (Kept.drewN _ _))))
              go_wp2
              exact ⟨⟨k + 1, q + nq, by omega, by go_num, by simp, fun j hj => by
                by_cases hjk : j = k
                · rw [hjk]; exact He.out
                · exact heq j (by omega)⟩, by simp [intOf]; omega⟩
            · have hd : decide (rx a.next k = rx b.next k) = false := by simpa using he
              have hlm : decide (a.next = b.next) = false := by rw [decide_eq_false_iff_not]; intro h; exact he (by rw [h])
              have Hlm := Lib.hid hlm
              clear he hlm
              go_wp2
              go_quiet ((go_at_call 123; first | exact Calls.quiet_of_same (H.out _ (Kept.drewN _ _)) | exact Calls.quiet_of (H.out _ (Kept.drewN _ _)) | exact quiet_add (quiet_same (H.out _ (Kept.drewN _ _))) | exact quiet_add (H.out _ (Kept.drewN _ _))))
              go_wp2
              go_ret
              exact ⟨by rw [Hlm.out]; rfl, below_drewN (below_drewN hbw q) nq⟩
          · have hlm : decide (a.next = b.next) = true := by rw [decide_eq_true_eq]; exact rows_ext Hlen.out fun j hj => heq j (by omega)
            have Hd := Lib.hid hlm
            clear hlm
            go_wp2
            go_ret
            exact ⟨by rw [Hd.out]; rfl, below_drewN hbw q⟩
end Go.Proofs.Ytpnophmanpfejaa
