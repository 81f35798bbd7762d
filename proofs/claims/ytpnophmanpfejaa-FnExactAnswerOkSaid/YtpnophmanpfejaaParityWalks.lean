/- The walks of ParityOk, SameParity, TopIn, WithPrio and what they call. No condition. -/
import Derived.Test.YtpnophmanpfejaaParityPlain
import Derived.Test.YtpnophmanpfejaaArenaWalks2
import Derived.Test.YtpnophmanpfejaaSame
import Derived.Test.YtpnophmanpfejaaSetWalks2
import Derived.Test.YtpnophmanpfejaaEqWalks
namespace Go.Proofs.Ytpnophmanpfejaa
set_option linter.unusedSimpArgs false
set_option linter.unusedVariables false
open Go.RowKit

theorem box_parity (w : World) (o n p : Value) : Below w.heap.size w (w.alloc (.cells #[o, n, p] 32)) := (Below.refl _ _).alloc (Nat.le_refl _) _
/-- Behind the first box of a game. -/
theorem parity_box {w : World} {v : Value} {g : ParityD} (hv : IsParity w v g) : ∃ o n p, v = .agg #[o, n, p] ∧ Below w.heap.size w (w.alloc (.cells #[o, n, p] 32)) ∧ Arr (w.alloc (.cells #[o, n, p] 32)) w.heap.size 32 [o, n, p] := by
  obtain ⟨o, n, p, rfl⟩ := hv.open
  exact ⟨o, n, p, rfl, box_parity w o n p, Arr.new _ _ _⟩

set_option maxHeartbeats 1000000 in
theorem ParityOk_any (v : Value) (g : ParityD) (w : World) (hv : IsParity w v g) :
    Calls Try.prog 74 #[v] w fun e w' => e = .returned (.bool (parityOkB g)) ∧ Below w.heap.size w w' := by
  obtain ⟨o, n, p, rfl, hbw, hB⟩ := parity_box hv
  obtain ⟨ha, hp⟩ := hv.parts
  obtain ⟨ho, hn⟩ := ha.parts
  obtain ⟨A, c, rfl, hlc, hcm⟩ := hp.form
  obtain ⟨A', c', rfl, hlc', hcm'⟩ := ho.form
  cases hE : arenaOkB g.arena
  · have hres : parityOkB g = false := by unfold parityOkB; rw [hE]; rfl
    rw [hres]; clear hres
    go_enter Try.func74, Try.ntmps74
    have hBz := hB.lt
    have hBc0 := hB.c0
    have hBc1 := hB.c1
    have hBc2 := hB.c2
    go_wp2_with fail
    refine (ArenaOk_any _ g.arena _ (ha.kept (Kept.of hbw))).mono ?_
    rintro e w1 ⟨rfl, hb1⟩
    clear hBc0 hBc1 hBc2 hBz
    replace hB := hB.below hb1 hB.lt
    replace hbw := Below.up hbw hb1
    have hb1s := hb1.size
    clear hb1
    have hBz := hB.lt
    have hBc0 := hB.c0
    have hBc1 := hB.c1
    have hBc2 := hB.c2
    go_wp2
    go_ret
    exact ⟨rfl, hbw⟩
  · by_cases h3 : g.prio.length = g.arena.owner.length
    · have hd3 : ((g.prio.length : Int) != (g.arena.owner.length : Int)) = false := by simp [h3]
      have hres : parityOkB g = prioOkB g.prio := by unfold parityOkB; rw [hE, decide_eq_true h3]; rfl
      rw [hres]; clear hres
      have H3 := Lib.hid h3
      clear h3
      go_enter Try.func74, Try.ntmps74
      have hBz := hB.lt
      have hBc0 := hB.c0
      have hBc1 := hB.c1
      have hBc2 := hB.c2
      go_wp2_with fail
      refine (ArenaOk_any _ g.arena _ (ha.kept (Kept.of hbw))).mono ?_
      rintro e w1 ⟨rfl, hb1⟩
      clear hBc0 hBc1 hBc2 hBz
      replace hB := hB.below hb1 hB.lt
      replace hbw := Below.up hbw hb1
      have hb1s := hb1.size
      clear hb1
      have hBz := hB.lt
      have hBc0 := hB.c0
      have hBc1 := hB.c1
      have hBc2 := hB.c2
      go_wp2
      clear hd3
      have hp1 := (hp.kept (Kept.of hbw))
      go_loop [22] (fun i => ∃ k : Nat, k ≤ g.prio.length ∧ i = .int .i64 k ∧ ∀ j, j < k → 0 ≤ ix g.prio j ∧ ix g.prio j ≤ 40) (fun i => g.prio.length - (intOf i).toNat)
      case atStart => exact ⟨0, Nat.zero_le _, rfl, fun j hj => by omega⟩
      case round =>
        obtain ⟨k, hk, rfl, hm⟩ := hrel
        by_cases hlt : k < g.prio.length
        · obtain ⟨a1, rfl, hc1⟩ := hp1.at_ hlt
          have hbad : ¬ (0 ≤ ix g.prio k ∧ ix g.prio k ≤ 40) → prioOkB g.prio = false := prioOkB_bad hlt
          by_cases g1 : 0 ≤ ix g.prio k
          · by_cases g2 : ix g.prio k ≤ 40
            · go_wp2
              exact ⟨⟨k + 1, by omega, by go_num, fun j hj => by
                by_cases hjk : j = k
                · rw [hjk]; exact ⟨g1, g2⟩
                · exact hm j (by omega)⟩, by simp [intOf]; omega⟩
            · have Hb := Lib.hid (hbad fun h => g2 h.2)
              clear hbad
              go_wp2
              go_ret
              exact ⟨by rw [Hb.out]; rfl, hbw⟩
          · have Hb := Lib.hid (hbad fun h => g1 h.1)
            clear hbad
            go_wp2
            go_ret
            exact ⟨by rw [Hb.out]; rfl, hbw⟩
        · have ht : prioOkB g.prio = true := prioOkB_iff.2 fun j hj => hm j (by omega)
          have Ht := Lib.hid ht
          clear ht
          go_wp2
          go_ret
          exact ⟨by rw [Ht.out]; rfl, hbw⟩
    · have hd3 : ((g.prio.length : Int) != (g.arena.owner.length : Int)) = true := by simp; omega
      have hres : parityOkB g = false := by unfold parityOkB; rw [decide_eq_false h3]; simp
      rw [hres]; clear hres
      go_enter Try.func74, Try.ntmps74
      have hBz := hB.lt
      have hBc0 := hB.c0
      have hBc1 := hB.c1
      have hBc2 := hB.c2
      go_wp2_with fail
      refine (ArenaOk_any _ g.arena _ (ha.kept (Kept.of hbw))).mono ?_
      rintro e w1 ⟨rfl, hb1⟩
      clear hBc0 hBc1 hBc2 hBz
      replace hB := hB.below hb1 hB.lt
      replace hbw := Below.up hbw hb1
      have hb1s := hb1.size
      clear hb1
      have hBz := hB.lt
      have hBc0 := hB.c0
      have hBc1 := hB.c1
      have hBc2 := hB.c2
      go_wp2
      go_ret
      exact ⟨rfl, hbw⟩

set_option maxHeartbeats 1000000 in
theorem specParityOk_any (v : Value) (g : ParityD) (w : World) (hv : IsParity w v g) :
    Calls Try.prog 65 #[v] w fun e w' => e = .returned (.bool (parityOkB g)) ∧ Below w.heap.size w w' := by
  obtain ⟨o, n, p, rfl, hbw, hB⟩ := parity_box hv
  obtain ⟨ha, hp⟩ := hv.parts
  obtain ⟨ho, hn⟩ := ha.parts
  obtain ⟨A, c, rfl, hlc, hcm⟩ := hp.form
  obtain ⟨A', c', rfl, hlc', hcm'⟩ := ho.form
  cases hE : arenaOkB g.arena
  · have hres : parityOkB g = false := by unfold parityOkB; rw [hE]; rfl
    rw [hres]; clear hres
    go_enter Try.func65, Try.ntmps65
    have hBz := hB.lt
    have hBc0 := hB.c0
    have hBc1 := hB.c1
    have hBc2 := hB.c2
    go_wp2_with fail
    refine (specArenaOk_any _ g.arena _ (ha.kept (Kept.of hbw))).mono ?_
    rintro e w1 ⟨rfl, hb1⟩
    clear hBc0 hBc1 hBc2 hBz
    replace hB := hB.below hb1 hB.lt
    replace hbw := Below.up hbw hb1
    have hb1s := hb1.size
    clear hb1
    have hBz := hB.lt
    have hBc0 := hB.c0
    have hBc1 := hB.c1
    have hBc2 := hB.c2
    go_wp2
    go_ret
    exact ⟨rfl, hbw⟩
  · by_cases h3 : g.prio.length = g.arena.owner.length
    · have hd3 : ((g.prio.length : Int) != (g.arena.owner.length : Int)) = false := by simp [h3]
      have hres : parityOkB g = prioOkB g.prio := by unfold parityOkB; rw [hE, decide_eq_true h3]; rfl
      rw [hres]; clear hres
      have H3 := Lib.hid h3
      clear h3
      go_enter Try.func65, Try.ntmps65
      have hBz := hB.lt
      have hBc0 := hB.c0
      have hBc1 := hB.c1
      have hBc2 := hB.c2
      go_wp2_with fail
      refine (specArenaOk_any _ g.arena _ (ha.kept (Kept.of hbw))).mono ?_
      rintro e w1 ⟨rfl, hb1⟩
      clear hBc0 hBc1 hBc2 hBz
      replace hB := hB.below hb1 hB.lt
      replace hbw := Below.up hbw hb1
      have hb1s := hb1.size
      clear hb1
      have hBz := hB.lt
      have hBc0 := hB.c0
      have hBc1 := hB.c1
      have hBc2 := hB.c2
      go_wp2
      clear hd3
      have hp1 := (hp.kept (Kept.of hbw))
      go_loop [3] (fun i => ∃ k : Nat, k ≤ g.prio.length ∧ i = .int .i64 k ∧ ∀ j, j < k → 0 ≤ ix g.prio j ∧ ix g.prio j ≤ 40) (fun i => g.prio.length - (intOf i).toNat)
      case atStart => exact ⟨0, Nat.zero_le _, rfl, fun j hj => by omega⟩
      case round =>
        obtain ⟨k, hk, rfl, hm⟩ := hrel
        by_cases hlt : k < g.prio.length
        · obtain ⟨a1, rfl, hc1⟩ := hp1.at_ hlt
          by_cases g1 : 0 ≤ ix g.prio k ∧ ix g.prio k ≤ 40
          · have hd : decide (0 ≤ ix g.prio k ∧ ix g.prio k ≤ 40) = true := by simpa using g1
            have G1 := Lib.hid g1
            clear g1
            go_wp2_with (go_at_call 110; refine (l1In_any _ _ _ _).mono ?_; rintro e w' ⟨rfl, hw⟩; subst w')
            exact ⟨⟨k + 1, by omega, by go_num, fun j hj => by
              by_cases hjk : j = k
              · rw [hjk]; exact G1.out
              · exact hm j (by omega)⟩, by simp [intOf]; omega⟩
          · have hd : decide (0 ≤ ix g.prio k ∧ ix g.prio k ≤ 40) = false := by simpa using g1
            have Hb := Lib.hid (prioOkB_bad hlt g1)
            clear g1
            go_wp2_with (go_at_call 110; refine (l1In_any _ _ _ _).mono ?_; rintro e w' ⟨rfl, hw⟩; subst w')
            go_ret
            exact ⟨by rw [Hb.out]; rfl, hbw⟩
        · have ht : prioOkB g.prio = true := prioOkB_iff.2 fun j hj => hm j (by omega)
          have Ht := Lib.hid ht
          clear ht
          go_wp2
          go_ret
          exact ⟨by rw [Ht.out]; rfl, hbw⟩
    · have hd3 : ((g.prio.length : Int) != (g.arena.owner.length : Int)) = true := by simp; omega
      have hres : parityOkB g = false := by unfold parityOkB; rw [decide_eq_false h3]; simp
      rw [hres]; clear hres
      go_enter Try.func65, Try.ntmps65
      have hBz := hB.lt
      have hBc0 := hB.c0
      have hBc1 := hB.c1
      have hBc2 := hB.c2
      go_wp2_with fail
      refine (specArenaOk_any _ g.arena _ (ha.kept (Kept.of hbw))).mono ?_
      rintro e w1 ⟨rfl, hb1⟩
      clear hBc0 hBc1 hBc2 hBz
      replace hB := hB.below hb1 hB.lt
      replace hbw := Below.up hbw hb1
      have hb1s := hb1.size
      clear hb1
      have hBz := hB.lt
      have hBc0 := hB.c0
      have hBc1 := hB.c1
      have hBc2 := hB.c2
      go_wp2
      go_ret
      exact ⟨rfl, hbw⟩

/-- Behind the boxes of two games. -/
theorem parity_box2 {w : World} {v u : Value} {a b : ParityD} (hv : IsParity w v a) (hu : IsParity w u b) : ∃ o n p o' n' p', v = .agg #[o, n, p] ∧ u = .agg #[o', n', p'] ∧
    Below w.heap.size w ((w.alloc (.cells #[o, n, p] 32)).alloc (.cells #[o', n', p'] 32)) ∧ Arr ((w.alloc (.cells #[o, n, p] 32)).alloc (.cells #[o', n', p'] 32)) w.heap.size 32 [o, n, p] ∧
    Arr ((w.alloc (.cells #[o, n, p] 32)).alloc (.cells #[o', n', p'] 32)) (w.heap.size + 1) 32 [o', n', p'] := by
  obtain ⟨o, n, p, rfl⟩ := hv.open
  obtain ⟨o', n', p', rfl⟩ := hu.open
  have hb : Below w.heap.size w ((w.alloc (.cells #[o, n, p] 32)).alloc (.cells #[o', n', p'] 32)) := ((Below.refl _ _).alloc (Nat.le_refl _) _).alloc (by simp) _
  have h2 := Arr.new (w.alloc (.cells #[o, n, p] 32)) 32 [o', n', p']
  exact ⟨o, n, p, o', n', p', rfl, rfl, hb, (Arr.new _ _ _).alloc _, by simpa using h2⟩
theorem parity_eq (a b : ParityD) : decide (a = b) = (decide (a.arena = b.arena) && decide (a.prio = b.prio)) := by
  cases a; cases b; simp

set_option maxHeartbeats 1000000 in
theorem SameParity_any (v : Value) (a : ParityD) (u : Value) (b : ParityD) (w : World) (hv : IsParity w v a) (hu : IsParity w u b) :
    Calls Try.prog 67 #[v, u] w fun e w' => e = .returned (.bool (sameParityB a b)) ∧ Below w.heap.size w w' := by
  obtain ⟨o, n, p, o', n', p', rfl, rfl, hbw, hB, hD⟩ := parity_box2 hv hu
  obtain ⟨ha, hp⟩ := hv.parts
  obtain ⟨ha', hp'⟩ := hu.parts
  cases hE : parityOkB a
  · have hres : sameParityB a b = false := by unfold sameParityB; rw [hE]; rfl
    rw [hres]; clear hres
    go_enter Try.func67, Try.ntmps67
    have hBz := hB.lt
    have hBc0 := hB.c0
    have hBc1 := hB.c1
    have hBc2 := hB.c2
    have hDz := hD.lt
    have hDc0 := hD.c0
    have hDc1 := hD.c1
    have hDc2 := hD.c2
    go_wp2_with fail
    refine (ParityOk_any _ a _ (hv.kept (Kept.of hbw))).mono ?_
    rintro e w1 ⟨rfl, hb1⟩
    clear hBc0 hBc1 hBc2 hDc0 hDc1 hDc2 hBz hDz
    replace hB := hB.below hb1 hB.lt
    replace hD := hD.below hb1 hD.lt
    replace hbw := Below.up hbw hb1
    have hb1s := hb1.size
    clear hb1
    have hBz := hB.lt
    have hBc0 := hB.c0
    have hBc1 := hB.c1
    have hBc2 := hB.c2
    have hDz := hD.lt
    have hDc0 := hD.c0
    have hDc1 := hD.c1
    have hDc2 := hD.c2
    go_wp2
    go_ret
    exact ⟨rfl, hbw⟩
  · cases hE2 : parityOkB b
    · have hres : sameParityB a b = false := by unfold sameParityB; rw [hE, hE2]; rfl
      rw [hres]; clear hres
      go_enter Try.func67, Try.ntmps67
      have hBz := hB.lt
      have hBc0 := hB.c0
      have hBc1 := hB.c1
      have hBc2 := hB.c2
      have hDz := hD.lt
      have hDc0 := hD.c0
      have hDc1 := hD.c1
      have hDc2 := hD.c2
      go_wp2_with fail
      refine (ParityOk_any _ a _ (hv.kept (Kept.of hbw))).mono ?_
      rintro e w1 ⟨rfl, hb1⟩
      clear hBc0 hBc1 hBc2 hDc0 hDc1 hDc2 hBz hDz
      replace hB := hB.below hb1 hB.lt
      replace hD := hD.below hb1 hD.lt
      replace hbw := Below.up hbw hb1
      have hb1s := hb1.size
      clear hb1
      have hBz := hB.lt
      have hBc0 := hB.c0
      have hBc1 := hB.c1
      have hBc2 := hB.c2
      have hDz := hD.lt
      have hDc0 := hD.c0
      have hDc1 := hD.c1
      have hDc2 := hD.c2
      go_wp2_with fail
      refine (ParityOk_any _ b _ (hu.kept (Kept.of hbw))).mono ?_
      rintro e w2 ⟨rfl, hb2⟩
      clear hBc0 hBc1 hBc2 hDc0 hDc1 hDc2 hBz hDz
      replace hB := hB.below hb2 hB.lt
      replace hD := hD.below hb2 hD.lt
      replace hbw := Below.up hbw hb2
      have hb2s := hb2.size
      clear hb2
      have hBz := hB.lt
      have hBc0 := hB.c0
      have hBc1 := hB.c1
      have hBc2 := hB.c2
      have hDz := hD.lt
      have hDc0 := hD.c0
      have hDc1 := hD.c1
      have hDc2 := hD.c2
      go_wp2
      go_ret
      exact ⟨rfl, hbw⟩
    · cases hE3 : decide (a.arena = b.arena)
      · have hres : sameParityB a b = false := by unfold sameParityB; rw [hE, hE2, parity_eq, hE3]; rfl
        rw [hres]; clear hres
        go_enter Try.func67, Try.ntmps67
        have hBz := hB.lt
        have hBc0 := hB.c0
        have hBc1 := hB.c1
        have hBc2 := hB.c2
        have hDz := hD.lt
        have hDc0 := hD.c0
        have hDc1 := hD.c1
        have hDc2 := hD.c2
        go_wp2_with fail
        refine (ParityOk_any _ a _ (hv.kept (Kept.of hbw))).mono ?_
        rintro e w1 ⟨rfl, hb1⟩
        clear hBc0 hBc1 hBc2 hDc0 hDc1 hDc2 hBz hDz
        replace hB := hB.below hb1 hB.lt
        replace hD := hD.below hb1 hD.lt
        replace hbw := Below.up hbw hb1
        have hb1s := hb1.size
        clear hb1
        have hBz := hB.lt
        have hBc0 := hB.c0
        have hBc1 := hB.c1
        have hBc2 := hB.c2
        have hDz := hD.lt
        have hDc0 := hD.c0
        have hDc1 := hD.c1
        have hDc2 := hD.c2
        go_wp2_with fail
        refine (ParityOk_any _ b _ (hu.kept (Kept.of hbw))).mono ?_
        rintro e w2 ⟨rfl, hb2⟩
        clear hBc0 hBc1 hBc2 hDc0 hDc1 hDc2 hBz hDz
        replace hB := hB.below hb2 hB.lt
        replace hD := hD.below hb2 hD.lt
        replace hbw := Below.up hbw hb2
        have hb2s := hb2.size
        clear hb2
        have hBz := hB.lt
        have hBc0 := hB.c0
        have hBc1 := hB.c1
        have hBc2 := hB.c2
        have hDz := hD.lt
        have hDc0 := hD.c0
        have hDc1 := hD.c1
        have hDc2 := hD.c2
        go_wp2_with fail
        refine (sameArena_eq _ a.arena _ b.arena _ (ha.kept (Kept.of hbw)) (ha'.kept (Kept.of hbw))).mono ?_
        rintro e w3 ⟨rfl, hb3⟩
        clear hBc0 hBc1 hBc2 hDc0 hDc1 hDc2 hBz hDz
        replace hB := hB.below hb3 hB.lt
        replace hD := hD.below hb3 hD.lt
        replace hbw := Below.up hbw hb3
        have hb3s := hb3.size
        clear hb3
        have hBz := hB.lt
        have hBc0 := hB.c0
        have hBc1 := hB.c1
        have hBc2 := hB.c2
        have hDz := hD.lt
        have hDc0 := hD.c0
        have hDc1 := hD.c1
        have hDc2 := hD.c2
        go_wp2
        go_ret
        exact ⟨rfl, hbw⟩
      · have hres : sameParityB a b = decide (a.prio = b.prio) := by unfold sameParityB; rw [hE, hE2, parity_eq, hE3]; rfl
        rw [hres]; clear hres
        go_enter Try.func67, Try.ntmps67
        have hBz := hB.lt
        have hBc0 := hB.c0
        have hBc1 := hB.c1
        have hBc2 := hB.c2
        have hDz := hD.lt
        have hDc0 := hD.c0
        have hDc1 := hD.c1
        have hDc2 := hD.c2
        go_wp2_with fail
        refine (ParityOk_any _ a _ (hv.kept (Kept.of hbw))).mono ?_
        rintro e w1 ⟨rfl, hb1⟩
        clear hBc0 hBc1 hBc2 hDc0 hDc1 hDc2 hBz hDz
        replace hB := hB.below hb1 hB.lt
        replace hD := hD.below hb1 hD.lt
        replace hbw := Below.up hbw hb1
        have hb1s := hb1.size
        clear hb1
        have hBz := hB.lt
        have hBc0 := hB.c0
        have hBc1 := hB.c1
        have hBc2 := hB.c2
        have hDz := hD.lt
        have hDc0 := hD.c0
        have hDc1 := hD.c1
        have hDc2 := hD.c2
        go_wp2_with fail
        refine (ParityOk_any _ b _ (hu.kept (Kept.of hbw))).mono ?_
        rintro e w2 ⟨rfl, hb2⟩
        clear hBc0 hBc1 hBc2 hDc0 hDc1 hDc2 hBz hDz
        replace hB := hB.below hb2 hB.lt
        replace hD := hD.below hb2 hD.lt
        replace hbw := Below.up hbw hb2
        have hb2s := hb2.size
        clear hb2
        have hBz := hB.lt
        have hBc0 := hB.c0
        have hBc1 := hB.c1
        have hBc2 := hB.c2
        have hDz := hD.lt
        have hDc0 := hD.c0
        have hDc1 := hD.c1
        have hDc2 := hD.c2
        go_wp2_with fail
        refine (sameArena_eq _ a.arena _ b.arena _ (ha.kept (Kept.of hbw)) (ha'.kept (Kept.of hbw))).mono ?_
        rintro e w3 ⟨rfl, hb3⟩
        clear hBc0 hBc1 hBc2 hDc0 hDc1 hDc2 hBz hDz
        replace hB := hB.below hb3 hB.lt
        replace hD := hD.below hb3 hD.lt
        replace hbw := Below.up hbw hb3
        have hb3s := hb3.size
        clear hb3
        have hBz := hB.lt
        have hBc0 := hB.c0
        have hBc1 := hB.c1
        have hBc2 := hB.c2
        have hDz := hD.lt
        have hDc0 := hD.c0
        have hDc1 := hD.c1
        have hDc2 := hD.c2
        go_wp2_with fail
        refine (drew_below (Equal_any _ _ a.prio b.prio _ (hp.kept (Kept.of hbw)) (hp'.kept (Kept.of hbw)))).mono ?_
        rintro e w4 ⟨rfl, hb4⟩
        clear hBc0 hBc1 hBc2 hDc0 hDc1 hDc2 hBz hDz
        replace hB := hB.below hb4 hB.lt
        replace hD := hD.below hb4 hD.lt
        replace hbw := Below.up hbw hb4
        have hb4s := hb4.size
        clear hb4
        have hBz := hB.lt
        have hBc0 := hB.c0
        have hBc1 := hB.c1
        have hBc2 := hB.c2
        have hDz := hD.lt
        have hDc0 := hD.c0
        have hDc1 := hD.c1
        have hDc2 := hD.c2
        go_wp2
        go_ret
        exact ⟨rfl, hbw⟩

set_option maxHeartbeats 1000000 in
theorem specSameParity_any (v : Value) (a : ParityD) (u : Value) (b : ParityD) (w : World) (hv : IsParity w v a) (hu : IsParity w u b) :
    Calls Try.prog 66 #[v, u] w fun e w' => e = .returned (.bool (sameParityB a b)) ∧ Below w.heap.size w w' := by
  obtain ⟨o, n, p, o', n', p', rfl, rfl, hbw, hB, hD⟩ := parity_box2 hv hu
  obtain ⟨ha, hp⟩ := hv.parts
  obtain ⟨ha', hp'⟩ := hu.parts
  cases hE : parityOkB a
  · have hres : sameParityB a b = false := by unfold sameParityB; rw [hE]; rfl
    rw [hres]; clear hres
    go_enter Try.func66, Try.ntmps66
    have hBz := hB.lt
    have hBc0 := hB.c0
    have hBc1 := hB.c1
    have hBc2 := hB.c2
    have hDz := hD.lt
    have hDc0 := hD.c0
    have hDc1 := hD.c1
    have hDc2 := hD.c2
    go_wp2_with fail
    refine (specParityOk_any _ a _ (hv.kept (Kept.of hbw))).mono ?_
    rintro e w1 ⟨rfl, hb1⟩
    clear hBc0 hBc1 hBc2 hDc0 hDc1 hDc2 hBz hDz
    replace hB := hB.below hb1 hB.lt
    replace hD := hD.below hb1 hD.lt
    replace hbw := Below.up hbw hb1
    have hb1s := hb1.size
    clear hb1
    have hBz := hB.lt
    have hBc0 := hB.c0
    have hBc1 := hB.c1
    have hBc2 := hB.c2
    have hDz := hD.lt
    have hDc0 := hD.c0
    have hDc1 := hD.c1
    have hDc2 := hD.c2
    go_wp2
    go_ret
    exact ⟨rfl, hbw⟩
  · cases hE2 : parityOkB b
    · have hres : sameParityB a b = false := by unfold sameParityB; rw [hE, hE2]; rfl
      rw [hres]; clear hres
      go_enter Try.func66, Try.ntmps66
      have hBz := hB.lt
      have hBc0 := hB.c0
      have hBc1 := hB.c1
      have hBc2 := hB.c2
      have hDz := hD.lt
      have hDc0 := hD.c0
      have hDc1 := hD.c1
      have hDc2 := hD.c2
      go_wp2_with fail
      refine (specParityOk_any _ a _ (hv.kept (Kept.of hbw))).mono ?_
      rintro e w1 ⟨rfl, hb1⟩
      clear hBc0 hBc1 hBc2 hDc0 hDc1 hDc2 hBz hDz
      replace hB := hB.below hb1 hB.lt
      replace hD := hD.below hb1 hD.lt
      replace hbw := Below.up hbw hb1
      have hb1s := hb1.size
      clear hb1
      have hBz := hB.lt
      have hBc0 := hB.c0
      have hBc1 := hB.c1
      have hBc2 := hB.c2
      have hDz := hD.lt
      have hDc0 := hD.c0
      have hDc1 := hD.c1
      have hDc2 := hD.c2
      go_wp2_with fail
      refine (specParityOk_any _ b _ (hu.kept (Kept.of hbw))).mono ?_
      rintro e w2 ⟨rfl, hb2⟩
      clear hBc0 hBc1 hBc2 hDc0 hDc1 hDc2 hBz hDz
      replace hB := hB.below hb2 hB.lt
      replace hD := hD.below hb2 hD.lt
      replace hbw := Below.up hbw hb2
      have hb2s := hb2.size
      clear hb2
      have hBz := hB.lt
      have hBc0 := hB.c0
      have hBc1 := hB.c1
      have hBc2 := hB.c2
      have hDz := hD.lt
      have hDc0 := hD.c0
      have hDc1 := hD.c1
      have hDc2 := hD.c2
      go_wp2
      go_ret
      exact ⟨rfl, hbw⟩
    · have hs : sameB a.arena b.arena = decide (a.arena = b.arena) := by
        unfold sameB; rw [arenaOkB_iff.2 (parityOkB_iff.1 hE).arena, arenaOkB_iff.2 (parityOkB_iff.1 hE2).arena]; rfl
      cases hE3 : decide (a.arena = b.arena)
      · have hres : sameParityB a b = false := by unfold sameParityB; rw [hE, hE2, parity_eq, hE3]; rfl
        rw [hres]; clear hres
        rw [hE3] at hs
        go_enter Try.func66, Try.ntmps66
        have hBz := hB.lt
        have hBc0 := hB.c0
        have hBc1 := hB.c1
        have hBc2 := hB.c2
        have hDz := hD.lt
        have hDc0 := hD.c0
        have hDc1 := hD.c1
        have hDc2 := hD.c2
        go_wp2_with fail
        refine (specParityOk_any _ a _ (hv.kept (Kept.of hbw))).mono ?_
        rintro e w1 ⟨rfl, hb1⟩
        clear hBc0 hBc1 hBc2 hDc0 hDc1 hDc2 hBz hDz
        replace hB := hB.below hb1 hB.lt
        replace hD := hD.below hb1 hD.lt
        replace hbw := Below.up hbw hb1
        have hb1s := hb1.size
        clear hb1
        have hBz := hB.lt
        have hBc0 := hB.c0
        have hBc1 := hB.c1
        have hBc2 := hB.c2
        have hDz := hD.lt
        have hDc0 := hD.c0
        have hDc1 := hD.c1
        have hDc2 := hD.c2
        go_wp2_with fail
        refine (specParityOk_any _ b _ (hu.kept (Kept.of hbw))).mono ?_
        rintro e w2 ⟨rfl, hb2⟩
        clear hBc0 hBc1 hBc2 hDc0 hDc1 hDc2 hBz hDz
        replace hB := hB.below hb2 hB.lt
        replace hD := hD.below hb2 hD.lt
        replace hbw := Below.up hbw hb2
        have hb2s := hb2.size
        clear hb2
        have hBz := hB.lt
        have hBc0 := hB.c0
        have hBc1 := hB.c1
        have hBc2 := hB.c2
        have hDz := hD.lt
        have hDc0 := hD.c0
        have hDc1 := hD.c1
        have hDc2 := hD.c2
        go_wp2_with fail
        refine (specSameArena_any _ a.arena _ b.arena _ (ha.kept (Kept.of hbw)) (ha'.kept (Kept.of hbw))).mono ?_
        rintro e w3 ⟨rfl, hb3⟩
        clear hBc0 hBc1 hBc2 hDc0 hDc1 hDc2 hBz hDz
        replace hB := hB.below hb3 hB.lt
        replace hD := hD.below hb3 hD.lt
        replace hbw := Below.up hbw hb3
        have hb3s := hb3.size
        clear hb3
        have hBz := hB.lt
        have hBc0 := hB.c0
        have hBc1 := hB.c1
        have hBc2 := hB.c2
        have hDz := hD.lt
        have hDc0 := hD.c0
        have hDc1 := hD.c1
        have hDc2 := hD.c2
        go_wp2
        go_ret
        exact ⟨rfl, hbw⟩
      · have hres : sameParityB a b = decide (a.prio = b.prio) := by unfold sameParityB; rw [hE, hE2, parity_eq, hE3]; rfl
        rw [hres]; clear hres
        rw [hE3] at hs
        go_enter Try.func66, Try.ntmps66
        have hBz := hB.lt
        have hBc0 := hB.c0
        have hBc1 := hB.c1
        have hBc2 := hB.c2
        have hDz := hD.lt
        have hDc0 := hD.c0
        have hDc1 := hD.c1
        have hDc2 := hD.c2
        go_wp2_with fail
        refine (specParityOk_any _ a _ (hv.kept (Kept.of hbw))).mono ?_
        rintro e w1 ⟨rfl, hb1⟩
        clear hBc0 hBc1 hBc2 hDc0 hDc1 hDc2 hBz hDz
        replace hB := hB.below hb1 hB.lt
        replace hD := hD.below hb1 hD.lt
        replace hbw := Below.up hbw hb1
        have hb1s := hb1.size
        clear hb1
        have hBz := hB.lt
        have hBc0 := hB.c0
        have hBc1 := hB.c1
        have hBc2 := hB.c2
        have hDz := hD.lt
        have hDc0 := hD.c0
        have hDc1 := hD.c1
        have hDc2 := hD.c2
        go_wp2_with fail
        refine (specParityOk_any _ b _ (hu.kept (Kept.of hbw))).mono ?_
        rintro e w2 ⟨rfl, hb2⟩
        clear hBc0 hBc1 hBc2 hDc0 hDc1 hDc2 hBz hDz
        replace hB := hB.below hb2 hB.lt
        replace hD := hD.below hb2 hD.lt
        replace hbw := Below.up hbw hb2
        have hb2s := hb2.size
        clear hb2
        have hBz := hB.lt
        have hBc0 := hB.c0
        have hBc1 := hB.c1
        have hBc2 := hB.c2
        have hDz := hD.lt
        have hDc0 := hD.c0
        have hDc1 := hD.c1
        have hDc2 := hD.c2
        go_wp2_with fail
        refine (specSameArena_any _ a.arena _ b.arena _ (ha.kept (Kept.of hbw)) (ha'.kept (Kept.of hbw))).mono ?_
        rintro e w3 ⟨rfl, hb3⟩
        clear hBc0 hBc1 hBc2 hDc0 hDc1 hDc2 hBz hDz
        replace hB := hB.below hb3 hB.lt
        replace hD := hD.below hb3 hD.lt
        replace hbw := Below.up hbw hb3
        have hb3s := hb3.size
        clear hb3
        have hBz := hB.lt
        have hBc0 := hB.c0
        have hBc1 := hB.c1
        have hBc2 := hB.c2
        have hDz := hD.lt
        have hDc0 := hD.c0
        have hDc1 := hD.c1
        have hDc2 := hD.c2
        go_wp2_with fail
        refine (drew_below (l1Same_any _ _ a.prio b.prio _ (hp.kept (Kept.of hbw)) (hp'.kept (Kept.of hbw)))).mono ?_
        rintro e w4 ⟨rfl, hb4⟩
        clear hBc0 hBc1 hBc2 hDc0 hDc1 hDc2 hBz hDz
        replace hB := hB.below hb4 hB.lt
        replace hD := hD.below hb4 hD.lt
        replace hbw := Below.up hbw hb4
        have hb4s := hb4.size
        clear hb4
        have hBz := hB.lt
        have hBc0 := hB.c0
        have hBc1 := hB.c1
        have hBc2 := hB.c2
        have hDz := hD.lt
        have hDc0 := hD.c0
        have hDc1 := hD.c1
        have hDc2 := hD.c2
        go_wp2
        go_ret
        exact ⟨rfl, hbw⟩

theorem l1Max_any (a b : Int) (w : World) : Calls Try.prog 132 #[.int .i64 a, .int .i64 b] w fun e w' => e = .returned (.int .i64 (max a b)) ∧ w' = w := by
  by_cases h : b < a
  · have hm : max a b = a := by omega
    rw [hm]; clear hm
    go_enter Try.func132, Try.ntmps132
    go_wp2
    go_ret
    exact ⟨rfl, rfl⟩
  · have hm : max a b = b := by omega
    rw [hm]; clear hm
    go_enter Try.func132, Try.ntmps132
    go_wp2
    go_ret
    exact ⟨rfl, rfl⟩

/-- A set of vertices, as places. -/
theorem IsSet.at_ {s : List Int} {n : Nat} (h : IsSet s n) {k : Nat} (hk : k < s.length) : ∃ j : Nat, ix s k = (j : Int) ∧ j < n := by
  obtain ⟨h1, h2, _⟩ := h k hk
  exact ⟨(ix s k).toNat, by omega, by omega⟩

set_option maxHeartbeats 1000000 in
theorem l4Top_any (v : Value) (g : ParityD) (u : Value) (l : List Int) (w : World) (hv : IsParity w v g) (hu : Ints w u l) (hr : ∀ k, k < l.length → ∃ j : Nat, ix l k = (j : Int) ∧ j < g.prio.length) :
    Calls Try.prog 78 #[v, u] w fun e w' => e = .returned (.int .i64 (topL g.prio l)) ∧ Below w.heap.size w w' := by
  obtain ⟨o, n, p, rfl, hbw, hB⟩ := parity_box hv
  obtain ⟨ha, hp⟩ := hv.parts
  obtain ⟨A, c, rfl, hlc, hcm⟩ := hp.form
  obtain ⟨A', c', rfl, hlc', hcm'⟩ := hu.form
  have hB2 := hB.c2
  have hp1 := (hp.kept (Kept.of hbw))
  have hu1 := (hu.kept (Kept.of hbw))
  have hall := topTo_all g.prio l
  have Hall := Lib.hid hall
  clear hall
  go_enter Try.func78, Try.ntmps78
  go_wp2
  generalize w.alloc (.cells #[o, n, .slice A g.prio.length c] 32) = w0 at *
  go_loopw [5, 6] (fun t i wr => ∃ k q : Nat, k ≤ l.length ∧ i = .int .i64 k ∧ t = .int .i64 (topTo g.prio l k) ∧ wr = w0.drewN q) (fun _ i _ => l.length - (intOf i).toNat)
  case atStart => exact ⟨0, 0, Nat.zero_le _, rfl, rfl, rfl⟩
  case round =>
    obtain ⟨k, q, hk, rfl, rfl, rfl⟩ := hrel
    by_cases hlt : k < l.length
    · obtain ⟨a1, rfl, hc1⟩ := hu1.at_ hlt
      obtain ⟨j, hj, hjl⟩ := hr k hlt
      obtain ⟨a2, rfl, hc2⟩ := hp1.at_ hjl
      have Hs := Lib.hid (topTo_succ (p := g.prio) hlt)
      rw [hj] at hc1
      have Hj := Lib.hid hj
      clear hj
      have hjl' : (j : Int) < g.prio.length := by omega
      go_wp2
      go_quiet ((go_at_call 132; first | exact Calls.quiet_of_same (l1Max_any _ _ _) | exact Calls.quiet_of (l1Max_any _ _ _) | exact quiet_add (quiet_same (l1Max_any _ _ _)) | exact quiet_add (l1Max_any _ _ _)))
      go_wp2
      exact ⟨⟨k + 1, q + nq, by omega, by go_num, by rw [Hs.out, Hj.out, Int.toNat_natCast], by simp⟩, by simp [intOf]; omega⟩
    · obtain rfl : k = l.length := by omega
      go_wp2
      go_ret
      exact ⟨by rw [← Hall.out]; rfl, below_drewN hbw q⟩

theorem l4Set_any (v : Value) (g : ParityD) (u : Value) (l : List Int) (w : World) (hv : IsParity w v g) (hu : Ints w u l) :
    Calls Try.prog 72 #[v, u] w fun e w' => e = .returned (.bool (isSetB l g.prio.length)) ∧ Below w.heap.size w w' := by
  obtain ⟨o, n, p, rfl, hbw, hB⟩ := parity_box hv
  obtain ⟨ha, hp⟩ := hv.parts
  obtain ⟨A, c, rfl, hlc, hcm⟩ := hp.form
  go_enter Try.func72, Try.ntmps72
  have hBz := hB.lt
  have hBc0 := hB.c0
  have hBc1 := hB.c1
  have hBc2 := hB.c2
  go_wp2_with fail
  refine (drew_below (l1Set_any _ l _ _ (hu.kept (Kept.of hbw)) (by omega) (by omega))).mono ?_
  rintro e w1 ⟨rfl, hb1⟩
  clear hBc0 hBc1 hBc2 hBz
  replace hB := hB.below hb1 hB.lt
  replace hbw := Below.up hbw hb1
  have hb1s := hb1.size
  clear hb1
  have hBz := hB.lt
  have hBc0 := hB.c0
  have hBc1 := hB.c1
  have hBc2 := hB.c2
  go_wp2
  go_ret
  exact ⟨rfl, hbw⟩

theorem filter_all (l : List Int) (f : Int → Bool) : (l.take l.length).filter f = l.filter f := by rw [List.take_length]
end Go.Proofs.Ytpnophmanpfejaa
