/- The walks of ParityOk, SameParity, TopIn, WithPrio and what they call. No condition. -/
import Derived.Test.YtigjhhcndigncaaParityPlain
import Derived.Test.YtigjhhcndigncaaArenaWalks2
import Derived.Test.YtigjhhcndigncaaSame
import Derived.Test.YtigjhhcndigncaaSetWalks2
import Derived.Test.YtigjhhcndigncaaEqWalks
namespace Go.Proofs.Ytigjhhcndigncaa
set_option linter.unusedSimpArgs false
set_option linter.unusedVariables false
open Go.RowKit

theorem box_parity (w : World) (o n p : Value) : Below w.heap.size w (w.alloc (.cells #[o, n, p] 42)) := (Below.refl _ _).alloc (Nat.le_refl _) _
/-- Behind the first box of a game. -/
theorem parity_box {w : World} {v : Value} {g : ParityD} (hv : IsParity w v g) : ∃ o n p, v = .agg #[o, n, p] ∧ Below w.heap.size w (w.alloc (.cells #[o, n, p] 42)) ∧ Arr (w.alloc (.cells #[o, n, p] 42)) w.heap.size 42 [o, n, p] := by
  obtain ⟨o, n, p, rfl⟩ := hv.open
  exact ⟨o, n, p, rfl, box_parity w o n p, Arr.new _ _ _⟩

set_option maxHeartbeats 1000000 in
theorem ParityOk_any (v : Value) (g : ParityD) (w : World) (hv : IsParity w v g) :
    Calls Try.prog 80 #[v] w fun e w' => e = .returned (.bool (parityOkB g)) ∧ Below w.heap.size w w' := by
  obtain ⟨o, n, p, rfl, hbw, hB⟩ := parity_box hv
  obtain ⟨ha, hp⟩ := hv.parts
  obtain ⟨ho, hn⟩ := ha.parts
  obtain ⟨A, c, rfl, hlc, hcm⟩ := hp.form
  obtain ⟨A', c', rfl, hlc', hcm'⟩ := ho.form
  cases hE : arenaOkB g.arena
  · have hres : parityOkB g = false := by unfold parityOkB; rw [hE]; rfl
    rw [hres]; clear hres
    go_enter Try.func80, Try.ntmps80
    have hBz := hB.lt
    have hBc0 := hB.c0
    have hBc1 := hB.c1
    have hBc2 := hB.c2
    go_wp2_with fail
    refine (ArenaOk_any _ g.arena _ (ha.kept (Kept.of hbw))).mono ?_
    rintro e w1 ⟨rfl, hb1⟩
    clear hBc0 hBc1 hBc2 hBz
    replace hB := hB.below hb1 hB.lt
    replace hbw := Below.up hbw hb1
    have hb1s := hb1.size
    clear hb1
    have hBz := hB.lt
    have hBc0 := hB.c0
    have hBc1 := hB.c1
    have hBc2 := hB.c2
    go_wp2
    go_ret
    exact ⟨rfl, hbw⟩
  · by_cases h3 : g.prio.length = g.arena.owner.length
    · have hd3 : ((g.prio.length : Int) != (g.arena.owner.length : Int)) = false := by simp [h3]
      have hres : parityOkB g = prioOkB g.prio := by unfold parityOkB; rw [hE, decide_eq_true h3]; rfl
      rw [hres]; clear hres
      have H3 := Lib.hid h3
      clear h3
      go_enter Try.func80, Try.ntmps80
      have hBz := hB.lt
      have hBc0 := hB.c0
      have hBc1 := hB.c1
      have hBc2 := hB.c2
      go_wp2_with fail
      refine (ArenaOk_any _ g.arena _ (ha.kept (Kept.of hbw))).mono ?_
      rintro e w1 ⟨rfl, hb1⟩
      clear hBc0 hBc1 hBc2 hBz
      replace hB := hB.below hb1 hB.lt
      replace hbw := Below.up hbw hb1
      have hb1s := hb1.size
      clear hb1
      have hBz := hB.lt
      have hBc0 := hB.c0
      have hBc1 := hB.c1
      have hBc2 := hB.c2
      go_wp2
      clear hd3
      have hp1 := (hp.kept (Kept.of hbw))
      go_loop [22] (fun i => ∃ k : Nat, k ≤ g.prio.length ∧ i = .int .i64 k ∧ ∀ j, j < k → 0 ≤ ix g.prio j ∧ ix g.prio j ≤ 40) (fun i => g.prio.length - (intOf i).toNat)
      case atStart => exact ⟨0, Nat.zero_le _, rfl, fun j hj => by omega⟩
      case round =>
        obtain ⟨k, hk, rfl, hm⟩ := hrel
        by_cases hlt : k < g.prio.length
        · obtain ⟨a1, rfl, hc1⟩ := hp1.at_ hlt
          have hbad : ¬ (0 ≤ ix g.prio k ∧ ix g.prio k ≤ 40) → prioOkB g.prio = false := prioOkB_bad hlt
          by_cases g1 : 0 ≤ ix g.prio k
          · by_cases g2 : ix g.prio k ≤ 40
            · go_wp2
              exact ⟨⟨k + 1, by omega, by go_num, fun j hj => by
                by_cases hjk : j = k
                · rw [hjk]; exact ⟨g1, g2⟩
                · exact hm j (by omega)⟩, by simp [intOf]; omega⟩
            · have Hb := Lib.hid (hbad fun h => g2 h.2)
              clear hbad
              go_wp2
              go_ret
              exact ⟨by rw [Hb.out]; rfl, hbw⟩
          · have Hb := Lib.hid (hbad fun h => g1 h.1)
            clear hbad
            go_wp2
            go_ret
            exact ⟨by rw [Hb.out]; rfl, hbw⟩
        · have ht : prioOkB g.prio = true := prioOkB_iff.2 fun j hj => hm j (by omega)
          have Ht := Lib.hid ht
          clear ht
          go_wp2
          go_ret
          exact ⟨by rw [Ht.out]; rfl, hbw⟩
    · have hd3 : ((g.prio.length : Int) != (g.arena.owner.length : Int)) = true := by simp; omega
      have hres : parityOkB g = false := by unfold parityOkB; rw [decide_eq_false h3]; simp
      rw [hres]; clear hres
      go_enter Try.func80, Try.ntmps80
      have hBz := hB.lt
      have hBc0 := hB.c0
      have hBc1 := hB.c1
      have hBc2 := hB.c2
      go_wp2_with fail
      refine (ArenaOk_any _ g.arena _ (ha.kept (Kept.of hbw))).mono ?_
      rintro e w1 ⟨rfl, hb1⟩
      clear hBc0 hBc1 hBc2 hBz
      replace hB := hB.below hb1 hB.lt
      replace hbw := Below.up hbw hb1
      have hb1s := hb1.size
      clear hb1
      have hBz := hB.lt
      have hBc0 := hB.c0
      have hBc1 := hB.c1
      have hBc2 := hB.c2
      go_wp2
      go_ret
      exact ⟨rfl, hbw⟩

set_option maxHeartbeats 1000000 in
theorem specParityOk_any (v : Value) (g : ParityD) (w : World) (hv : IsParity w v g) :
    Calls Try.prog 79 #[v] w fun e w' => e = .returned (.bool (parityOkB g)) ∧ Below w.heap.size w w' := by
  obtain ⟨o, n, p, rfl, hbw, hB⟩ := parity_box hv
  obtain ⟨ha, hp⟩ := hv.parts
  obtain ⟨ho, hn⟩ := ha.parts
  obtain ⟨A, c, rfl, hlc, hcm⟩ := hp.form
  obtain ⟨A', c', rfl, hlc', hcm'⟩ := ho.form
  cases hE : arenaOkB g.arena
  · have hres : parityOkB g = false := by unfold parityOkB; rw [hE]; rfl
    rw [hres]; clear hres
    go_enter Try.func79, Try.ntmps79
    have hBz := hB.lt
    have hBc0 := hB.c0
    have hBc1 := hB.c1
    have hBc2 := hB.c2
    go_wp2_with fail
    refine (specArenaOk_any _ g.arena _ (ha.kept (Kept.of hbw))).mono ?_
    rintro e w1 ⟨rfl, hb1⟩
    clear hBc0 hBc1 hBc2 hBz
    replace hB := hB.below hb1 hB.lt
    replace hbw := Below.up hbw hb1
    have hb1s := hb1.size
    clear hb1
    have hBz := hB.lt
    have hBc0 := hB.c0
    have hBc1 := hB.c1
    have hBc2 := hB.c2
    go_wp2
    go_ret
    exact ⟨rfl, hbw⟩
  · by_cases h3 : g.prio.length = g.arena.owner.length
    · have hd3 : ((g.prio.length : Int) != (g.arena.owner.length : Int)) = false := by simp [h3]
      have hres : parityOkB g = prioOkB g.prio := by unfold parityOkB; rw [hE, decide_eq_true h3]; rfl
      rw [hres]; clear hres
      have H3 := Lib.hid h3
      clear h3
      go_enter Try.func79, Try.ntmps79
      have hBz := hB.lt
      have hBc0 := hB.c0
      have hBc1 := hB.c1
      have hBc2 := hB.c2
      go_wp2_with fail
      refine (specArenaOk_any _ g.arena _ (ha.kept (Kept.of hbw))).mono ?_
      rintro e w1 ⟨rfl, hb1⟩
      clear hBc0 hBc1 hBc2 hBz
      replace hB := hB.below hb1 hB.lt
      replace hbw := Below.up hbw hb1
      have hb1s := hb1.size
      clear hb1
      have hBz := hB.lt
      have hBc0 := hB.c0
      have hBc1 := hB.c1
      have hBc2 := hB.c2
      go_wp2
      clear hd3
      have hp1 := (hp.kept (Kept.of hbw))
      go_loop [3] (fun i => ∃ k : Nat, k ≤ g.prio.length ∧ i = .int .i64 k ∧ ∀ j, j < k → 0 ≤ ix g.prio j ∧ ix g.prio j ≤ 40) (fun i => g.prio.length - (intOf i).toNat)
      case atStart => exact ⟨0, Nat.zero_le _, rfl, fun j hj => by omega⟩
      case round =>
        obtain ⟨k, hk, rfl, hm⟩ := hrel
        by_cases hlt : k < g.prio.length
        · obtain ⟨a1, rfl, hc1⟩ := hp1.at_ hlt
          by_cases g1 : 0 ≤ ix g.prio k ∧ ix g.prio k ≤ 40
          · have hd : decide (0 ≤ ix g.prio k ∧ ix g.prio k ≤ 40) = true := by simpa using g1
            have G1 := Lib.hid g1
            clear g1
            go_wp2_with (go_at_call 107; refine (l1In_any _ _ _ _).mono ?_; rintro e w' ⟨rfl, hw⟩; subst w')
            exact ⟨⟨k + 1, by omega, by go_num, fun j hj => by
              by_cases hjk : j = k
              · rw [hjk]; exact G1.out
              · exact hm j (by omega)⟩, by simp [intOf]; omega⟩
          · have hd : decide (0 ≤ ix g.prio k ∧ ix g.prio k ≤ 40) = false := by simpa using g1
            have Hb := Lib.hid (prioOkB_bad hlt g1)
            clear g1
            go_wp2_with (go_at_call 107; refine (l1In_any _ _ _ _).mono ?_; rintro e w' ⟨rfl, hw⟩; subst w')
            go_ret
            exact ⟨by rw [Hb.out]; rfl, hbw⟩
        · have ht : prioOkB g.prio = true := prioOkB_iff.2 fun j hj => hm j (by omega)
          have Ht := Lib.hid ht
          clear ht
          go_wp2
          go_ret
          exact ⟨by rw [Ht.out]; rfl, hbw⟩
    · have hd3 : ((g.prio.length : Int) != (g.arena.owner.length : Int)) = true := by simp; omega
      have hres : parityOkB g = false := by unfold parityOkB; rw [decide_eq_false h3]; simp
      rw [hres]; clear hres
      go_enter Try.func79, Try.ntmps79
      have hBz := hB.lt
      have hBc0 := hB.c0
      have hBc1 := hB.c1
      have hBc2 := hB.c2
      go_wp2_with fail
      refine (specArenaOk_any _ g.arena _ (ha.kept (Kept.of hbw))).mono ?_
      rintro e w1 ⟨rfl, hb1⟩
      clear hBc0 hBc1 hBc2 hBz
      replace hB := hB.below hb1 hB.lt
      replace hbw := Below.up hbw hb1
      have hb1s := hb1.size
      clear hb1
      have hBz := hB.lt
      have hBc0 := hB.c0
      have hBc1 := hB.c1
      have hBc2 := hB.c2
      go_wp2
      go_ret
      exact ⟨rfl, hbw⟩

/-- Behind the boxes of two games. -/
theorem parity_box2 {w : World} {v u : Value} {a b : ParityD} (hv : IsParity w v a) (hu : IsParity w u b) : ∃ o n p o' n' p', v = .agg #[o, n, p] ∧ u = .agg #[o', n', p'] ∧
    Below w.heap.size w ((w.alloc (.cells #[o, n, p] 42)).alloc (.cells #[o', n', p'] 42)) ∧ Arr ((w.alloc (.cells #[o, n, p] 42)).alloc (.cells #[o', n', p'] 42)) w.heap.size 42 [o, n, p] ∧
    Arr ((w.alloc (.cells #[o, n, p] 42)).alloc (.cells #[o', n', p'] 42)) (w.heap.size + 1) 42 [o', n', p'] := by
  obtain ⟨o, n, p, rfl⟩ := hv.open
  obtain ⟨o', n', p', rfl⟩ := hu.open
  have hb : Below w.heap.size w ((w.alloc (.cells #[o, n, p] 42)).alloc (.cells #[o', n', p'] 42)) := ((Below.refl _ _).alloc (Nat.le_refl _) _).alloc (by simp) _
  have h2 := Arr.new (w.alloc (.cells #[o, n, p] 42)) 42 [o', n', p']
  exact ⟨o, n, p, o', n', p', rfl, rfl, hb, (Arr.new _ _ _).alloc _, by simpa using h2⟩
theorem parity_eq (a b : ParityD) : decide (a = b) = (decide (a.arena = b.arena) && decide (a.prio = b.prio)) := by
  cases a; cases b; simp

theorem l1Max_any (a b : Int) (w : World) : Calls Try.prog 127 #[.int .i64 a, .int .i64 b] w fun e w' => e = .returned (.int .i64 (max a b)) ∧ w' = w := by
  by_cases h : b < a
  · have hm : max a b = a := by omega
    rw [hm]; clear hm
    go_enter Try.func127, Try.ntmps127
    go_wp2
    go_ret
    exact ⟨rfl, rfl⟩
  · have hm : max a b = b := by omega
    rw [hm]; clear hm
    go_enter Try.func127, Try.ntmps127
    go_wp2
    go_ret
    exact ⟨rfl, rfl⟩

/-- A set of vertices, as places. -/
theorem IsSet.at_ {s : List Int} {n : Nat} (h : IsSet s n) {k : Nat} (hk : k < s.length) : ∃ j : Nat, ix s k = (j : Int) ∧ j < n := by
  obtain ⟨h1, h2, _⟩ := h k hk
  exact ⟨(ix s k).toNat, by omega, by omega⟩

theorem filter_all (l : List Int) (f : Int → Bool) : (l.take l.length).filter f = l.filter f := by rw [List.take_length]
end Go.Proofs.Ytigjhhcndigncaa
