/- The walks of LeastFull, FullIn and what they call. No condition. -/
import Derived.Test.YtogfpalgnjlfcaaPredsWalks
namespace Go.Proofs.Ytogfpalgnjlfcaa
set_option linter.unusedSimpArgs false
set_option linter.unusedVariables false
open Go.RowKit

theorem add_zero' (a : Addr) : a.add 0 = a := by unfold Addr.add; simp
def lfAt (a : ArenaD) (who : Int) (v : Nat) : Int := if ix a.owner v = who then ix (rx a.next v) 0 else -1
def lfTo (a : ArenaD) (who : Int) (k : Nat) : List Int := (List.range k).map fun v => lfAt a who v
@[simp] theorem length_lfTo (a : ArenaD) (who : Int) (k : Nat) : (lfTo a who k).length = k := by simp [lfTo]
theorem ix_lfTo {a : ArenaD} {who : Int} {k j : Nat} (h : j < k) : ix (lfTo a who k) j = lfAt a who j := by simp [ix, lfTo, h]
theorem lfTo_succ (a : ArenaD) (who : Int) (k : Nat) : lfTo a who (k + 1) = lfTo a who k ++ [lfAt a who k] := by simp [lfTo, List.range_succ]
def lfG (a : ArenaD) (who : Int) : List Int := if arenaOkB a && playerB who then lfTo a who a.owner.length else []

/-- Has vertex v a move, if who owns it? -/
def movesB (a : ArenaD) (who : Int) (plan : List Int) (v : Nat) : Bool := !(decide (ix a.owner v = who) && decide (ix plan v < 0))
def movesAll (a : ArenaD) (who : Int) (plan : List Int) : Bool := decide (∀ v, v < plan.length → movesB a who plan v = true)
def fullB (a : ArenaD) (who : Int) (plan : List Int) : Bool := planB a who plan && movesAll a who plan
def fullG (a : ArenaD) (who : Int) (plan : List Int) : Bool := arenaOkB a && (playerB who && fullB a who plan)
theorem movesAll_bad {a : ArenaD} {who : Int} {plan : List Int} {k : Nat} (hk : k < plan.length) (h : movesB a who plan k = false) : movesAll a who plan = false := by
  unfold movesAll
  rw [decide_eq_false_iff_not]
  intro h'
  rw [h' k hk] at h; cases h

set_option maxHeartbeats 1000000 in
theorem isFull_any (v : Value) (a : ArenaD) (who : Int) (u : Value) (plan : List Int) (w : World) (hv : IsArena w v a) (hu : Ints w u plan) (hok : ArenaOk a) :
    Calls Try.prog 43 #[v, .int .i64 who, u] w fun e w' => e = .returned (.bool (fullB a who plan)) ∧ Below w.heap.size w w' := by
  obtain ⟨o, n, rfl, hbw, hB⟩ := arena_open hv
  obtain ⟨ho, hn⟩ := hv.parts
  obtain ⟨A, c, rfl, hlc, hcm⟩ := ho.form
  obtain ⟨A2, c2, rfl, hlc2, hcm2⟩ := hu.form
  cases hE : planB a who plan
  · have hres : fullB a who plan = false := by unfold fullB; rw [hE]; rfl
    rw [hres]; clear hres
    go_enter Try.func43, Try.ntmps43
    have hBz := hB.lt
    have hBc0 := hB.c0
    have hBc1 := hB.c1
    go_wp2_with fail
    refine (isPlan_any _ a who _ plan _ (hv.kept (Kept.of hbw)) (hu.kept (Kept.of hbw)) hok).mono ?_
    rintro e w1 ⟨rfl, hb1⟩
    clear hBc0 hBc1 hBz
    replace hB := hB.below hb1 hB.lt
    replace hbw := Below.up hbw hb1
    have hb1s := hb1.size
    clear hb1
    have hBz := hB.lt
    have hBc0 := hB.c0
    have hBc1 := hB.c1
    go_wp2
    go_ret
    exact ⟨rfl, hbw⟩
  · have hres : fullB a who plan = movesAll a who plan := by unfold fullB; rw [hE]; rfl
    rw [hres]; clear hres
    have hp := planB_iff.1 hE
    have Hpl := Lib.hid hp.len
    clear hp
    go_enter Try.func43, Try.ntmps43
    have hBz := hB.lt
    have hBc0 := hB.c0
    have hBc1 := hB.c1
    go_wp2_with fail
    refine (isPlan_any _ a who _ plan _ (hv.kept (Kept.of hbw)) (hu.kept (Kept.of hbw)) hok).mono ?_
    rintro e w1 ⟨rfl, hb1⟩
    clear hBc0 hBc1 hBz
    replace hB := hB.below hb1 hB.lt
    replace hbw := Below.up hbw hb1
    have hb1s := hb1.size
    clear hb1
    have hBz := hB.lt
    have hBc0 := hB.c0
    have hBc1 := hB.c1
    go_wp2
    have hu1 := (hu.kept (Kept.of hbw))
    have ho1 := (ho.kept (Kept.of hbw))
    go_loop [16] (fun i => ∃ k : Nat, k ≤ plan.length ∧ i = .int .i64 k ∧ ∀ j, j < k → movesB a who plan j = true) (fun i => plan.length - (intOf i).toNat)
    case atStart => exact ⟨0, Nat.zero_le _, rfl, fun j hj => by omega⟩
    case round =>
      obtain ⟨k, hk, rfl, hm⟩ := hrel
      have Hm := Lib.hid hm
      clear hm
      by_cases hlt : k < plan.length
      · have hko : k < a.owner.length := by rw [← Hpl.out]; exact hlt
        obtain ⟨a1, rfl, hc1⟩ := hu1.at_ hlt
        obtain ⟨a2, rfl, hc2⟩ := ho1.at_ hko
        have hko' : (k : Int) < a.owner.length := by omega
        by_cases e : ix a.owner k = who
        · have hd : (ix a.owner k == who) = true := by simpa using e
          by_cases e2 : ix plan k < 0
          · have Hb := Lib.hid (movesAll_bad (a := a) (who := who) hlt (by unfold movesB; simp [e, e2]))
            clear e
            go_wp2
            go_ret
            exact ⟨by rw [Hb.out]; rfl, hbw⟩
          · have Hb := Lib.hid (show movesB a who plan k = true by unfold movesB; simp [e2])
            clear e
            go_wp2
            exact ⟨⟨k + 1, by omega, by go_num, fun j hj => by
              by_cases ej : j = k
              · rw [ej]; exact Hb.out
              · exact Hm.out j (by omega)⟩, by simp [intOf]; omega⟩
        · have hd : (ix a.owner k == who) = false := by simpa using e
          have Hb := Lib.hid (show movesB a who plan k = true by unfold movesB; simp [e])
          clear e
          go_wp2
          exact ⟨⟨k + 1, by omega, by go_num, fun j hj => by
            by_cases ej : j = k
            · rw [ej]; exact Hb.out
            · exact Hm.out j (by omega)⟩, by simp [intOf]; omega⟩
      · have Ht := Lib.hid (show movesAll a who plan = true by unfold movesAll; rw [decide_eq_true_eq]; exact fun j hj => Hm.out j (by omega))
        go_wp2
        go_ret
        exact ⟨by rw [Ht.out]; rfl, hbw⟩

set_option maxHeartbeats 1000000 in
theorem FullIn_any (v : Value) (a : ArenaD) (who : Int) (u : Value) (plan : List Int) (w : World) (hv : IsArena w v a) (hu : Ints w u plan) :
    Calls Try.prog 18 #[v, .int .i64 who, u] w fun e w' => e = .returned (.bool (fullG a who plan)) ∧ Below w.heap.size w w' := by
  obtain ⟨o, n, rfl, hbw, hB⟩ := arena_open hv
  cases hE : arenaOkB a
  · have hres : fullG a who plan = false := by unfold fullG; rw [hE]; rfl
    rw [hres]; clear hres
    go_enter Try.func18, Try.ntmps18
    have hBz := hB.lt
    have hBc0 := hB.c0
    have hBc1 := hB.c1
    go_wp2_with fail
    refine (ArenaOk_any _ a _ (hv.kept (Kept.of hbw))).mono ?_
    rintro e w1 ⟨rfl, hb1⟩
    clear hBc0 hBc1 hBz
    replace hB := hB.below hb1 hB.lt
    replace hbw := Below.up hbw hb1
    have hb1s := hb1.size
    clear hb1
    have hBz := hB.lt
    have hBc0 := hB.c0
    have hBc1 := hB.c1
    go_wp2
    go_ret
    exact ⟨rfl, hbw⟩
  · have hok := arenaOkB_iff.1 hE
    cases hE2 : playerB who
    · have hres : fullG a who plan = false := by unfold fullG; rw [hE, hE2]; rfl
      rw [hres]; clear hres
      go_enter Try.func18, Try.ntmps18
      have hBz := hB.lt
      have hBc0 := hB.c0
      have hBc1 := hB.c1
      go_wp2_with fail
      refine (ArenaOk_any _ a _ (hv.kept (Kept.of hbw))).mono ?_
      rintro e w1 ⟨rfl, hb1⟩
      clear hBc0 hBc1 hBz
      replace hB := hB.below hb1 hB.lt
      replace hbw := Below.up hbw hb1
      have hb1s := hb1.size
      clear hb1
      have hBz := hB.lt
      have hBc0 := hB.c0
      have hBc1 := hB.c1
      go_wp2_with fail
      refine (same_below (isPlayer_any who _)).mono ?_
      rintro e w2 ⟨rfl, hb2⟩
      clear hBc0 hBc1 hBz
      replace hB := hB.below hb2 hB.lt
      replace hbw := Below.up hbw hb2
      have hb2s := hb2.size
      clear hb2
      have hBz := hB.lt
      have hBc0 := hB.c0
      have hBc1 := hB.c1
      go_wp2
      go_ret
      exact ⟨rfl, hbw⟩
    · have hres : fullG a who plan = fullB a who plan := by unfold fullG; rw [hE, hE2]; rfl
      rw [hres]; clear hres
      go_enter Try.func18, Try.ntmps18
      have hBz := hB.lt
      have hBc0 := hB.c0
      have hBc1 := hB.c1
      go_wp2_with fail
      refine (ArenaOk_any _ a _ (hv.kept (Kept.of hbw))).mono ?_
      rintro e w1 ⟨rfl, hb1⟩
      clear hBc0 hBc1 hBz
      replace hB := hB.below hb1 hB.lt
      replace hbw := Below.up hbw hb1
      have hb1s := hb1.size
      clear hb1
      have hBz := hB.lt
      have hBc0 := hB.c0
      have hBc1 := hB.c1
      go_wp2_with fail
      refine (same_below (isPlayer_any who _)).mono ?_
      rintro e w2 ⟨rfl, hb2⟩
      clear hBc0 hBc1 hBz
      replace hB := hB.below hb2 hB.lt
      replace hbw := Below.up hbw hb2
      have hb2s := hb2.size
      clear hb2
      have hBz := hB.lt
      have hBc0 := hB.c0
      have hBc1 := hB.c1
      go_wp2_with fail
      refine (isFull_any _ a who _ plan _ (hv.kept (Kept.of hbw)) (hu.kept (Kept.of hbw)) hok).mono ?_
      rintro e w3 ⟨rfl, hb3⟩
      clear hBc0 hBc1 hBz
      replace hB := hB.below hb3 hB.lt
      replace hbw := Below.up hbw hb3
      have hb3s := hb3.size
      clear hb3
      have hBz := hB.lt
      have hBc0 := hB.c0
      have hBc1 := hB.c1
      go_wp2
      go_ret
      exact ⟨rfl, hbw⟩

set_option maxRecDepth 100000 in
set_option maxHeartbeats 1000000 in
theorem specFullIn_any (v : Value) (a : ArenaD) (who : Int) (u : Value) (plan : List Int) (w : World) (hv : IsArena w v a) (hu : Ints w u plan) :
    Calls Try.prog 80 #[v, .int .i64 who, u] w fun e w' => e = .returned (.bool (fullG a who plan)) ∧ Below w.heap.size w w' := by
  obtain ⟨o, n, rfl, hbw, hB⟩ := arena_open hv
  obtain ⟨ho, hn⟩ := hv.parts
  obtain ⟨A, c, rfl, hlc, hcm⟩ := ho.form
  obtain ⟨A2, c2, rfl, hlc2, hcm2⟩ := hu.form
  have hfg : fullG a who plan = (planOkB a who plan && movesAll a who plan) := by unfold fullG planOkB fullB; rw [Bool.and_assoc, Bool.and_assoc]
  rw [hfg]; clear hfg
  cases hE : planOkB a who plan
  · rw [Bool.false_and]
    go_enter Try.func80, Try.ntmps80
    have hBz := hB.lt
    have hBc0 := hB.c0
    have hBc1 := hB.c1
    go_wp2_with fail
    refine (specPlanOk_any _ a who _ plan _ (hv.kept (Kept.of hbw)) (hu.kept (Kept.of hbw))).mono ?_
    rintro e w1 ⟨rfl, hb1⟩
    clear hBc0 hBc1 hBz
    replace hB := hB.below hb1 hB.lt
    replace hbw := Below.up hbw hb1
    have hb1s := hb1.size
    clear hb1
    have hBz := hB.lt
    have hBc0 := hB.c0
    have hBc1 := hB.c1
    go_wp2
    go_ret
    exact ⟨rfl, hbw⟩
  · rw [Bool.true_and]
    have hp : PlanOk a who plan := by
      unfold planOkB at hE
      simp only [Bool.and_eq_true] at hE
      exact planB_iff.1 hE.2.2
    have Hpl := Lib.hid hp.len
    clear hp
    go_enter Try.func80, Try.ntmps80
    have hBz := hB.lt
    have hBc0 := hB.c0
    have hBc1 := hB.c1
    go_wp2_with fail
    refine (specPlanOk_any _ a who _ plan _ (hv.kept (Kept.of hbw)) (hu.kept (Kept.of hbw))).mono ?_
    rintro e w1 ⟨rfl, hb1⟩
    clear hBc0 hBc1 hBz
    replace hB := hB.below hb1 hB.lt
    replace hbw := Below.up hbw hb1
    have hb1s := hb1.size
    clear hb1
    have hBz := hB.lt
    have hBc0 := hB.c0
    have hBc1 := hB.c1
    go_wp2
    have hu1 := (hu.kept (Kept.of hbw))
    have ho1 := (ho.kept (Kept.of hbw))
    go_loop [7] (fun i => ∃ k : Nat, k ≤ plan.length ∧ i = .int .i64 k ∧ ∀ j, j < k → movesB a who plan j = true) (fun i => plan.length - (intOf i).toNat)
    case atStart => exact ⟨0, Nat.zero_le _, rfl, fun j hj => by omega⟩
    case round =>
      obtain ⟨k, hk, rfl, hm⟩ := hrel
      have Hm := Lib.hid hm
      clear hm
      by_cases hlt : k < plan.length
      · have hko : k < a.owner.length := by rw [← Hpl.out]; exact hlt
        obtain ⟨a1, rfl, hc1⟩ := hu1.at_ hlt
        obtain ⟨a2, rfl, hc2⟩ := ho1.at_ hko
        have hko' : (k : Int) < a.owner.length := by omega
        have hlt' : (k : Int) < plan.length := by omega
        by_cases e : ix a.owner k = who
        · have hd : (ix a.owner k == who) = true := by simpa using e
          by_cases e2 : ix plan k < 0
          · have Hb := Lib.hid (movesAll_bad (a := a) (who := who) hlt (by unfold movesB; simp [e, e2]))
            clear e
            go_wp2
            go_ret
            exact ⟨by rw [Hb.out]; rfl, hbw⟩
          · have Hb := Lib.hid (show movesB a who plan k = true by unfold movesB; simp [e2])
            clear e
            go_wp2
            exact ⟨⟨k + 1, by omega, by go_num, fun j hj => by
              by_cases ej : j = k
              · rw [ej]; exact Hb.out
              · exact Hm.out j (by omega)⟩, by simp [intOf]; omega⟩
        · have hd : (ix a.owner k == who) = false := by simpa using e
          have Hb := Lib.hid (show movesB a who plan k = true by unfold movesB; simp [e])
          clear e
          go_wp2
          exact ⟨⟨k + 1, by omega, by go_num, fun j hj => by
            by_cases ej : j = k
            · rw [ej]; exact Hb.out
            · exact Hm.out j (by omega)⟩, by simp [intOf]; omega⟩
      · have Ht := Lib.hid (show movesAll a who plan = true by unfold movesAll; rw [decide_eq_true_eq]; exact fun j hj => Hm.out j (by omega))
        go_wp2
        go_ret
        exact ⟨by rw [Ht.out]; rfl, hbw⟩
theorem lfG_len (a : ArenaD) (who : Int) : (lfG a who).length ≤ 1048576 := by
  unfold lfG
  split
  · rename_i h
    simp only [Bool.and_eq_true] at h
    have := (arenaOkB_iff.1 h.1).le
    simp; omega
  · simp
end Go.Proofs.Ytogfpalgnjlfcaa
