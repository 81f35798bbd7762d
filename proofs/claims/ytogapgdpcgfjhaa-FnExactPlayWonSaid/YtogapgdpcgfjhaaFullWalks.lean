/- The walks of LeastFull, FullIn and what they call. No condition. -/
import Derived.Test.YtogapgdpcgfjhaaPredsWalks
namespace Go.Proofs.Ytogapgdpcgfjhaa
set_option linter.unusedSimpArgs false
set_option linter.unusedVariables false
open Go.RowKit

theorem add_zero' (a : Addr) : a.add 0 = a := by unfold Addr.add; simp
def lfAt (a : ArenaD) (who : Int) (v : Nat) : Int := if ix a.owner v = who then ix (rx a.next v) 0 else -1
def lfTo (a : ArenaD) (who : Int) (k : Nat) : List Int := (List.range k).map fun v => lfAt a who v
@[simp] theorem length_lfTo (a : ArenaD) (who : Int) (k : Nat) : (lfTo a who k).length = k := by simp [lfTo]
theorem ix_lfTo {a : ArenaD} {who : Int} {k j : Nat} (h : j < k) : ix (lfTo a who k) j = lfAt a who j := by simp [ix, lfTo, h]
theorem lfTo_succ (a : ArenaD) (who : Int) (k : Nat) : lfTo a who (k + 1) = lfTo a who k ++ [lfAt a who k] := by simp [lfTo, List.range_succ]
def lfG (a : ArenaD) (who : Int) : List Int := if arenaOkB a && playerB who then lfTo a who a.owner.length else []

set_option maxRecDepth 100000 in
set_option maxHeartbeats 1000000 in
theorem LeastFull_any (v : Value) (a : ArenaD) (who : Int) (w : World) (hv : IsArena w v a) :
    Calls Try.prog 34 #[v, .int .i64 who] w (RetInts w (lfG a who)) := by
  obtain ⟨o, n, rfl, hbw, hB⟩ := arena_open hv
  obtain ⟨ho, hn⟩ := hv.parts
  obtain ⟨A, c, rfl, hlc, hcm⟩ := ho.form
  obtain ⟨A', c', rfl, hlc', hcm'⟩ := hn.form
  cases hE : arenaOkB a
  · have hres : lfG a who = [] := by unfold lfG; rw [hE]; rfl
    rw [hres]; clear hres
    go_enter Try.func34, Try.ntmps34
    have hBz := hB.lt
    have hBc0 := hB.c0
    have hBc1 := hB.c1
    go_wp2_with fail
    refine (ArenaOk_any _ a _ (hv.kept (Kept.of hbw))).mono ?_
    rintro e w1 ⟨rfl, hb1⟩
    clear hBc0 hBc1 hBz
    replace hB := hB.below hb1 hB.lt
    replace hbw := Below.up hbw hb1
    have hb1s := hb1.size
    clear hb1
    have hBz := hB.lt
    have hBc0 := hB.c0
    have hBc1 := hB.c1
    go_wp2
    go_ret
    exact .mk' (OwnInts.nil _ _) hbw
  · have hok := arenaOkB_iff.1 hE
    cases hE2 : playerB who
    · have hres : lfG a who = [] := by unfold lfG; rw [hE, hE2]; rfl
      rw [hres]; clear hres
      go_enter Try.func34, Try.ntmps34
      have hBz := hB.lt
      have hBc0 := hB.c0
      have hBc1 := hB.c1
      go_wp2_with fail
      refine (ArenaOk_any _ a _ (hv.kept (Kept.of hbw))).mono ?_
      rintro e w1 ⟨rfl, hb1⟩
      clear hBc0 hBc1 hBz
      replace hB := hB.below hb1 hB.lt
      replace hbw := Below.up hbw hb1
      have hb1s := hb1.size
      clear hb1
      have hBz := hB.lt
      have hBc0 := hB.c0
      have hBc1 := hB.c1
      go_wp2_with fail
      refine (same_below (isPlayer_any who _)).mono ?_
      rintro e w2 ⟨rfl, hb2⟩
      clear hBc0 hBc1 hBz
      replace hB := hB.below hb2 hB.lt
      replace hbw := Below.up hbw hb2
      have hb2s := hb2.size
      clear hb2
      have hBz := hB.lt
      have hBc0 := hB.c0
      have hBc1 := hB.c1
      go_wp2
      go_ret
      exact .mk' (OwnInts.nil _ _) hbw
    · have hres : lfG a who = lfTo a who a.owner.length := by unfold lfG; rw [hE, hE2]; rfl
      rw [hres]; clear hres
      have hle := hok.le
      have Hlen := Lib.hid hok.len
      have hll1 : a.next.length ≤ a.owner.length := by rw [Hlen.out]; omega
      have hll2 : a.owner.length ≤ a.next.length := by rw [Hlen.out]; omega
      go_enter Try.func34, Try.ntmps34
      have hBz := hB.lt
      have hBc0 := hB.c0
      have hBc1 := hB.c1
      go_wp2_with fail
      refine (ArenaOk_any _ a _ (hv.kept (Kept.of hbw))).mono ?_
      rintro e w1 ⟨rfl, hb1⟩
      clear hBc0 hBc1 hBz
      replace hB := hB.below hb1 hB.lt
      replace hbw := Below.up hbw hb1
      have hb1s := hb1.size
      clear hb1
      have hBz := hB.lt
      have hBc0 := hB.c0
      have hBc1 := hB.c1
      go_wp2_with fail
      refine (same_below (isPlayer_any who _)).mono ?_
      rintro e w2 ⟨rfl, hb2⟩
      clear hBc0 hBc1 hBz
      replace hB := hB.below hb2 hB.lt
      replace hbw := Below.up hbw hb2
      have hb2s := hb2.size
      clear hb2
      have hBz := hB.lt
      have hBc0 := hB.c0
      have hBc1 := hB.c1
      go_wp2_with fail
      refine (noPlan_any _ a _ (hv.kept (Kept.of hbw)) (by omega)).mono ?_
      rintro e w3 ⟨g, rfl, hg0, hM, hb3⟩
      have hB2 := hB
      have hbw2 := hbw
      have hw2 := hbw.size
      clear hBc0 hBc1 hBz
      replace hB := hB.below hb3 hB.lt
      replace hbw := Below.up hbw hb3
      have hb3s := hb3.size
      have hBz := hB.lt
      have hBc0 := hB.c0
      have hBc1 := hB.c1
      go_wp2
      clear hBc0 hBc1 hBz
      have hbg : Below w2.heap.size w2 w3 := hb3
      clear hb3
      go_loopw [21] (fun i wr => ∃ (k : Nat) (l : List Int), k ≤ a.next.length ∧ i = .int .i64 k ∧ IArr wr g l ∧ l.length = a.owner.length ∧ (∀ j, j < a.owner.length → ix l j = if j < k then lfAt a who j else -1) ∧ Below w2.heap.size w2 wr) (fun i _ => a.next.length - (intOf i).toNat)
      case atStart => exact ⟨0, _, Nat.zero_le _, rfl, hM, by simp, fun j hj => by rw [ix_noneL hj, if_neg (by omega)], hbg⟩
      case round =>
        obtain ⟨k, l, hk, rfl, hM, hl, hm, hbr⟩ := hrel
        have Hl := Lib.hid hl
        have Hm := Lib.hid hm
        clear hl hm
        replace hB := hB2.below hbr hB2.lt
        replace hbw := Below.up hbw2 hbr
        have hBz := hB.lt
        have hBc0 := hB.c0
        have hBc1 := hB.c1
        by_cases hlt : k < a.next.length
        · have hko : k < a.owner.length := by omega
          obtain ⟨a2, R, r, rfl, hc2, hrow⟩ := ((hn.kept (Kept.of hbw))).at_ hlt
          obtain ⟨a3, rfl, hc3⟩ := ((ho.kept (Kept.of hbw))).at_ hko
          obtain ⟨R', r', he, hrl, hrm⟩ := hrow.form
          simp only [Value.slice.injEq, true_and] at he
          obtain ⟨rfl, rfl⟩ := he
          have hdeg := (hok.deg hko).1
          obtain ⟨a4, rfl, hc4⟩ := hrow.at_ (k := 0) (by omega)
          rw [add_zero'] at hc4
          have hc5 := hM.cell (k := k) (by rw [Hl.out]; exact hko)
          have hf5 := hM.frozen k
          have hset := hM.set_ k (ix (rx a.next k) 0)
          have hko' : (k : Int) < a.owner.length := by omega
          have hdeg' : (0 : Int) < (rx a.next k).length := by omega
          have hdeg2 : 0 < (rx a.next k).length := by omega
          by_cases e : ix a.owner k = who
          · have hd : (ix a.owner k == who) = true := by simpa using e
            have E := Lib.hid e
            clear e
            go_wp2
            refine ⟨⟨k + 1, _, by omega, by go_num, hset, by simpa using Hl.out, fun j hj => ?_, hbr.setCell hg0 _⟩, by simp [intOf]; omega⟩
            rw [ix_set (by rw [Hl.out]; exact hko), Hm.out j hj]
            by_cases ej : j = k
            · subst ej; rw [if_pos rfl, if_pos (by omega)]; unfold lfAt; rw [if_pos E.out]
            · rw [if_neg ej]
              by_cases ek : j < k
              · rw [if_pos ek, if_pos (by omega)]
              · rw [if_neg ek, if_neg (by omega)]
          · have hd : (ix a.owner k == who) = false := by simpa using e
            have E := Lib.hid e
            clear e
            go_wp2
            refine ⟨⟨k + 1, _, by omega, by go_num, hM, Hl.out, fun j hj => ?_, hbr⟩, by simp [intOf]; omega⟩
            rw [Hm.out j hj]
            by_cases ej : j = k
            · subst ej; rw [if_neg (by omega), if_pos (by omega)]; unfold lfAt; rw [if_neg E.out]
            · by_cases ek : j < k
              · rw [if_pos ek, if_pos (by omega)]
              · rw [if_neg ek, if_neg (by omega)]
        · obtain rfl : k = a.next.length := by omega
          have hll : l = lfTo a who a.owner.length := int_range_ext (by simpa using Hl.out) fun j hj => by
            rw [length_lfTo] at hj
            rw [ix_lfTo hj, Hm.out j hj, if_pos (by omega)]
          subst hll
          have hown := hM.own (B := w.heap.size) (by omega) (by simp; omega)
          rw [length_lfTo] at hown
          go_wp2
          go_ret
          exact .mk' hown hbw

set_option maxRecDepth 100000 in
set_option maxHeartbeats 1000000 in
theorem specLeastFull_any (v : Value) (a : ArenaD) (who : Int) (w : World) (hv : IsArena w v a) :
    Calls Try.prog 32 #[v, .int .i64 who] w (RetInts w (lfG a who)) := by
  obtain ⟨o, n, rfl, hbw, hB⟩ := arena_open hv
  obtain ⟨ho, hn⟩ := hv.parts
  obtain ⟨A, c, rfl, hlc, hcm⟩ := ho.form
  obtain ⟨A', c', rfl, hlc', hcm'⟩ := hn.form
  have hsz := Lib.hid (show (w.alloc (.cells #[.slice A a.owner.length c, .slice A' a.next.length c'] 30)).heap.size = w.heap.size + 1 by simp)
  obtain ⟨hown, hbn⟩ := new_ints (w.alloc (.cells #[.slice A a.owner.length c, .slice A' a.next.length c'] 30))
  rw [hsz.out] at hown hbn
  have hB0 := hB.alloc (.cells #[] 2)
  have hbw0 : Below w.heap.size w _ := hbw.trans (hbn.mono (by omega))
  clear hB hbw hbn
  have hB := hB0
  have hbw := hbw0
  clear hB0 hbw0
  replace hown := OI.of hown
  cases hE : arenaOkB a
  · have hres : lfG a who = [] := by unfold lfG; rw [hE]; rfl
    rw [hres]; clear hres
    go_enter Try.func32, Try.ntmps32
    have hBz := hB.lt
    have hBc0 := hB.c0
    have hBc1 := hB.c1
    go_wp2_with fail
    refine (specArenaOk_any _ a _ (hv.kept (Kept.of hbw))).mono ?_
    rintro e w1 ⟨rfl, hb1⟩
    clear hBc0 hBc1 hBz
    replace hB := hB.below hb1 hB.lt
    replace hown := hown.below hb1
    replace hbw := Below.up hbw hb1
    have hb1s := hb1.size
    clear hb1
    have hBz := hB.lt
    have hBc0 := hB.c0
    have hBc1 := hB.c1
    go_wp2
    go_ret
    exact .mk' (hown.1.more (by omega)) hbw
  · have hok := arenaOkB_iff.1 hE
    cases hE2 : playerB who
    · have hres : lfG a who = [] := by unfold lfG; rw [hE, hE2]; rfl
      rw [hres]; clear hres
      go_enter Try.func32, Try.ntmps32
      have hBz := hB.lt
      have hBc0 := hB.c0
      have hBc1 := hB.c1
      go_wp2_with fail
      refine (specArenaOk_any _ a _ (hv.kept (Kept.of hbw))).mono ?_
      rintro e w1 ⟨rfl, hb1⟩
      clear hBc0 hBc1 hBz
      replace hB := hB.below hb1 hB.lt
      replace hown := hown.below hb1
      replace hbw := Below.up hbw hb1
      have hb1s := hb1.size
      clear hb1
      have hBz := hB.lt
      have hBc0 := hB.c0
      have hBc1 := hB.c1
      go_wp2_with fail
      refine (same_below (l1In_player who _)).mono ?_
      rintro e w2 ⟨rfl, hb2⟩
      clear hBc0 hBc1 hBz
      replace hB := hB.below hb2 hB.lt
      replace hown := hown.below hb2
      replace hbw := Below.up hbw hb2
      have hb2s := hb2.size
      clear hb2
      have hBz := hB.lt
      have hBc0 := hB.c0
      have hBc1 := hB.c1
      go_wp2
      go_ret
      exact .mk' (hown.1.more (by omega)) hbw
    · have hres : lfG a who = lfTo a who a.owner.length := by unfold lfG; rw [hE, hE2]; rfl
      rw [hres]; clear hres
      have hle := hok.le
      have Hlen := Lib.hid hok.len
      go_enter Try.func32, Try.ntmps32
      have hBz := hB.lt
      have hBc0 := hB.c0
      have hBc1 := hB.c1
      go_wp2_with fail
      refine (specArenaOk_any _ a _ (hv.kept (Kept.of hbw))).mono ?_
      rintro e w1 ⟨rfl, hb1⟩
      clear hBc0 hBc1 hBz
      replace hB := hB.below hb1 hB.lt
      replace hown := hown.below hb1
      replace hbw := Below.up hbw hb1
      have hb1s := hb1.size
      clear hb1
      have hBz := hB.lt
      have hBc0 := hB.c0
      have hBc1 := hB.c1
      go_wp2_with fail
      refine (same_below (l1In_player who _)).mono ?_
      rintro e w2 ⟨rfl, hb2⟩
      clear hBc0 hBc1 hBz
      replace hB := hB.below hb2 hB.lt
      replace hown := hown.below hb2
      replace hbw := Below.up hbw hb2
      have hb2s := hb2.size
      clear hb2
      have hBz := hB.lt
      have hBc0 := hB.c0
      have hBc1 := hB.c1
      have hown1 := hown.1
      clear hown
      go_wp2
      go_loopw [5, 6] (fun v i wr => ∃ k : Nat, k ≤ a.owner.length ∧ i = .int .i64 k ∧ OwnInts wr (w.heap.size + 1) v (lfTo a who k) ∧ Below (w.heap.size + 1) w2 wr) (fun _ i _ => a.owner.length - (intOf i).toNat)
      case atStart => exact ⟨0, Nat.zero_le _, rfl, hown1, Below.refl _ _⟩
      case round =>
        obtain ⟨k, hk, rfl, hown, hbr⟩ := hrel
        have hbs := hbr.size
        have hbs2 : w.heap.size + 1 ≤ wr.heap.size := by have := hB.lt; omega
        clear hBc0 hBc1 hBz
        replace hB := hB.below hbr (Nat.lt_succ_self _)
        replace hbw : Below w.heap.size w wr := hbw.trans (hbr.mono (by omega))
        have hBz := hB.lt
        have hBc0 := hB.c0
        have hBc1 := hB.c1
        by_cases hlt : k < a.owner.length
        · have hkn : k < a.next.length := by rw [Hlen.out]; exact hlt
          obtain ⟨a2, R, r, rfl, hc2, hrow⟩ := ((hn.kept (Kept.of hbw))).at_ hkn
          obtain ⟨a3, rfl, hc3⟩ := ((ho.kept (Kept.of hbw))).at_ hlt
          obtain ⟨R', r', he, hrl, hrm⟩ := hrow.form
          simp only [Value.slice.injEq, true_and] at he
          obtain ⟨rfl, rfl⟩ := he
          have hdeg := (hok.deg hlt).1
          obtain ⟨a4, rfl, hc4⟩ := hrow.at_ (k := 0) (by omega)
          rw [add_zero'] at hc4
          have hlen : (lfTo a who k).length ≤ 1048576 := by simp; omega
          have Hs := Lib.hid (lfTo_succ a who k)
          have hlt' : (k : Int) < a.owner.length := by omega
          have hkn' : (k : Int) < a.next.length := by omega
          have hdeg' : (0 : Int) < (rx a.next k).length := by omega
          have hdeg2 : 0 < (rx a.next k).length := by omega
          by_cases e : ix a.owner k = who
          · have hd : (ix a.owner k == who) = true := by simpa using e
            have E := Lib.hid (show lfAt a who k = ix (rx a.next k) 0 by unfold lfAt; rw [if_pos e])
            clear e
            go_wp2_with (at_builtin; refine append_int _ rfl (.tmp 31) (.tmp 39) rfl (w.heap.size + 1) u5 _ rfl hown (ix (rx a.next k) 0) rfl (by omega) hbs2 ?_; intro v1 w3 ho1 hb1 hg1 hl1)
            exact ⟨⟨k + 1, by omega, by go_num, by rw [Hs.out, E.out]; exact ho1, hbr.trans hb1⟩, by simp [intOf]; omega⟩
          · have hd : (ix a.owner k == who) = false := by simpa using e
            have E := Lib.hid (show lfAt a who k = -1 by unfold lfAt; rw [if_neg e])
            clear e
            go_wp2_with (at_builtin; refine append_int _ rfl (.tmp 41) (.tmp 42) rfl (w.heap.size + 1) u5 _ rfl hown (-1) rfl (by omega) hbs2 ?_; intro v1 w3 ho1 hb1 hg1 hl1)
            exact ⟨⟨k + 1, by omega, by go_num, by rw [Hs.out, E.out]; exact ho1, hbr.trans hb1⟩, by simp [intOf]; omega⟩
        · obtain rfl : k = a.owner.length := by omega
          go_wp2
          go_ret
          exact .mk' (hown.more (by omega)) hbw

/-- Has vertex v a move, if who owns it? -/
def movesB (a : ArenaD) (who : Int) (plan : List Int) (v : Nat) : Bool := !(decide (ix a.owner v = who) && decide (ix plan v < 0))
def movesAll (a : ArenaD) (who : Int) (plan : List Int) : Bool := decide (∀ v, v < plan.length → movesB a who plan v = true)
def fullB (a : ArenaD) (who : Int) (plan : List Int) : Bool := planB a who plan && movesAll a who plan
def fullG (a : ArenaD) (who : Int) (plan : List Int) : Bool := arenaOkB a && (playerB who && fullB a who plan)
theorem movesAll_bad {a : ArenaD} {who : Int} {plan : List Int} {k : Nat} (hk : k < plan.length) (h : movesB a who plan k = false) : movesAll a who plan = false := by
  unfold movesAll
  rw [decide_eq_false_iff_not]
  intro h'
  rw [h' k hk] at h; cases h

set_option maxHeartbeats 1000000 in
theorem isFull_any (v : Value) (a : ArenaD) (who : Int) (u : Value) (plan : List Int) (w : World) (hv : IsArena w v a) (hu : Ints w u plan) (hok : ArenaOk a) :
    Calls Try.prog 77 #[v, .int .i64 who, u] w fun e w' => e = .returned (.bool (fullB a who plan)) ∧ Below w.heap.size w w' := by
  obtain ⟨o, n, rfl, hbw, hB⟩ := arena_open hv
  obtain ⟨ho, hn⟩ := hv.parts
  obtain ⟨A, c, rfl, hlc, hcm⟩ := ho.form
  obtain ⟨A2, c2, rfl, hlc2, hcm2⟩ := hu.form
  cases hE : planB a who plan
  · have hres : fullB a who plan = false := by unfold fullB; rw [hE]; rfl
    rw [hres]; clear hres
    go_enter Try.func77, Try.ntmps77
    have hBz := hB.lt
    have hBc0 := hB.c0
    have hBc1 := hB.c1
    go_wp2_with fail
    refine (isPlan_any _ a who _ plan _ (hv.kept (Kept.of hbw)) (hu.kept (Kept.of hbw)) hok).mono ?_
    rintro e w1 ⟨rfl, hb1⟩
    clear hBc0 hBc1 hBz
    replace hB := hB.below hb1 hB.lt
    replace hbw := Below.up hbw hb1
    have hb1s := hb1.size
    clear hb1
    have hBz := hB.lt
    have hBc0 := hB.c0
    have hBc1 := hB.c1
    go_wp2
    go_ret
    exact ⟨rfl, hbw⟩
  · have hres : fullB a who plan = movesAll a who plan := by unfold fullB; rw [hE]; rfl
    rw [hres]; clear hres
    have hp := planB_iff.1 hE
    have Hpl := Lib.hid hp.len
    clear hp
    go_enter Try.func77, Try.ntmps77
    have hBz := hB.lt
    have hBc0 := hB.c0
    have hBc1 := hB.c1
    go_wp2_with fail
    refine (isPlan_any _ a who _ plan _ (hv.kept (Kept.of hbw)) (hu.kept (Kept.of hbw)) hok).mono ?_
    rintro e w1 ⟨rfl, hb1⟩
    clear hBc0 hBc1 hBz
    replace hB := hB.below hb1 hB.lt
    replace hbw := Below.up hbw hb1
    have hb1s := hb1.size
    clear hb1
    have hBz := hB.lt
    have hBc0 := hB.c0
    have hBc1 := hB.c1
    go_wp2
    have hu1 := (hu.kept (Kept.of hbw))
    have ho1 := (ho.kept (Kept.of hbw))
    go_loop [16] (fun i => ∃ k : Nat, k ≤ plan.length ∧ i = .int .i64 k ∧ ∀ j, j < k → movesB a who plan j = true) (fun i => plan.length - (intOf i).toNat)
    case atStart => exact ⟨0, Nat.zero_le _, rfl, fun j hj => by omega⟩
    case round =>
      obtain ⟨k, hk, rfl, hm⟩ := hrel
      have Hm := Lib.hid hm
      clear hm
      by_cases hlt : k < plan.length
      · have hko : k < a.owner.length := by rw [← Hpl.out]; exact hlt
        obtain ⟨a1, rfl, hc1⟩ := hu1.at_ hlt
        obtain ⟨a2, rfl, hc2⟩ := ho1.at_ hko
        have hko' : (k : Int) < a.owner.length := by omega
        by_cases e : ix a.owner k = who
        · have hd : (ix a.owner k == who) = true := by simpa using e
          by_cases e2 : ix plan k < 0
          · have Hb := Lib.hid (movesAll_bad (a := a) (who := who) hlt (by unfold movesB; simp [e, e2]))
            clear e
            go_wp2
            go_ret
            exact ⟨by rw [Hb.out]; rfl, hbw⟩
          · have Hb := Lib.hid (show movesB a who plan k = true by unfold movesB; simp [e2])
            clear e
            go_wp2
            exact ⟨⟨k + 1, by omega, by go_num, fun j hj => by
              by_cases ej : j = k
              · rw [ej]; exact Hb.out
              · exact Hm.out j (by omega)⟩, by simp [intOf]; omega⟩
        · have hd : (ix a.owner k == who) = false := by simpa using e
          have Hb := Lib.hid (show movesB a who plan k = true by unfold movesB; simp [e])
          clear e
          go_wp2
          exact ⟨⟨k + 1, by omega, by go_num, fun j hj => by
            by_cases ej : j = k
            · rw [ej]; exact Hb.out
            · exact Hm.out j (by omega)⟩, by simp [intOf]; omega⟩
      · have Ht := Lib.hid (show movesAll a who plan = true by unfold movesAll; rw [decide_eq_true_eq]; exact fun j hj => Hm.out j (by omega))
        go_wp2
        go_ret
        exact ⟨by rw [Ht.out]; rfl, hbw⟩

set_option maxHeartbeats 1000000 in
theorem FullIn_any (v : Value) (a : ArenaD) (who : Int) (u : Value) (plan : List Int) (w : World) (hv : IsArena w v a) (hu : Ints w u plan) :
    Calls Try.prog 38 #[v, .int .i64 who, u] w fun e w' => e = .returned (.bool (fullG a who plan)) ∧ Below w.heap.size w w' := by
  obtain ⟨o, n, rfl, hbw, hB⟩ := arena_open hv
  cases hE : arenaOkB a
  · have hres : fullG a who plan = false := by unfold fullG; rw [hE]; rfl
    rw [hres]; clear hres
    go_enter Try.func38, Try.ntmps38
    have hBz := hB.lt
    have hBc0 := hB.c0
    have hBc1 := hB.c1
    go_wp2_with fail
    refine (ArenaOk_any _ a _ (hv.kept (Kept.of hbw))).mono ?_
    rintro e w1 ⟨rfl, hb1⟩
    clear hBc0 hBc1 hBz
    replace hB := hB.below hb1 hB.lt
    replace hbw := Below.up hbw hb1
    have hb1s := hb1.size
    clear hb1
    have hBz := hB.lt
    have hBc0 := hB.c0
    have hBc1 := hB.c1
    go_wp2
    go_ret
    exact ⟨rfl, hbw⟩
  · have hok := arenaOkB_iff.1 hE
    cases hE2 : playerB who
    · have hres : fullG a who plan = false := by unfold fullG; rw [hE, hE2]; rfl
      rw [hres]; clear hres
      go_enter Try.func38, Try.ntmps38
      have hBz := hB.lt
      have hBc0 := hB.c0
      have hBc1 := hB.c1
      go_wp2_with fail
      refine (ArenaOk_any _ a _ (hv.kept (Kept.of hbw))).mono ?_
      rintro e w1 ⟨rfl, hb1⟩
      clear hBc0 hBc1 hBz
      replace hB := hB.below hb1 hB.lt
      replace hbw := Below.up hbw hb1
      have hb1s := hb1.size
      clear hb1
      have hBz := hB.lt
      have hBc0 := hB.c0
      have hBc1 := hB.c1
      go_wp2_with fail
      refine (same_below (isPlayer_any who _)).mono ?_
      rintro e w2 ⟨rfl, hb2⟩
      clear hBc0 hBc1 hBz
      replace hB := hB.below hb2 hB.lt
      replace hbw := Below.up hbw hb2
      have hb2s := hb2.size
      clear hb2
      have hBz := hB.lt
      have hBc0 := hB.c0
      have hBc1 := hB.c1
      go_wp2
      go_ret
      exact ⟨rfl, hbw⟩
    · have hres : fullG a who plan = fullB a who plan := by unfold fullG; rw [hE, hE2]; rfl
      rw [hres]; clear hres
      go_enter Try.func38, Try.ntmps38
      have hBz := hB.lt
      have hBc0 := hB.c0
      have hBc1 := hB.c1
      go_wp2_with fail
      refine (ArenaOk_any _ a _ (hv.kept (Kept.of hbw))).mono ?_
      rintro e w1 ⟨rfl, hb1⟩
      clear hBc0 hBc1 hBz
      replace hB := hB.below hb1 hB.lt
      replace hbw := Below.up hbw hb1
      have hb1s := hb1.size
      clear hb1
      have hBz := hB.lt
      have hBc0 := hB.c0
      have hBc1 := hB.c1
      go_wp2_with fail
      refine (same_below (isPlayer_any who _)).mono ?_
      rintro e w2 ⟨rfl, hb2⟩
      clear hBc0 hBc1 hBz
      replace hB := hB.below hb2 hB.lt
      replace hbw := Below.up hbw hb2
      have hb2s := hb2.size
      clear hb2
      have hBz := hB.lt
      have hBc0 := hB.c0
      have hBc1 := hB.c1
      go_wp2_with fail
      refine (isFull_any _ a who _ plan _ (hv.kept (Kept.of hbw)) (hu.kept (Kept.of hbw)) hok).mono ?_
      rintro e w3 ⟨rfl, hb3⟩
      clear hBc0 hBc1 hBz
      replace hB := hB.below hb3 hB.lt
      replace hbw := Below.up hbw hb3
      have hb3s := hb3.size
      clear hb3
      have hBz := hB.lt
      have hBc0 := hB.c0
      have hBc1 := hB.c1
      go_wp2
      go_ret
      exact ⟨rfl, hbw⟩

set_option maxRecDepth 100000 in
set_option maxHeartbeats 1000000 in
theorem specFullIn_any (v : Value) (a : ArenaD) (who : Int) (u : Value) (plan : List Int) (w : World) (hv : IsArena w v a) (hu : Ints w u plan) :
    Calls Try.prog 37 #[v, .int .i64 who, u] w fun e w' => e = .returned (.bool (fullG a who plan)) ∧ Below w.heap.size w w' := by
  obtain ⟨o, n, rfl, hbw, hB⟩ := arena_open hv
  obtain ⟨ho, hn⟩ := hv.parts
  obtain ⟨A, c, rfl, hlc, hcm⟩ := ho.form
  obtain ⟨A2, c2, rfl, hlc2, hcm2⟩ := hu.form
  have hfg : fullG a who plan = (planOkB a who plan && movesAll a who plan) := by unfold fullG planOkB fullB; rw [Bool.and_assoc, Bool.and_assoc]
  rw [hfg]; clear hfg
  cases hE : planOkB a who plan
  · rw [Bool.false_and]
    go_enter Try.func37, Try.ntmps37
    have hBz := hB.lt
    have hBc0 := hB.c0
    have hBc1 := hB.c1
    go_wp2_with fail
    refine (specPlanOk_any _ a who _ plan _ (hv.kept (Kept.of hbw)) (hu.kept (Kept.of hbw))).mono ?_
    rintro e w1 ⟨rfl, hb1⟩
    clear hBc0 hBc1 hBz
    replace hB := hB.below hb1 hB.lt
    replace hbw := Below.up hbw hb1
    have hb1s := hb1.size
    clear hb1
    have hBz := hB.lt
    have hBc0 := hB.c0
    have hBc1 := hB.c1
    go_wp2
    go_ret
    exact ⟨rfl, hbw⟩
  · rw [Bool.true_and]
    have hp : PlanOk a who plan := by
      unfold planOkB at hE
      simp only [Bool.and_eq_true] at hE
      exact planB_iff.1 hE.2.2
    have Hpl := Lib.hid hp.len
    clear hp
    go_enter Try.func37, Try.ntmps37
    have hBz := hB.lt
    have hBc0 := hB.c0
    have hBc1 := hB.c1
    go_wp2_with fail
    refine (specPlanOk_any _ a who _ plan _ (hv.kept (Kept.of hbw)) (hu.kept (Kept.of hbw))).mono ?_
    rintro e w1 ⟨rfl, hb1⟩
    clear hBc0 hBc1 hBz
    replace hB := hB.below hb1 hB.lt
    replace hbw := Below.up hbw hb1
    have hb1s := hb1.size
    clear hb1
    have hBz := hB.lt
    have hBc0 := hB.c0
    have hBc1 := hB.c1
    go_wp2
    have hu1 := (hu.kept (Kept.of hbw))
    have ho1 := (ho.kept (Kept.of hbw))
    go_loop [7] (fun i => ∃ k : Nat, k ≤ plan.length ∧ i = .int .i64 k ∧ ∀ j, j < k → movesB a who plan j = true) (fun i => plan.length - (intOf i).toNat)
    case atStart => exact ⟨0, Nat.zero_le _, rfl, fun j hj => by omega⟩
    case round =>
      obtain ⟨k, hk, rfl, hm⟩ := hrel
      have Hm := Lib.hid hm
      clear hm
      by_cases hlt : k < plan.length
      · have hko : k < a.owner.length := by rw [← Hpl.out]; exact hlt
        obtain ⟨a1, rfl, hc1⟩ := hu1.at_ hlt
        obtain ⟨a2, rfl, hc2⟩ := ho1.at_ hko
        have hko' : (k : Int) < a.owner.length := by omega
        have hlt' : (k : Int) < plan.length := by omega
        by_cases e : ix a.owner k = who
        · have hd : (ix a.owner k == who) = true := by simpa using e
          by_cases e2 : ix plan k < 0
          · have Hb := Lib.hid (movesAll_bad (a := a) (who := who) hlt (by unfold movesB; simp [e, e2]))
            clear e
            go_wp2
            go_ret
            exact ⟨by rw [Hb.out]; rfl, hbw⟩
          · have Hb := Lib.hid (show movesB a who plan k = true by unfold movesB; simp [e2])
            clear e
            go_wp2
            exact ⟨⟨k + 1, by omega, by go_num, fun j hj => by
              by_cases ej : j = k
              · rw [ej]; exact Hb.out
              · exact Hm.out j (by omega)⟩, by simp [intOf]; omega⟩
        · have hd : (ix a.owner k == who) = false := by simpa using e
          have Hb := Lib.hid (show movesB a who plan k = true by unfold movesB; simp [e])
          clear e
          go_wp2
          exact ⟨⟨k + 1, by omega, by go_num, fun j hj => by
            by_cases ej : j = k
            · rw [ej]; exact Hb.out
            · exact Hm.out j (by omega)⟩, by simp [intOf]; omega⟩
      · have Ht := Lib.hid (show movesAll a who plan = true by unfold movesAll; rw [decide_eq_true_eq]; exact fun j hj => Hm.out j (by omega))
        go_wp2
        go_ret
        exact ⟨by rw [Ht.out]; rfl, hbw⟩
theorem lfG_len (a : ArenaD) (who : Int) : (lfG a who).length ≤ 1048576 := by
  unfold lfG
  split
  · rename_i h
    simp only [Bool.and_eq_true] at h
    have := (arenaOkB_iff.1 h.1).le
    simp; omega
  · simp
end Go.Proofs.Ytogapgdpcgfjhaa
