/- The walks of PredsOf, LeastFull, FullIn and what they call. No condition. -/
import Derived.Test.YtogapgdpcgfjhaaTrapWalks
import Derived.Test.YtogapgdpcgfjhaaParityWalks2
namespace Go.Proofs.Ytogapgdpcgfjhaa
set_option linter.unusedSimpArgs false
set_option linter.unusedVariables false
open Go.RowKit

/-- The vertices below k of which u is a successor. -/
def predTo (a : ArenaD) (u : Int) (k : Nat) : List Int := (upFrom 0 k).filter fun v => hasB (rx a.next v.toNat) u
theorem predTo_succ (a : ArenaD) (u : Int) (k : Nat) : predTo a u (k + 1) = predTo a u k ++ if hasB (rx a.next k) u = true then [(k : Int)] else [] := by
  unfold predTo
  rw [upFrom_snoc, List.filter_append]
  congr 1
  by_cases h : hasB (rx a.next k) u = true <;> simp [h]
theorem predTo_len (a : ArenaD) (u : Int) (k : Nat) : (predTo a u k).length ≤ k := by
  have := List.length_filter_le (fun v => hasB (rx a.next v.toNat) u) (upFrom 0 k)
  rw [length_upFrom] at this
  exact this
def predG (a : ArenaD) (u : Int) : List Int := if arenaOkB a && thereB a u then predTo a u a.owner.length else []

set_option maxRecDepth 100000 in
set_option maxHeartbeats 1000000 in
theorem PredsOf_any (v : Value) (a : ArenaD) (x : Int) (w : World) (hv : IsArena w v a) :
    Calls Try.prog 44 #[v, .int .i64 x] w (RetInts w (predG a x)) := by
  obtain ⟨o, n, rfl, hbw, hB⟩ := arena_open hv
  obtain ⟨ho, hn⟩ := hv.parts
  obtain ⟨A', c', rfl, hlc', hcm'⟩ := hn.form
  cases hE : arenaOkB a
  · have hres : predG a x = [] := by unfold predG; rw [hE]; rfl
    rw [hres]; clear hres
    go_enter Try.func44, Try.ntmps44
    have hBz := hB.lt
    have hBc0 := hB.c0
    have hBc1 := hB.c1
    go_wp2_with fail
    refine (ArenaOk_any _ a _ (hv.kept (Kept.of hbw))).mono ?_
    rintro e w1 ⟨rfl, hb1⟩
    clear hBc0 hBc1 hBz
    replace hB := hB.below hb1 hB.lt
    replace hbw := Below.up hbw hb1
    have hb1s := hb1.size
    clear hb1
    have hBz := hB.lt
    have hBc0 := hB.c0
    have hBc1 := hB.c1
    go_wp2
    go_ret
    exact .mk' (OwnInts.nil _ _) hbw
  · have hok := arenaOkB_iff.1 hE
    cases hE2 : thereB a x
    · have hres : predG a x = [] := by unfold predG; rw [hE, hE2]; rfl
      rw [hres]; clear hres
      go_enter Try.func44, Try.ntmps44
      have hBz := hB.lt
      have hBc0 := hB.c0
      have hBc1 := hB.c1
      go_wp2_with fail
      refine (ArenaOk_any _ a _ (hv.kept (Kept.of hbw))).mono ?_
      rintro e w1 ⟨rfl, hb1⟩
      clear hBc0 hBc1 hBz
      replace hB := hB.below hb1 hB.lt
      replace hbw := Below.up hbw hb1
      have hb1s := hb1.size
      clear hb1
      have hBz := hB.lt
      have hBc0 := hB.c0
      have hBc1 := hB.c1
      go_wp2_with fail
      refine (hasVertex_any _ a x _ (hv.kept (Kept.of hbw))).mono ?_
      rintro e w2 ⟨rfl, hb2⟩
      clear hBc0 hBc1 hBz
      replace hB := hB.below hb2 hB.lt
      replace hbw := Below.up hbw hb2
      have hb2s := hb2.size
      clear hb2
      have hBz := hB.lt
      have hBc0 := hB.c0
      have hBc1 := hB.c1
      go_wp2
      go_ret
      exact .mk' (OwnInts.nil _ _) hbw
    · have hres : predG a x = predTo a x a.next.length := by unfold predG; rw [hE, hE2, hok.len]; rfl
      rw [hres]; clear hres
      have hle : a.next.length ≤ 256 := by rw [hok.len]; exact hok.le
      go_enter Try.func44, Try.ntmps44
      have hBz := hB.lt
      have hBc0 := hB.c0
      have hBc1 := hB.c1
      go_wp2_with fail
      refine (ArenaOk_any _ a _ (hv.kept (Kept.of hbw))).mono ?_
      rintro e w1 ⟨rfl, hb1⟩
      clear hBc0 hBc1 hBz
      replace hB := hB.below hb1 hB.lt
      replace hbw := Below.up hbw hb1
      have hb1s := hb1.size
      clear hb1
      have hBz := hB.lt
      have hBc0 := hB.c0
      have hBc1 := hB.c1
      go_wp2_with fail
      refine (hasVertex_any _ a x _ (hv.kept (Kept.of hbw))).mono ?_
      rintro e w2 ⟨rfl, hb2⟩
      clear hBc0 hBc1 hBz
      replace hB := hB.below hb2 hB.lt
      replace hbw := Below.up hbw hb2
      have hb2s := hb2.size
      clear hb2
      have hBz := hB.lt
      have hBc0 := hB.c0
      have hBc1 := hB.c1
      obtain ⟨hown, hbn⟩ := new_ints w2
      go_wp2
      generalize w2.alloc (.cells #[] 2) = w3 at *
      go_loopw [5, 21] (fun v i wr => ∃ k : Nat, k ≤ a.next.length ∧ i = .int .i64 k ∧ OwnInts wr w2.heap.size v (predTo a x k) ∧ Below w2.heap.size w2 wr) (fun _ i _ => a.next.length - (intOf i).toNat)
      case atStart => exact ⟨0, Nat.zero_le _, rfl, hown, hbn⟩
      case round =>
        obtain ⟨k, hk, rfl, hown, hbr⟩ := hrel
        have hbs := hbr.size
        have hw2 := hbw.size
        clear hBc0 hBc1 hBz
        replace hB := hB.below hbr hB.lt
        replace hbw := Below.up hbw hbr
        have hbrs := hbr.size
        have hBz := hB.lt
        have hBc0 := hB.c0
        have hBc1 := hB.c1
        by_cases hlt : k < a.next.length
        · obtain ⟨a2, R, r, rfl, hc2, hrow⟩ := ((hn.kept (Kept.of hbw))).at_ hlt
          have hlen := predTo_len a x k
          have Hs := Lib.hid (predTo_succ a x k)
          have hcon := Contains_any _ (rx a.next k) x _ hrow
          cases e : hasB (rx a.next k) x
          · rw [e] at hcon Hs
            clear e
            go_wp2_with (go_at_call 86; refine hcon.mono ?_; rintro e w' ⟨rfl, hw⟩; subst w')
            exact ⟨⟨k + 1, by omega, by go_num, by rw [Hs.out]; simpa using hown, hbr⟩, by simp [intOf]; omega⟩
          · rw [e] at hcon Hs
            clear e
            go_wp2_with (first | (go_at_call 86; refine hcon.mono ?_; rintro e w' ⟨rfl, hw⟩; subst w') | (at_builtin; refine append_int _ rfl (.tmp 29) (.tmp 31) rfl w2.heap.size u5 _ rfl hown (k : Int) rfl (by omega) hbs ?_; intro v1 w3 ho1 hb1 hg1 hl1))
            exact ⟨⟨k + 1, by omega, by go_num, by rw [Hs.out]; simpa using ho1, hbr.trans hb1⟩, by simp [intOf]; omega⟩
        · obtain rfl : k = a.next.length := by omega
          go_wp2
          go_ret
          exact .mk' (hown.more (by omega)) hbw

set_option maxRecDepth 100000 in
set_option maxHeartbeats 1000000 in
theorem specPredsOf_any (v : Value) (a : ArenaD) (x : Int) (w : World) (hv : IsArena w v a) :
    Calls Try.prog 43 #[v, .int .i64 x] w (RetInts w (predG a x)) := by
  obtain ⟨o, n, rfl, hbw, hB⟩ := arena_open hv
  obtain ⟨ho, hn⟩ := hv.parts
  obtain ⟨A', c', rfl, hlc', hcm'⟩ := hn.form
  have hsz := Lib.hid (show (w.alloc (.cells #[o, .slice A' a.next.length c'] 30)).heap.size = w.heap.size + 1 by simp)
  obtain ⟨hown, hbn⟩ := new_ints (w.alloc (.cells #[o, .slice A' a.next.length c'] 30))
  rw [hsz.out] at hown hbn
  have hB0 := hB.alloc (.cells #[] 2)
  have hbw0 : Below w.heap.size w _ := hbw.trans (hbn.mono (by omega))
  clear hB hbw hbn
  have hB := hB0
  have hbw := hbw0
  clear hB0 hbw0
  replace hown := OI.of hown
  cases hE : arenaOkB a
  · have hres : predG a x = [] := by unfold predG; rw [hE]; rfl
    rw [hres]; clear hres
    go_enter Try.func43, Try.ntmps43
    have hBz := hB.lt
    have hBc0 := hB.c0
    have hBc1 := hB.c1
    go_wp2_with fail
    refine (specArenaOk_any _ a _ (hv.kept (Kept.of hbw))).mono ?_
    rintro e w1 ⟨rfl, hb1⟩
    clear hBc0 hBc1 hBz
    replace hB := hB.below hb1 hB.lt
    replace hown := hown.below hb1
    replace hbw := Below.up hbw hb1
    have hb1s := hb1.size
    clear hb1
    have hBz := hB.lt
    have hBc0 := hB.c0
    have hBc1 := hB.c1
    go_wp2
    go_ret
    exact .mk' (hown.1.more (by omega)) hbw
  · have hok := arenaOkB_iff.1 hE
    cases hE2 : thereB a x
    · have hres : predG a x = [] := by unfold predG; rw [hE, hE2]; rfl
      rw [hres]; clear hres
      go_enter Try.func43, Try.ntmps43
      have hBz := hB.lt
      have hBc0 := hB.c0
      have hBc1 := hB.c1
      go_wp2_with fail
      refine (specArenaOk_any _ a _ (hv.kept (Kept.of hbw))).mono ?_
      rintro e w1 ⟨rfl, hb1⟩
      clear hBc0 hBc1 hBz
      replace hB := hB.below hb1 hB.lt
      replace hown := hown.below hb1
      replace hbw := Below.up hbw hb1
      have hb1s := hb1.size
      clear hb1
      have hBz := hB.lt
      have hBc0 := hB.c0
      have hBc1 := hB.c1
      go_wp2_with fail
      refine (l1There_any _ a x _ (hv.kept (Kept.of hbw))).mono ?_
      rintro e w2 ⟨rfl, hb2⟩
      clear hBc0 hBc1 hBz
      replace hB := hB.below hb2 hB.lt
      replace hown := hown.below hb2
      replace hbw := Below.up hbw hb2
      have hb2s := hb2.size
      clear hb2
      have hBz := hB.lt
      have hBc0 := hB.c0
      have hBc1 := hB.c1
      go_wp2
      go_ret
      exact .mk' (hown.1.more (by omega)) hbw
    · have hres : predG a x = predTo a x a.next.length := by unfold predG; rw [hE, hE2, hok.len]; rfl
      rw [hres]; clear hres
      have hle : a.next.length ≤ 256 := by rw [hok.len]; exact hok.le
      go_enter Try.func43, Try.ntmps43
      have hBz := hB.lt
      have hBc0 := hB.c0
      have hBc1 := hB.c1
      go_wp2_with fail
      refine (specArenaOk_any _ a _ (hv.kept (Kept.of hbw))).mono ?_
      rintro e w1 ⟨rfl, hb1⟩
      clear hBc0 hBc1 hBz
      replace hB := hB.below hb1 hB.lt
      replace hown := hown.below hb1
      replace hbw := Below.up hbw hb1
      have hb1s := hb1.size
      clear hb1
      have hBz := hB.lt
      have hBc0 := hB.c0
      have hBc1 := hB.c1
      go_wp2_with fail
      refine (l1There_any _ a x _ (hv.kept (Kept.of hbw))).mono ?_
      rintro e w2 ⟨rfl, hb2⟩
      clear hBc0 hBc1 hBz
      replace hB := hB.below hb2 hB.lt
      replace hown := hown.below hb2
      replace hbw := Below.up hbw hb2
      have hb2s := hb2.size
      clear hb2
      have hBz := hB.lt
      have hBc0 := hB.c0
      have hBc1 := hB.c1
      have hown1 := hown.1
      clear hown
      go_wp2
      go_loopw [5, 6] (fun v i wr => ∃ k : Nat, k ≤ a.next.length ∧ i = .int .i64 k ∧ OwnInts wr (w.heap.size + 1) v (predTo a x k) ∧ Below (w.heap.size + 1) w2 wr) (fun _ i _ => a.next.length - (intOf i).toNat)
      case atStart => exact ⟨0, Nat.zero_le _, rfl, hown1, Below.refl _ _⟩
      case round =>
        obtain ⟨k, hk, rfl, hown, hbr⟩ := hrel
        have hbs := hbr.size
        have hbs2 : w.heap.size + 1 ≤ wr.heap.size := by have := hB.lt; omega
        clear hBc0 hBc1 hBz
        replace hB := hB.below hbr (Nat.lt_succ_self _)
        replace hbw : Below w.heap.size w wr := hbw.trans (hbr.mono (by omega))
        have hBz := hB.lt
        have hBc0 := hB.c0
        have hBc1 := hB.c1
        by_cases hlt : k < a.next.length
        · obtain ⟨a2, R, r, rfl, hc2, hrow⟩ := ((hn.kept (Kept.of hbw))).at_ hlt
          have hlen := predTo_len a x k
          have Hs := Lib.hid (predTo_succ a x k)
          have hcon := l1Has_any _ (rx a.next k) x _ hrow
          have hlt' : (k : Int) < a.next.length := by omega
          cases e : hasB (rx a.next k) x
          · rw [e] at hcon Hs
            clear e
            go_wp2_with (go_at_call 84; refine hcon.mono ?_; rintro e w' ⟨rfl, hw⟩; subst w')
            exact ⟨⟨k + 1, by omega, by go_num, by rw [Hs.out]; simpa using hown, hbr⟩, by simp [intOf]; omega⟩
          · rw [e] at hcon Hs
            clear e
            go_wp2_with (first | (go_at_call 84; refine hcon.mono ?_; rintro e w' ⟨rfl, hw⟩; subst w') | (at_builtin; refine append_int _ rfl (.tmp 32) (.tmp 34) rfl (w.heap.size + 1) u5 _ rfl hown (k : Int) rfl (by omega) hbs2 ?_; intro v1 w3 ho1 hb1 hg1 hl1))
            exact ⟨⟨k + 1, by omega, by go_num, by rw [Hs.out]; simpa using ho1, hbr.trans hb1⟩, by simp [intOf]; omega⟩
        · obtain rfl : k = a.next.length := by omega
          go_wp2
          go_ret
          exact .mk' (hown.more (by omega)) hbw

/-- n times -1. -/
def noneL (n : Nat) : List Int := List.replicate n (-1)
@[simp] theorem length_noneL (n : Nat) : (noneL n).length = n := by simp [noneL]
theorem ix_noneL {n k : Nat} (h : k < n) : ix (noneL n) k = -1 := by simp [ix, noneL, h]
theorem IArr.new (w : World) (n : Nat) : IArr (w.alloc (.cells (zeros (.int .i64 0) n).toArray 2)) w.heap.size (List.replicate n 0) := by
  have := Arr.new w 2 (zeros (.int .i64 0) n)
  unfold IArr
  rwa [List.map_replicate]

set_option maxHeartbeats 1000000 in
theorem noPlan_any (v : Value) (a : ArenaD) (w : World) (hv : IsArena w v a) (hn : a.owner.length ≤ 1048576) :
    Calls Try.prog 73 #[v] w fun e w' => ∃ g, e = .returned (.slice (some ⟨g, 0, none⟩) a.owner.length a.owner.length) ∧ w.heap.size ≤ g ∧ IArr w' g (noneL a.owner.length) ∧ Below w.heap.size w w' := by
  obtain ⟨o, n, rfl, hbw, hB⟩ := arena_open hv
  obtain ⟨ho, hn1⟩ := hv.parts
  obtain ⟨A, c, rfl, hlc, hcm⟩ := ho.form
  have hmk := make_one elem_int64 a.owner.length (by omega)
  have hBc0 := hB.c0
  go_enter Try.func73, Try.ntmps73
  go_wp2
  clear hmk
  have hM := IArr.new (w.alloc (.cells #[.slice A a.owner.length c, n] 30)) a.owner.length
  have hb2 := hbw.alloc hbw.size (.cells (zeros (.int .i64 0) a.owner.length).toArray 2)
  have hsz : (w.alloc (.cells #[.slice A a.owner.length c, n] 30)).heap.size = w.heap.size + 1 := by simp
  rw [hsz] at hM
  clear hsz hBc0 hB hbw
  generalize (w.alloc (.cells #[.slice A a.owner.length c, n] 30)).alloc (.cells (zeros (.int .i64 0) a.owner.length).toArray 2) = w0 at *
  go_loopw [11] (fun i wr => ∃ (k : Nat) (l : List Int), k ≤ a.owner.length ∧ i = .int .i64 k ∧ IArr wr (w.heap.size + 1) l ∧ l.length = a.owner.length ∧ (∀ j, j < k → ix l j = -1) ∧ Below w.heap.size w wr) (fun i _ => a.owner.length - (intOf i).toNat)
  case atStart => exact ⟨0, _, Nat.zero_le _, rfl, hM, by simp, fun j hj => by omega, hb2⟩
  case round =>
    obtain ⟨k, l, hk, rfl, hM, hl, hm, hbw⟩ := hrel
    have Hl := Lib.hid hl
    clear hl
    have Hm := Lib.hid hm
    clear hm
    by_cases hlt : k < a.owner.length
    · have hc2 := hM.cell (k := k) (by rw [Hl.out]; exact hlt)
      have hf2 := hM.frozen k
      have hset := hM.set_ k (-1)
      have hlt' : (k : Int) < a.owner.length := by omega
      go_wp2
      refine ⟨⟨k + 1, _, by omega, by go_num, hset, by simpa using Hl.out, fun j hj => ?_, hbw.setCell (by simp) _⟩, by simp [intOf]; omega⟩
      rw [ix_set (by rw [Hl.out]; exact hlt)]
      split
      · rfl
      · exact Hm.out j (by omega)
    · obtain rfl : k = a.owner.length := by omega
      have hll : l = noneL a.owner.length := int_range_ext (by simpa using Hl.out) fun j hj => by
        rw [length_noneL] at hj
        rw [ix_noneL hj]; exact Hm.out j hj
      subst hll
      go_wp2
      go_ret
      exact ⟨_, rfl, by omega, hM, hbw⟩
theorem predG_len (a : ArenaD) (u : Int) : (predG a u).length ≤ 1048576 := by
  unfold predG
  split
  · rename_i h
    simp only [Bool.and_eq_true] at h
    have := predTo_len a u a.owner.length
    have := (arenaOkB_iff.1 h.1).le
    omega
  · simp
end Go.Proofs.Ytogapgdpcgfjhaa
