/- The walks of SureIn, of the program and of the reference. -/
import Derived.Test.YtmkmghjmfaoobaaWonExact
import Derived.BigRegion
namespace Go.Proofs.Ytmkmghjmfaoobaa
set_option linter.unusedSimpArgs false
set_option linter.unusedVariables false
open Go.RowKit

/-- Whether u is a choice that keeps the winner of v. -/
def keepB (o wl : List Int) (v : Nat) (u : Int) : Bool := decide (ix o v ≠ ix wl v) || decide (ix wl u.toNat = ix wl v)
noncomputable def sureG (g : ParityD) (x : Int) : List Int := if parityOkB g && thereB g.arena x then (rx g.arena.next x.toNat).filter (keepB g.arena.owner (winnersL (duelP g) g.arena.owner.length) x.toNat) else []
theorem sureG_len (g : ParityD) (x : Int) : (sureG g x).length ≤ 1048576 := by
  unfold sureG
  split
  · rename_i h
    rw [Bool.and_eq_true] at h
    have hok := parityOkB_iff.1 h.1
    obtain ⟨j, rfl, hj⟩ := there_nat2 h.2
    rw [Int.toNat_natCast]
    have h1 := List.length_filter_le (keepB g.arena.owner (winnersL (duelP g) g.arena.owner.length) j) (rx g.arena.next j)
    have h2 := (hok.arena.deg hj).2
    omega
  · simp
theorem sure_take {f : Int → Bool} {l : List Int} {k : Nat} (hk : k < l.length) : (l.take (k + 1)).filter f = (l.take k).filter f ++ if f (ix l k) = true then [ix l k] else [] := by
  rw [take_ix hk, List.filter_append]
  congr 1
  by_cases h : f (ix l k) = true <;> simp [h]
theorem sure_take_len {f : Int → Bool} {l : List Int} {k : Nat} : ((l.take k).filter f).length ≤ k := by
  have h1 := List.length_filter_le f (l.take k)
  have h2 := List.length_take_le k l
  omega

set_option maxRecDepth 100000 in
set_option maxHeartbeats 4000000 in
theorem SureIn_any (v : Value) (g : ParityD) (x : Int) (w : World) (hv : IsParity w v g) :
    Calls Try.prog 23 #[v, .int .i64 x] w (RetInts w (sureG g x)) := by
  obtain ⟨o, n, p, rfl, hbw, hB⟩ := parity_box hv
  obtain ⟨ha, hp⟩ := hv.parts
  cases hE : parityOkB g
  · have hres : sureG g x = [] := by unfold sureG; rw [hE]; rfl
    rw [hres]; clear hres
    go_enter Try.func23, Try.ntmps23
    have hBz := hB.lt
    have hBc0 := hB.c0
    have hBc1 := hB.c1
    have hBc2 := hB.c2
    go_wp2_with fail
    refine (ParityOk_any _ g _ (hv.kept (Kept.of hbw))).mono ?_
    rintro e w1 ⟨rfl, hb1⟩
    clear hBc0 hBc1 hBc2 hBz
    replace hB := hB.below hb1 hB.lt
    replace hbw := Below.up hbw hb1
    have hb1s := hb1.size
    clear hb1
    have hBz := hB.lt
    have hBc0 := hB.c0
    have hBc1 := hB.c1
    have hBc2 := hB.c2
    go_wp2
    go_ret
    exact .mk' (OwnInts.nil _ _) hbw
  · have hok := parityOkB_iff.1 hE
    cases hT : thereB g.arena x
    · have hres : sureG g x = [] := by unfold sureG; rw [hE, hT]; rfl
      rw [hres]; clear hres
      go_enter Try.func23, Try.ntmps23
      have hBz := hB.lt
      have hBc0 := hB.c0
      have hBc1 := hB.c1
      have hBc2 := hB.c2
      go_wp2_with fail
      refine (ParityOk_any _ g _ (hv.kept (Kept.of hbw))).mono ?_
      rintro e w1 ⟨rfl, hb1⟩
      clear hBc0 hBc1 hBc2 hBz
      replace hB := hB.below hb1 hB.lt
      replace hbw := Below.up hbw hb1
      have hb1s := hb1.size
      clear hb1
      have hBz := hB.lt
      have hBc0 := hB.c0
      have hBc1 := hB.c1
      have hBc2 := hB.c2
      go_wp2_with fail
      refine (hasVertex_any _ g.arena _ _ (ha.kept (Kept.of hbw))).mono ?_
      rintro e w2 ⟨rfl, hb2⟩
      clear hBc0 hBc1 hBc2 hBz
      replace hB := hB.below hb2 hB.lt
      replace hbw := Below.up hbw hb2
      have hb2s := hb2.size
      clear hb2
      have hBz := hB.lt
      have hBc0 := hB.c0
      have hBc1 := hB.c1
      have hBc2 := hB.c2
      go_wp2
      go_ret
      exact .mk' (OwnInts.nil _ _) hbw
    · have hres : sureG g x = (rx g.arena.next x.toNat).filter (keepB g.arena.owner (winnersL (duelP g) g.arena.owner.length) x.toNat) := by unfold sureG; rw [hE, hT]; rfl
      rw [hres]; clear hres
      obtain ⟨j, rfl, hj⟩ := there_nat2 hT
      rw [Int.toNat_natCast]
      have Hwl := Lib.hid (length_winnersL (duelP g) g.arena.owner.length)
      have hj2 : (j : Int) < g.arena.owner.length := by omega
      have hdeg := (hok.arena.deg hj).2
      have hvn := fun t ht => hok.arena.vert_next' hj (t := t) ht
      obtain ⟨ho, hn⟩ := ha.parts
      obtain ⟨A', c', rfl, hlc', hcm'⟩ := hn.form
      obtain ⟨A, c, rfl, hlc, hcm⟩ := ho.form
      have Hc := Lib.hid (fun W (hW : Kept w W) => winners_any _ g W (hv.kept hW) hok)
      have hj3 : (j : Int) < g.arena.next.length := by rw [hok.arena.len]; exact hj2
      have Hnl := Lib.hid hok.arena.len
      obtain ⟨wl, hwl⟩ : ∃ wl, winnersL (duelP g) g.arena.owner.length = wl := ⟨_, rfl⟩
      rw [hwl] at Hc Hwl ⊢
      clear hwl
      go_enter Try.func23, Try.ntmps23
      have hBz := hB.lt
      have hBc0 := hB.c0
      have hBc1 := hB.c1
      have hBc2 := hB.c2
      go_wp2_with fail
      refine (ParityOk_any _ g _ (hv.kept (Kept.of hbw))).mono ?_
      rintro e w1 ⟨rfl, hb1⟩
      clear hBc0 hBc1 hBc2 hBz
      replace hB := hB.below hb1 hB.lt
      replace hbw := Below.up hbw hb1
      have hb1s := hb1.size
      clear hb1
      have hBz := hB.lt
      have hBc0 := hB.c0
      have hBc1 := hB.c1
      have hBc2 := hB.c2
      go_wp2_with fail
      refine (hasVertex_any _ g.arena _ _ (ha.kept (Kept.of hbw))).mono ?_
      rintro e w2 ⟨rfl, hb2⟩
      clear hBc0 hBc1 hBc2 hBz
      replace hB := hB.below hb2 hB.lt
      replace hbw := Below.up hbw hb2
      have hb2s := hb2.size
      clear hb2
      have hBz := hB.lt
      have hBc0 := hB.c0
      have hBc1 := hB.c1
      have hBc2 := hB.c2
      go_wp2_with fail
      refine (Hc.out _ (Kept.of hbw)).mono ?_
      rintro e w4 ⟨u4, rfl, ho4, hb4⟩
      obtain ⟨WA, wc, ef, _⟩ := ho4.ints.form
      rw [Hwl.out] at ef
      subst ef
      clear hBc0 hBc1 hBc2 hBz
      replace hB := hB.below hb4 hB.lt
      replace hbw := Below.up hbw hb4
      have hb4s := hb4.size
      clear hb4
      have hBz := hB.lt
      have hBc0 := hB.c0
      have hBc1 := hB.c1
      have hBc2 := hB.c2
      clear hBc0 hBc1 hBc2 hBz
      obtain ⟨hown0, hbn⟩ := new_ints w4
      have hBz := hB.lt
      have hBc0 := hB.c0
      have hBc1 := hB.c1
      obtain ⟨a1, R, r, ea, hc1, hrow⟩ := (hn.kept (Kept.of hbw)).at_ (k := j) (by rw [Hnl.out]; exact hj)
      cases ea
      replace hc1 := (Kept.of hbn).cell hc1
      obtain ⟨R', r', he, hrl, hrm⟩ := hrow.form
      simp only [Value.slice.injEq, true_and] at he
      obtain ⟨rfl, rfl⟩ := he
      have ho4i := ho4.ints
      go_wp2_with fail
      clear hc1 hBc0 hBc1
      generalize w4.alloc (.cells #[] 2) = w5 at *
      have Hall := Lib.hid (show ((rx g.arena.next j).take (rx g.arena.next j).length).filter (keepB g.arena.owner wl j) = (rx g.arena.next j).filter (keepB g.arena.owner wl j) by rw [List.take_length])
      go_loopw [6, 29] (fun qv i wr => ∃ k : Nat, k ≤ (rx g.arena.next j).length ∧ i = .int .i64 k ∧ OwnInts wr w4.heap.size qv (((rx g.arena.next j).take k).filter (keepB g.arena.owner wl j)) ∧ Below w4.heap.size w4 wr) (fun _ i _ => (rx g.arena.next j).length - (intOf i).toNat)
      case atStart => exact ⟨0, Nat.zero_le _, rfl, by simpa using hown0, hbn⟩
      case round =>
        obtain ⟨k, hk, rfl, hown, hbr⟩ := hrel
        have hkw : Kept w wr := Kept.of (Below.up hbw hbr)
        have hwon := ho4i.kept (Kept.of hbr)
        have hrw := hrow.kept (Kept.of hbr)
        have hBr := hB.below hbr hBz
        have hbs := hbr.size
        have hBc0 := hBr.c0
        have hBc1 := hBr.c1
        have hfl := sure_take_len (f := keepB g.arena.owner wl j) (l := rx g.arena.next j) (k := k)
        by_cases hlt : k < (rx g.arena.next j).length
        · obtain ⟨a2, ea2, hc2⟩ := hrw.at_ hlt
          cases ea2
          obtain ⟨i, hi, hin⟩ := hvn k hlt
          have Hft := Lib.hid (sure_take (f := keepB g.arena.owner wl j) hlt)
          rw [hi] at hc2 Hft
          clear hi
          obtain ⟨a3, ea3, hc3⟩ := (ho.kept hkw).at_ (k := j) hj
          cases ea3
          obtain ⟨a4, ea4, hc4⟩ := hwon.at_ (k := j) (by rw [Hwl.out]; exact hj)
          cases ea4
          obtain ⟨a5, ea5, hc5⟩ := hwon.at_ (k := i) (by rw [Hwl.out]; exact hin)
          cases ea5
          have hlt2 : (k : Int) < (rx g.arena.next j).length := by omega
          have hin2 : (i : Int) < g.arena.owner.length := by omega
          by_cases h1 : ix g.arena.owner j = ix wl j
          · have d1 : (ix g.arena.owner j != ix wl j) = false := by simp [h1]
            by_cases h2 : ix wl i = ix wl j
            · have d2 : (ix wl i == ix wl j) = true := by simpa using h2
              rw [show keepB g.arena.owner wl j (i : Int) = true from by unfold keepB; rw [Int.toNat_natCast]; simp [h1, h2], if_pos rfl] at Hft
              clear h1 h2
              go_wp2_with fail
              go_region
              all_goals
                go_wp2_with (at_builtin; refine append_int wr.drew rfl (.tmp 55) (.tmp 57) rfl w4.heap.size u6 _ rfl hown.drew (i : Int) rfl (by omega) hbs ?_; intro v1 w8 ho8 hb8 hg8 hl8)
                exact ⟨⟨k + 1, by omega, by go_num, by rw [Hft.out]; exact ho8, (show Below w4.heap.size w4 wr.drew from ⟨hbr.os, hbr.tape, hbr.output, hbr.size, hbr.block⟩).trans hb8⟩, by simp [intOf]; omega⟩
            · have d2 : (ix wl i == ix wl j) = false := by simpa using h2
              rw [show keepB g.arena.owner wl j (i : Int) = false from by unfold keepB; rw [Int.toNat_natCast]; simp [h1, h2], if_neg (by simp)] at Hft
              clear h1 h2
              go_wp2_with fail
              go_region
              all_goals
                go_wp2
                exact ⟨⟨k + 1, by omega, by go_num, by rw [Hft.out, List.append_nil]; exact hown.drew, ⟨hbr.os, hbr.tape, hbr.output, hbr.size, hbr.block⟩⟩, by simp [intOf]; omega⟩
          · have d1 : (ix g.arena.owner j != ix wl j) = true := by simpa using h1
            rw [show keepB g.arena.owner wl j (i : Int) = true from by unfold keepB; rw [Int.toNat_natCast]; simp [h1], if_pos rfl] at Hft
            clear h1
            go_wp2_with fail
            go_region
            all_goals
              go_wp2_with (at_builtin; refine append_int wr.drew rfl (.tmp 55) (.tmp 57) rfl w4.heap.size u6 _ rfl hown.drew (i : Int) rfl (by omega) hbs ?_; intro v1 w8 ho8 hb8 hg8 hl8)
              exact ⟨⟨k + 1, by omega, by go_num, by rw [Hft.out]; exact ho8, (show Below w4.heap.size w4 wr.drew from ⟨hbr.os, hbr.tape, hbr.output, hbr.size, hbr.block⟩).trans hb8⟩, by simp [intOf]; omega⟩
        · obtain rfl : k = (rx g.arena.next j).length := by omega
          have hlt2 : ¬ ((rx g.arena.next j).length : Int) < (rx g.arena.next j).length := by omega
          rw [Hall.out] at hown
          go_wp2
          go_ret
          exact ⟨_, rfl, hown.more hbw.size, Below.up hbw hbr⟩

set_option maxRecDepth 100000 in
set_option maxHeartbeats 4000000 in
theorem specSureIn_any (v : Value) (g : ParityD) (x : Int) (w : World) (hv : IsParity w v g) :
    Calls Try.prog 22 #[v, .int .i64 x] w (RetInts w (sureG g x)) := by
  obtain ⟨o, n, p, rfl, hbw, hB⟩ := parity_box hv
  obtain ⟨ha, hp⟩ := hv.parts
  obtain ⟨P, pc, rfl, hlp, hmp⟩ := hp.form
  have hG0 : w.heap.size < (w.alloc (.cells #[o, n, .slice P g.prio.length pc] 32)).heap.size := by simp
  obtain ⟨hown, hbn⟩ := new_ints (w.alloc (.cells #[o, n, .slice P g.prio.length pc] 32))
  replace hbw := Below.up hbw hbn
  replace hB := hB.below hbn hB.lt
  have hGl : (w.alloc (.cells #[o, n, .slice P g.prio.length pc] 32)).heap.size < ((w.alloc (.cells #[o, n, .slice P g.prio.length pc] 32)).alloc (.cells #[] 2)).heap.size := by simp
  have hGe : (w.alloc (.cells #[o, n, .slice P g.prio.length pc] 32)).heap.size = w.heap.size + 1 := by simp
  rw [hGe] at hown hG0 hGl
  clear hGe hbn
  have hD : Hid (parityOkB g = true → decide (0 ≤ x ∧ x ≤ (g.prio.length : Int) - 1) = thereB g.arena x) := Lib.hid fun hE => by
    unfold thereB
    rw [← (parityOkB_iff.1 hE).len]
    exact decide_eq_decide.2 (and_congr_right fun _ => by omega)
  cases hE : parityOkB g
  · have hres : sureG g x = [] := by unfold sureG; rw [hE]; rfl
    rw [hres]; clear hres
    have hBz := hB.lt
    have hBc0 := hB.c0
    have hBc1 := hB.c1
    have hBc2 := hB.c2
    go_enter Try.func22, Try.ntmps22
    go_wp2_with fail
    refine (specParityOk_any _ g _ (hv.kept (Kept.of hbw))).mono ?_
    rintro e w1 ⟨rfl, hb1⟩
    rw [hE]
    replace hown := hown.below hb1 (Nat.le_refl _)
    go_wp2
    go_ret
    exact ⟨_, rfl, hown.more (by omega), Below.up hbw hb1⟩
  · have hok := parityOkB_iff.1 hE
    have hle := hok.arena.le
    have hpo : g.prio.length ≤ 256 := by rw [hok.len]; exact hle
    have HD := Lib.hid (hD.out hE)
    cases hT : thereB g.arena x
    · have hres : sureG g x = [] := by unfold sureG; rw [hE, hT]; rfl
      rw [hT] at HD
      rw [hres]; clear hres
      have hBz := hB.lt
      have hBc0 := hB.c0
      have hBc1 := hB.c1
      have hBc2 := hB.c2
      go_enter Try.func22, Try.ntmps22
      go_wp2_with fail
      refine (specParityOk_any _ g _ (hv.kept (Kept.of hbw))).mono ?_
      rintro e w1 ⟨rfl, hb1⟩
      rw [hE]
      replace hown := hown.below hb1 (Nat.le_refl _)
      replace hB := hB.below hb1 hB.lt
      clear hBc0 hBc1 hBc2
      have hBc2 := hB.c2
      go_wp2_with fail
      refine (l1In_any _ _ _ _).mono ?_
      rintro e w4 ⟨rfl, hw4⟩
      subst w4
      rw [HD.out]
      go_wp2
      go_ret
      exact ⟨_, rfl, hown.more (by omega), Below.up hbw hb1⟩
    · have hres : sureG g x = (rx g.arena.next x.toNat).filter (keepB g.arena.owner (winnersL (duelP g) g.arena.owner.length) x.toNat) := by unfold sureG; rw [hE, hT]; rfl
      rw [hT] at HD
      rw [hres]; clear hres
      obtain ⟨j, rfl, hj⟩ := there_nat2 hT
      rw [Int.toNat_natCast]
      have Hwl := Lib.hid (length_winnersL (duelP g) g.arena.owner.length)
      have hj2 : (j : Int) < g.arena.owner.length := by omega
      have hdeg := (hok.arena.deg hj).2
      have hvn := fun t ht => hok.arena.vert_next' hj (t := t) ht
      obtain ⟨ho, hn⟩ := ha.parts
      obtain ⟨A', c', rfl, hlc', hcm'⟩ := hn.form
      obtain ⟨A, c, rfl, hlc, hcm⟩ := ho.form
      have Hc := Lib.hid (fun W (hW : Kept w W) => l7Won_any _ g W (hv.kept hW) hok)
      have hj3 : (j : Int) < g.arena.next.length := by rw [hok.arena.len]; exact hj2
      have Hnl := Lib.hid hok.arena.len
      obtain ⟨wl, hwl⟩ : ∃ wl, winnersL (duelP g) g.arena.owner.length = wl := ⟨_, rfl⟩
      rw [hwl] at Hc Hwl ⊢
      clear hwl
      have hBz := hB.lt
      have hBc0 := hB.c0
      have hBc1 := hB.c1
      have hBc2 := hB.c2
      go_enter Try.func22, Try.ntmps22
      go_wp2_with fail
      refine (specParityOk_any _ g _ (hv.kept (Kept.of hbw))).mono ?_
      rintro e w1 ⟨rfl, hb1⟩
      rw [hE]
      replace hown := hown.below hb1 (Nat.le_refl _)
      replace hB := hB.below hb1 hB.lt
      replace hbw := Below.up hbw hb1
      have hG1 := Nat.lt_of_lt_of_le hGl hb1.size
      clear hBc0 hBc1 hBc2 hb1 hGl
      have hBc0 := hB.c0
      have hBc1 := hB.c1
      have hBc2 := hB.c2
      go_wp2_with fail
      refine (l1In_any _ _ _ _).mono ?_
      rintro e w4 ⟨rfl, hw4⟩
      subst w4
      rw [HD.out]
      go_wp2_with fail
      refine (Hc.out _ (Kept.of hbw)).mono ?_
      rintro e w4 ⟨u4, rfl, ho4, hb4⟩
      obtain ⟨WA, wc, ef, _⟩ := ho4.ints.form
      rw [Hwl.out] at ef
      subst ef
      replace hown := hown.below hb4 (Nat.le_refl _)
      replace hB := hB.below hb4 hB.lt
      replace hbw := Below.up hbw hb4
      have hG4 := Nat.lt_of_lt_of_le hG1 hb4.size
      clear hBc0 hBc1 hBc2 hb4
      obtain ⟨a1, R, r, ea, hc10, hrow⟩ := hn.at_ (k := j) (by rw [Hnl.out]; exact hj)
      cases ea
      obtain ⟨R', r', he, hrl, hrm⟩ := hrow.form
      simp only [Value.slice.injEq, true_and] at he
      obtain ⟨rfl, rfl⟩ := he
      have Hall := Lib.hid (show ((rx g.arena.next j).take (rx g.arena.next j).length).filter (keepB g.arena.owner wl j) = (rx g.arena.next j).filter (keepB g.arena.owner wl j) by rw [List.take_length])
      obtain ⟨G, hGw⟩ : ∃ G, w.heap.size + 1 = G := ⟨_, rfl⟩
      have hbG : w.heap.size ≤ G := by omega
      have hG : G < w1.heap.size := by omega
      have hGG : w.heap.size < G := by omega
      have hGw4 : G < w4.heap.size := by omega
      rw [hGw] at hown
      have hob0 : ∀ b, (Value.slice (some ⟨w.heap.size + 1, 0, none⟩) 0 0).ownBlock = some b → b = G ∨ w4.heap.size ≤ b := fun b hb => by simp [Value.ownBlock] at hb; omega
      go_wp2_with fail
      rw [hGw] at hob0
      clear hG1 hG0 hGw
      go_loopw [5, 7] (fun qv i wr => ∃ k : Nat, k ≤ (rx g.arena.next j).length ∧ i = .int .i64 k ∧ OwnInts wr G qv (((rx g.arena.next j).take k).filter (keepB g.arena.owner wl j)) ∧ Chg (fun b => b = G ∨ w4.heap.size ≤ b) w4 wr ∧ ∀ b, qv.ownBlock = some b → b = G ∨ w4.heap.size ≤ b) (fun _ i _ => (rx g.arena.next j).length - (intOf i).toNat)
      case atStart => exact ⟨0, Nat.zero_le _, rfl, by simpa using hown, Chg.refl _ _, by simpa using hob0⟩
      case round =>
        obtain ⟨k, hk, rfl, hown, hch, hob⟩ := hrel
        have hbwr : Below w.heap.size w wr := hbw.trans ⟨hch.os, hch.tape, hch.output, hch.size, fun b hb => hch.block b (by omega) (by omega)⟩
        have hkw : Kept w wr := Kept.of hbwr
        have hwon := ((OI.of ho4).chg hch fun b hb => by have := ho4.lt b hb; omega).ints
        have hBr := (hch.block w.heap.size (by omega) (by omega)).trans hB
        replace hBr : Arr wr w.heap.size _ _ := hBr
        have hrw := hrow.kept hkw
        have hchs := hch.size
        have hbs : G ≤ wr.heap.size := by omega
        have hBc0 := hBr.c0
        have hBc1 := hBr.c1
        have hfl := sure_take_len (f := keepB g.arena.owner wl j) (l := rx g.arena.next j) (k := k)
        by_cases hlt : k < (rx g.arena.next j).length
        · obtain ⟨a2, ea2, hc2⟩ := hrw.at_ hlt
          cases ea2
          obtain ⟨i, hi, hin⟩ := hvn k hlt
          have Hft := Lib.hid (sure_take (f := keepB g.arena.owner wl j) hlt)
          rw [hi] at hc2 Hft
          clear hi
          obtain ⟨a3, ea3, hc3⟩ := (ho.kept hkw).at_ (k := j) hj
          cases ea3
          obtain ⟨a4, ea4, hc4⟩ := hwon.at_ (k := j) (by rw [Hwl.out]; exact hj)
          cases ea4
          obtain ⟨a5, ea5, hc5⟩ := hwon.at_ (k := i) (by rw [Hwl.out]; exact hin)
          cases ea5
          have hc1 := hkw.cell hc10
          have hlt2 : (k : Int) < (rx g.arena.next j).length := by omega
          have hin2 : (i : Int) < g.arena.owner.length := by omega
          by_cases h1 : ix g.arena.owner j = ix wl j
          · have d1 : (ix wl j != ix g.arena.owner j) = false := by simp [h1]
            by_cases h2 : ix wl i = ix wl j
            · have d2 : (ix wl i == ix wl j) = true := by simpa using h2
              rw [show keepB g.arena.owner wl j (i : Int) = true from by unfold keepB; rw [Int.toNat_natCast]; simp [h1, h2], if_pos rfl] at Hft
              clear h1 h2
              go_wp2_with fail
              go_region
              all_goals
                go_wp2_with (at_builtin; refine append_int wr.drew rfl (.tmp 67) (.tmp 69) rfl G u5 _ rfl hown.drew (i : Int) rfl (by omega) hbs ?_; intro v1 w8 ho8 hb8 hg8 hl8)
                exact ⟨⟨k + 1, by omega, by go_num, by rw [Hft.out]; exact ho8, (Chg.drew hch).grown hg8 hob, fun b hb => by
                  rcases hl8 with h | h
                  · rw [h] at hb; exact hob b hb
                  · rw [h] at hb; injection hb with hb; have := hch.size; subst hb; exact .inr (by show _ ≤ wr.heap.size + 1; omega)⟩, by simp [intOf]; omega⟩
            · have d2 : (ix wl i == ix wl j) = false := by simpa using h2
              rw [show keepB g.arena.owner wl j (i : Int) = false from by unfold keepB; rw [Int.toNat_natCast]; simp [h1, h2], if_neg (by simp)] at Hft
              clear h1 h2
              go_wp2_with fail
              go_region
              all_goals
                go_wp2
                exact ⟨⟨k + 1, by omega, by go_num, by rw [Hft.out, List.append_nil]; exact hown.drew, Chg.drew hch, hob⟩, by simp [intOf]; omega⟩
          · have d1 : (ix wl j != ix g.arena.owner j) = true := by simpa using fun h => h1 h.symm
            rw [show keepB g.arena.owner wl j (i : Int) = true from by unfold keepB; rw [Int.toNat_natCast]; simp [h1], if_pos rfl] at Hft
            clear h1
            go_wp2_with fail
            go_region
            all_goals
              go_wp2_with (at_builtin; refine append_int wr.drew rfl (.tmp 67) (.tmp 69) rfl G u5 _ rfl hown.drew (i : Int) rfl (by omega) hbs ?_; intro v1 w8 ho8 hb8 hg8 hl8)
              exact ⟨⟨k + 1, by omega, by go_num, by rw [Hft.out]; exact ho8, (Chg.drew hch).grown hg8 hob, fun b hb => by
                rcases hl8 with h | h
                · rw [h] at hb; exact hob b hb
                · rw [h] at hb; injection hb with hb; have := hch.size; subst hb; exact .inr (by show _ ≤ wr.heap.size + 1; omega)⟩, by simp [intOf]; omega⟩
        · obtain rfl : k = (rx g.arena.next j).length := by omega
          have hlt2 : ¬ ((rx g.arena.next j).length : Int) < (rx g.arena.next j).length := by omega
          have hc1 := hkw.cell hc10
          rw [Hall.out] at hown
          go_wp2
          go_ret
          exact ⟨_, rfl, hown.more hbG, hbwr⟩
end Go.Proofs.Ytmkmghjmfaoobaa
