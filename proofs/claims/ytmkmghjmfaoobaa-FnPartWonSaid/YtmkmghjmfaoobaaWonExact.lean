/- Walks of the reference's l7Won, and of WinnerAt and WonBy on both sides. Condition of l7Won: the game is valid. -/
import Derived.Test.YtmkmghjmfaoobaaL7WinWalks
import Derived.Test.YtmkmghjmfaoobaaWinnersWalks
import Derived.Test.YtmkmghjmfaoobaaPkF
import Derived.Test.YtmkmghjmfaoobaaPkB
import Derived.Test.YtmkmghjmfaoobaaPkD
namespace Go.Proofs.Ytmkmghjmfaoobaa
set_option linter.unusedSimpArgs false
set_option linter.unusedVariables false
open Go.RowKit

theorem l1Flag_any (b : Bool) (w : World) : Calls Try.prog 79 #[.bool b] w fun e w' => e = .returned (.int .i64 (if b = true then 1 else 0)) ∧ w' = w := by
  cases b
  · go_enter Try.func79, Try.ntmps79
    go_wp2
    go_ret
    exact ⟨rfl, rfl⟩
  · go_enter Try.func79, Try.ntmps79
    go_wp2
    go_ret
    exact ⟨rfl, rfl⟩

set_option maxRecDepth 100000 in
set_option maxHeartbeats 4000000 in
theorem l7Won_any (v : Value) (g : ParityD) (w : World) (hv : IsParity w v g) (hok : ParityOk g) :
    Calls Try.prog 45 #[v] w (RetInts w (winnersL (duelP g) g.arena.owner.length)) := by
  obtain ⟨o, n, p, rfl, hbw, hB⟩ := parity_box hv
  obtain ⟨ha, hp⟩ := hv.parts
  obtain ⟨P, pc, rfl, hlp, hmp⟩ := hp.form
  have hle := hok.arena.le
  have Hlen := Lib.hid hok.len
  go_enter Try.func45, Try.ntmps45
  go_wp2_with fail
  generalize w.alloc (.cells #[o, n, .slice P g.prio.length pc] 32) = w0 at *
  have HS := Lib.hid (fun W (hW : Below w0.heap.size w0 W) => (show W.cell? ⟨w.heap.size, 0, none⟩ = some o ∧ W.cell? ⟨w.heap.size, 1, none⟩ = some n ∧ W.cell? ⟨w.heap.size, 2, none⟩ = some (.slice P g.prio.length pc) from ⟨(hB.below hW hB.lt).c0, (hB.below hW hB.lt).c1, (hB.below hW hB.lt).c2⟩))
  have hR0 : Below w0.heap.size w0 w0.drew := ⟨rfl, rfl, rfl, Nat.le_refl _, fun _ _ => rfl⟩
  have Hc1 := Lib.hid (fun W (hW : Below w0.heap.size w0 W) => l7Of_any _ g W (hv.kept (Kept.of (Below.up hbw hW))) hok)
  have Hc2 := Lib.hid (fun W => l7All_any g.prio.length W (by rw [hok.len]; omega))
  have Hc3 := Lib.hid (fun W s u (hs : IsSeven W s g.arena g.prio) (hu : Bools W u (List.replicate g.prio.length true)) => l7Win_any (fullM g.arena.owner.length).length s g.arena g.prio u (fullM g.arena.owner.length) W (Lib.hid List.count_le_length) hs (by unfold fullM; rw [← hok.len]; exact hu) hok.arena (Lib.hid (length_fullM _)) (Lib.hid hok.len) (Lib.hid hok.prio) (Lib.hid (hok.arena.tot g.prio)))
  go_region_held3 (fun W => W.cell? ⟨w.heap.size, 0, none⟩ = some o ∧ W.cell? ⟨w.heap.size, 1, none⟩ = some n ∧ W.cell? ⟨w.heap.size, 2, none⟩ = some (.slice P g.prio.length pc))
    (first | exact HS.out _ hR0 | exact HS.out _ hRf | exact HS.out _ hRa | exact HS.out _ hRw)
    (first | (go_at_call 52; refine (Hc1.out _ hRa).mono ?_; rintro e w3 ⟨u3, rfl, hsv, hb3⟩; have hbl := hba.kept (Kept.of hb3); have hRf := Below.up hRa hb3; have hRl := hRf) | (go_at_call 52; refine (Hc1.out _ hR0).mono ?_; rintro e w3 ⟨u3, rfl, hs3, hb3⟩; have hRf := Below.up hR0 hb3) | (go_at_call 78; refine (Hc2.out _).mono ?_; rintro e w4 ⟨u4, rfl, hb4o, hb4⟩; have hba := hb4o.bools; have hRa := Below.up hRf hb4; have hsv := hs3.kept (Kept.of hb4); have hbl := hba; have hRl := hRa) | (go_at_call 78; refine (Hc2.out _).mono ?_; rintro e w4 ⟨u4, rfl, hb4o, hb4⟩; have hba := hb4o.bools; have hRa := Below.up hR0 hb4) | (go_at_call 55; refine (Hc3.out _ _ _ hsv hbl).mono ?_; rintro e w5 ⟨u5, r, rfl, hr5, HW, hb5⟩; have hRw := Below.up hRl hb5))
  all_goals
    have hr5b := hr5.bools
    have HR : Hid (r = evenW (duelP g) (fullM g.arena.owner.length)) := Lib.hid (by
      have h := HW.out.is_even (n := g.arena.owner.length) (hok.own (length_fullM _)) (length_fullM _)
      unfold evenL at h
      rw [if_pos rfl] at h
      exact h)
    have Hrl : Hid (r.length = g.arena.owner.length) := Lib.hid (by rw [HW.out.len, length_fullM])
    have Hw : Hid (∀ k, k < g.arena.owner.length → ix (winnersL (duelP g) g.arena.owner.length) k = if bx r k = true then 0 else 1) := Lib.hid fun k hk => by rw [ix_winnersL hk, ← HR.out]
    have Hwl := Lib.hid (length_winnersL (duelP g) g.arena.owner.length)
    obtain ⟨VR, xr, rfl, _⟩ := hr5b.form
    have hbw5 := Below.up hbw hRw
    obtain ⟨hown0, hbn⟩ := new_ints w5
    clear HS hR0 Hc1 Hc2 Hc3 HW HR hr5 hRw hRl hRa hRf hbl hsv
    go_wp2_with fail
    generalize w5.alloc (.cells #[] 2) = w6 at *
    generalize winnersL (duelP g) g.arena.owner.length = wl at *
    go_loopw [4, 5] (fun qv i wr => ∃ k : Nat, k ≤ r.length ∧ i = .int .i64 k ∧ OwnInts wr w5.heap.size qv (wl.take k) ∧ Below w5.heap.size w5 wr) (fun _ i _ => r.length - (intOf i).toNat)
    case atStart => exact ⟨0, Nat.zero_le _, rfl, by simpa using hown0, hbn⟩
    case round =>
      obtain ⟨k, hk, rfl, hown, hbr⟩ := hrel
      obtain ⟨QV, qvc, ef, _⟩ := hown.ints.form
      rw [show (wl.take k).length = k by rw [List.length_take, Hwl.out, ← Hrl.out]; omega] at ef
      subst ef
      have hbs := hbr.size
      have hrn : r.length ≤ 256 := by rw [Hrl.out]; exact hle
      by_cases hlt : k < r.length
      · obtain ⟨a1, ea1, hc1⟩ := (hr5b.kept (Kept.of hbr)).at_ hlt
        cases ea1
        have hlt2 : (k : Int) < r.length := by omega
        have Ht := Lib.hid (take_ix (l := wl) (k := k) (by rw [Hwl.out, ← Hrl.out]; exact hlt))
        have Hx := Lib.hid (Hw.out k (by rw [← Hrl.out]; exact hlt))
        have hln : (wl.take k).length ≤ k := List.length_take_le ..
        cases eb : bx r k
        · rw [eb] at hc1 Hx
          clear eb
          go_wp2_with fail
          refine (l1Flag_any false _).mono ?_
          rintro e w7 ⟨rfl, hw7⟩
          subst w7
          go_wp2_with (at_builtin; refine append_int _ rfl (.tmp 20) (.tmp 27) rfl w5.heap.size _ (wl.take k) rfl hown 1 rfl (by omega) hbs ?_; intro v1 w8 ho8 hb8 hg8 hl8)
          exact ⟨⟨k + 1, by omega, by go_num, by rw [Ht.out, Hx.out]; exact ho8, hbr.trans hb8⟩, by simp [intOf]; omega⟩
        · rw [eb] at hc1 Hx
          clear eb
          go_wp2_with fail
          refine (l1Flag_any true _).mono ?_
          rintro e w7 ⟨rfl, hw7⟩
          subst w7
          go_wp2_with (at_builtin; refine append_int _ rfl (.tmp 20) (.tmp 27) rfl w5.heap.size _ (wl.take k) rfl hown 0 rfl (by omega) hbs ?_; intro v1 w8 ho8 hb8 hg8 hl8)
          exact ⟨⟨k + 1, by omega, by go_num, by rw [Ht.out, Hx.out]; exact ho8, hbr.trans hb8⟩, by simp [intOf]; omega⟩
      · have hke : k = r.length := by omega
        have Hall : Hid (wl.take k = wl) := Lib.hid (by rw [hke, Hrl.out, ← Hwl.out, List.take_length])
        have hlt2 : ¬ (k : Int) < r.length := by omega
        clear hke
        rw [Hall.out] at hown
        go_wp2
        go_ret
        exact ⟨_, rfl, hown.more hbw5.size, Below.up hbw5 hbr⟩

/-- Who wins a vertex, -1 where there is none. -/
noncomputable def winAt (g : ParityD) (v : Int) : Int := if parityOkB g && thereB g.arena v then ix (winnersL (duelP g) g.arena.owner.length) v.toNat else -1
theorem there_nat2 {a : ArenaD} {v : Int} (h : thereB a v = true) : ∃ j : Nat, v = (j : Int) ∧ j < a.owner.length := by
  unfold thereB at h
  rw [decide_eq_true_iff] at h
  exact ⟨v.toNat, by omega, by omega⟩

set_option maxRecDepth 100000 in
set_option maxHeartbeats 1000000 in
theorem WinnerAt_any (v : Value) (g : ParityD) (x : Int) (w : World) (hv : IsParity w v g) :
    Calls Try.prog 13 #[v, .int .i64 x] w fun e w' => e = .returned (.int .i64 (winAt g x)) ∧ Below w.heap.size w w' := by
  obtain ⟨o, n, p, rfl, hbw, hB⟩ := parity_box hv
  obtain ⟨ha, hp⟩ := hv.parts
  cases hE : parityOkB g
  · have hres : winAt g x = -1 := by unfold winAt; rw [hE]; rfl
    rw [hres]; clear hres
    go_enter Try.func13, Try.ntmps13
    have hBz := hB.lt
    have hBc0 := hB.c0
    have hBc1 := hB.c1
    have hBc2 := hB.c2
    go_wp2_with fail
    refine (ParityOk_any _ g _ (hv.kept (Kept.of hbw))).mono ?_
    rintro e w1 ⟨rfl, hb1⟩
    clear hBc0 hBc1 hBc2 hBz
    replace hB := hB.below hb1 hB.lt
    replace hbw := Below.up hbw hb1
    have hb1s := hb1.size
    clear hb1
    have hBz := hB.lt
    have hBc0 := hB.c0
    have hBc1 := hB.c1
    have hBc2 := hB.c2
    go_wp2
    go_ret
    exact ⟨rfl, hbw⟩
  · have hok := parityOkB_iff.1 hE
    cases hT : thereB g.arena x
    · have hres : winAt g x = -1 := by unfold winAt; rw [hE, hT]; rfl
      rw [hres]; clear hres
      go_enter Try.func13, Try.ntmps13
      have hBz := hB.lt
      have hBc0 := hB.c0
      have hBc1 := hB.c1
      have hBc2 := hB.c2
      go_wp2_with fail
      refine (ParityOk_any _ g _ (hv.kept (Kept.of hbw))).mono ?_
      rintro e w1 ⟨rfl, hb1⟩
      clear hBc0 hBc1 hBc2 hBz
      replace hB := hB.below hb1 hB.lt
      replace hbw := Below.up hbw hb1
      have hb1s := hb1.size
      clear hb1
      have hBz := hB.lt
      have hBc0 := hB.c0
      have hBc1 := hB.c1
      have hBc2 := hB.c2
      go_wp2_with fail
      refine (hasVertex_any _ g.arena _ _ (ha.kept (Kept.of hbw))).mono ?_
      rintro e w2 ⟨rfl, hb2⟩
      clear hBc0 hBc1 hBc2 hBz
      replace hB := hB.below hb2 hB.lt
      replace hbw := Below.up hbw hb2
      have hb2s := hb2.size
      clear hb2
      have hBz := hB.lt
      have hBc0 := hB.c0
      have hBc1 := hB.c1
      have hBc2 := hB.c2
      go_wp2
      go_ret
      exact ⟨rfl, hbw⟩
    · have hres : winAt g x = ix (winnersL (duelP g) g.arena.owner.length) x.toNat := by unfold winAt; rw [hE, hT]; rfl
      rw [hres]; clear hres
      obtain ⟨j, rfl, hj⟩ := there_nat2 hT
      rw [Int.toNat_natCast]
      have Hwl := Lib.hid (length_winnersL (duelP g) g.arena.owner.length)
      have hj2 : (j : Int) < g.arena.owner.length := by omega
      go_enter Try.func13, Try.ntmps13
      have hBz := hB.lt
      have hBc0 := hB.c0
      have hBc1 := hB.c1
      have hBc2 := hB.c2
      go_wp2_with fail
      refine (ParityOk_any _ g _ (hv.kept (Kept.of hbw))).mono ?_
      rintro e w1 ⟨rfl, hb1⟩
      clear hBc0 hBc1 hBc2 hBz
      replace hB := hB.below hb1 hB.lt
      replace hbw := Below.up hbw hb1
      have hb1s := hb1.size
      clear hb1
      have hBz := hB.lt
      have hBc0 := hB.c0
      have hBc1 := hB.c1
      have hBc2 := hB.c2
      go_wp2_with fail
      refine (hasVertex_any _ g.arena _ _ (ha.kept (Kept.of hbw))).mono ?_
      rintro e w2 ⟨rfl, hb2⟩
      clear hBc0 hBc1 hBc2 hBz
      replace hB := hB.below hb2 hB.lt
      replace hbw := Below.up hbw hb2
      have hb2s := hb2.size
      clear hb2
      have hBz := hB.lt
      have hBc0 := hB.c0
      have hBc1 := hB.c1
      have hBc2 := hB.c2
      go_wp2_with fail
      refine (winners_any _ g _ (hv.kept (Kept.of hbw)) hok).mono ?_
      rintro e w4 ⟨u4, rfl, ho4, hb4⟩
      obtain ⟨A, c, ef, _⟩ := ho4.ints.form
      rw [Hwl.out] at ef
      subst ef
      obtain ⟨a1, ea1, hc1⟩ := ho4.ints.at_ (k := j) (by rw [Hwl.out]; exact hj)
      cases ea1
      clear hBc0 hBc1 hBc2 hBz
      replace hB := hB.below hb4 hB.lt
      replace hbw := Below.up hbw hb4
      have hb4s := hb4.size
      clear hb4
      have hBz := hB.lt
      have hBc0 := hB.c0
      have hBc1 := hB.c1
      have hBc2 := hB.c2
      go_wp2
      go_ret
      exact ⟨rfl, hbw⟩
set_option maxRecDepth 100000 in
set_option maxHeartbeats 1000000 in
theorem specWinnerAt_any (v : Value) (g : ParityD) (x : Int) (w : World) (hv : IsParity w v g) :
    Calls Try.prog 11 #[v, .int .i64 x] w fun e w' => e = .returned (.int .i64 (winAt g x)) ∧ Below w.heap.size w w' := by
  obtain ⟨o, n, p, rfl, hbw, hB⟩ := parity_box hv
  obtain ⟨ha, hp⟩ := hv.parts
  obtain ⟨P, pc, rfl, hlp, hmp⟩ := hp.form
  cases hE : parityOkB g
  · have hres : winAt g x = -1 := by unfold winAt; rw [hE]; rfl
    rw [hres]; clear hres
    go_enter Try.func11, Try.ntmps11
    have hBz := hB.lt
    have hBc0 := hB.c0
    have hBc1 := hB.c1
    have hBc2 := hB.c2
    go_wp2_with fail
    refine (specParityOk_any _ g _ (hv.kept (Kept.of hbw))).mono ?_
    rintro e w1 ⟨rfl, hb1⟩
    clear hBc0 hBc1 hBc2 hBz
    replace hB := hB.below hb1 hB.lt
    replace hbw := Below.up hbw hb1
    have hb1s := hb1.size
    clear hb1
    have hBz := hB.lt
    have hBc0 := hB.c0
    have hBc1 := hB.c1
    have hBc2 := hB.c2
    go_wp2
    go_ret
    exact ⟨rfl, hbw⟩
  · have hok := parityOkB_iff.1 hE
    have hle := hok.arena.le
    have hpo : g.prio.length ≤ 256 := by rw [hok.len]; exact hle
    have hD : decide (0 ≤ x ∧ x ≤ (g.prio.length : Int) - 1) = thereB g.arena x := by
      unfold thereB
      rw [← hok.len]
      exact decide_eq_decide.2 (and_congr_right fun _ => by omega)
    have HD := Lib.hid hD
    clear hD
    cases hT : thereB g.arena x
    · have hres : winAt g x = -1 := by unfold winAt; rw [hE, hT]; rfl
      rw [hT] at HD
      rw [hres]; clear hres
      go_enter Try.func11, Try.ntmps11
      have hBz := hB.lt
      have hBc0 := hB.c0
      have hBc1 := hB.c1
      have hBc2 := hB.c2
      go_wp2_with fail
      refine (specParityOk_any _ g _ (hv.kept (Kept.of hbw))).mono ?_
      rintro e w1 ⟨rfl, hb1⟩
      clear hBc0 hBc1 hBc2 hBz
      replace hB := hB.below hb1 hB.lt
      replace hbw := Below.up hbw hb1
      have hb1s := hb1.size
      clear hb1
      have hBz := hB.lt
      have hBc0 := hB.c0
      have hBc1 := hB.c1
      have hBc2 := hB.c2
      go_wp2_with fail
      refine (l1In_any _ _ _ _).mono ?_
      rintro e w4 ⟨rfl, hw4⟩
      subst w4
      rw [HD.out]
      go_wp2
      go_ret
      exact ⟨rfl, hbw⟩
    · have hres : winAt g x = ix (winnersL (duelP g) g.arena.owner.length) x.toNat := by unfold winAt; rw [hE, hT]; rfl
      rw [hT] at HD
      rw [hres]; clear hres
      obtain ⟨j, rfl, hj⟩ := there_nat2 hT
      rw [Int.toNat_natCast]
      have Hwl := Lib.hid (length_winnersL (duelP g) g.arena.owner.length)
      have hj2 : (j : Int) < g.arena.owner.length := by omega
      go_enter Try.func11, Try.ntmps11
      have hBz := hB.lt
      have hBc0 := hB.c0
      have hBc1 := hB.c1
      have hBc2 := hB.c2
      go_wp2_with fail
      refine (specParityOk_any _ g _ (hv.kept (Kept.of hbw))).mono ?_
      rintro e w1 ⟨rfl, hb1⟩
      clear hBc0 hBc1 hBc2 hBz
      replace hB := hB.below hb1 hB.lt
      replace hbw := Below.up hbw hb1
      have hb1s := hb1.size
      clear hb1
      have hBz := hB.lt
      have hBc0 := hB.c0
      have hBc1 := hB.c1
      have hBc2 := hB.c2
      go_wp2_with fail
      refine (l1In_any _ _ _ _).mono ?_
      rintro e w4 ⟨rfl, hw4⟩
      subst w4
      rw [HD.out]
      go_wp2_with fail
      refine (l7Won_any _ g _ (hv.kept (Kept.of hbw)) hok).mono ?_
      rintro e w4 ⟨u4, rfl, ho4, hb4⟩
      obtain ⟨A, c, ef, _⟩ := ho4.ints.form
      rw [Hwl.out] at ef
      subst ef
      obtain ⟨a1, ea1, hc1⟩ := ho4.ints.at_ (k := j) (by rw [Hwl.out]; exact hj)
      cases ea1
      clear hBc0 hBc1 hBc2 hBz
      replace hB := hB.below hb4 hB.lt
      replace hbw := Below.up hbw hb4
      have hb4s := hb4.size
      clear hb4
      have hBz := hB.lt
      have hBc0 := hB.c0
      have hBc1 := hB.c1
      have hBc2 := hB.c2
      go_wp2
      go_ret
      exact ⟨rfl, hbw⟩

theorem l7Set_any (u : Value) (l : List Int) (who : Int) (w : World) (hu : Ints w u l) (hl : l.length ≤ 1048576) : Calls Try.prog 59 #[u, .int .i64 who] w (RetInts w (places l who)) := by
  obtain ⟨A, c, rfl, hlc, hcm⟩ := hu.form
  obtain ⟨hown0, hbn⟩ := new_ints w
  go_enter Try.func59, Try.ntmps59
  go_wp2
  generalize w.alloc (.cells #[] 2) = w0 at *
  go_loopw [5, 6] (fun v i wr => ∃ k : Nat, k ≤ l.length ∧ i = .int .i64 k ∧ OwnInts wr w.heap.size v (placesTo l who k) ∧ Below w.heap.size w wr) (fun _ i _ => l.length - (intOf i).toNat)
  case atStart => exact ⟨0, Nat.zero_le _, rfl, hown0, hbn⟩
  case round =>
    obtain ⟨k, hk, rfl, hown, hbr⟩ := hrel
    have hbs := hbr.size
    have hlen := placesTo_len l who k
    by_cases hlt : k < l.length
    · obtain ⟨a1, ea1, hc1⟩ := (hu.kept (Kept.of hbr)).at_ hlt
      cases ea1
      have hlt' : (k : Int) < l.length := by omega
      have Hsc := Lib.hid (placesTo_succ l who k)
      by_cases hx : ix l k = who
      · have hd : (ix l k == who) = true := by simpa using hx
        rw [if_pos hx] at Hsc
        clear hx
        go_wp2_with (at_builtin; refine append_int _ rfl (.tmp 20) (.tmp 22) rfl w.heap.size _ (placesTo l who k) rfl hown (k : Int) rfl (by omega) hbs ?_; intro v1 w1 ho1 hb1 hg1 hl1)
        exact ⟨⟨k + 1, by omega, by go_num, by rw [Hsc.out]; exact ho1, hbr.trans hb1⟩, by simp [intOf]; omega⟩
      · have hd : (ix l k == who) = false := by simpa using hx
        rw [if_neg hx, List.append_nil] at Hsc
        clear hx
        go_wp2
        exact ⟨⟨k + 1, by omega, by go_num, by rw [Hsc.out]; exact hown, hbr⟩, by simp [intOf]; omega⟩
    · obtain rfl : k = l.length := by omega
      have hlt' : ¬ (l.length : Int) < l.length := by omega
      go_wp2
      go_ret
      exact ⟨_, rfl, hown, hbr⟩

/-- Which vertices who wins. -/
noncomputable def wonByG (g : ParityD) (who : Int) : List Int := if parityOkB g && playerB who then places (winnersL (duelP g) g.arena.owner.length) who else []
theorem wonByG_len (g : ParityD) (who : Int) : (wonByG g who).length ≤ 1048576 := by
  unfold wonByG
  split
  · rename_i h
    have h1 := placesTo_len (winnersL (duelP g) g.arena.owner.length) who (winnersL (duelP g) g.arena.owner.length).length
    rw [length_winnersL] at h1
    have h2 := (parityOkB_iff.1 (by rw [Bool.and_eq_true] at h; exact h.1)).arena.le
    unfold places
    rw [length_winnersL]
    omega
  · simp
set_option maxRecDepth 100000 in
set_option maxHeartbeats 1000000 in
theorem WonBy_any (v : Value) (g : ParityD) (who : Int) (w : World) (hv : IsParity w v g) :
    Calls Try.prog 25 #[v, .int .i64 who] w (RetInts w (wonByG g who)) := by
  obtain ⟨o, n, p, rfl, hbw, hB⟩ := parity_box hv
  obtain ⟨ha, hp⟩ := hv.parts
  cases hE : parityOkB g
  · have hres : wonByG g who = [] := by unfold wonByG; rw [hE]; rfl
    rw [hres]; clear hres
    go_enter Try.func25, Try.ntmps25
    have hBz := hB.lt
    have hBc0 := hB.c0
    have hBc1 := hB.c1
    have hBc2 := hB.c2
    go_wp2_with fail
    refine (ParityOk_any _ g _ (hv.kept (Kept.of hbw))).mono ?_
    rintro e w1 ⟨rfl, hb1⟩
    clear hBc0 hBc1 hBc2 hBz
    replace hB := hB.below hb1 hB.lt
    replace hbw := Below.up hbw hb1
    have hb1s := hb1.size
    clear hb1
    have hBz := hB.lt
    have hBc0 := hB.c0
    have hBc1 := hB.c1
    have hBc2 := hB.c2
    go_wp2
    go_ret
    exact .mk' (OwnInts.nil _ _) hbw
  · have hok := parityOkB_iff.1 hE
    cases hT : playerB who
    · have hres : wonByG g who = [] := by unfold wonByG; rw [hE, hT]; rfl
      rw [hres]; clear hres
      go_enter Try.func25, Try.ntmps25
      have hBz := hB.lt
      have hBc0 := hB.c0
      have hBc1 := hB.c1
      have hBc2 := hB.c2
      go_wp2_with fail
      refine (ParityOk_any _ g _ (hv.kept (Kept.of hbw))).mono ?_
      rintro e w1 ⟨rfl, hb1⟩
      clear hBc0 hBc1 hBc2 hBz
      replace hB := hB.below hb1 hB.lt
      replace hbw := Below.up hbw hb1
      have hb1s := hb1.size
      clear hb1
      have hBz := hB.lt
      have hBc0 := hB.c0
      have hBc1 := hB.c1
      have hBc2 := hB.c2
      go_wp2_with fail
      refine (same_below (isPlayer_any who _)).mono ?_
      rintro e w2 ⟨rfl, hb2⟩
      clear hBc0 hBc1 hBc2 hBz
      replace hB := hB.below hb2 hB.lt
      replace hbw := Below.up hbw hb2
      have hb2s := hb2.size
      clear hb2
      have hBz := hB.lt
      have hBc0 := hB.c0
      have hBc1 := hB.c1
      have hBc2 := hB.c2
      go_wp2
      go_ret
      exact .mk' (OwnInts.nil _ _) hbw
    · have hle := hok.arena.le
      have hres : regionOf ⟨winnersL (duelP g) g.arena.owner.length, []⟩ who = wonByG g who := by unfold wonByG; rw [hE, hT]; unfold regionOf; rw [if_pos (by simpa using hle)]; rfl
      have Hres := Lib.hid hres
      clear hres
      go_enter Try.func25, Try.ntmps25
      have hBz := hB.lt
      have hBc0 := hB.c0
      have hBc1 := hB.c1
      have hBc2 := hB.c2
      go_wp2_with fail
      refine (ParityOk_any _ g _ (hv.kept (Kept.of hbw))).mono ?_
      rintro e w1 ⟨rfl, hb1⟩
      clear hBc0 hBc1 hBc2 hBz
      replace hB := hB.below hb1 hB.lt
      replace hbw := Below.up hbw hb1
      have hb1s := hb1.size
      clear hb1
      have hBz := hB.lt
      have hBc0 := hB.c0
      have hBc1 := hB.c1
      have hBc2 := hB.c2
      go_wp2_with fail
      refine (same_below (isPlayer_any who _)).mono ?_
      rintro e w2 ⟨rfl, hb2⟩
      clear hBc0 hBc1 hBc2 hBz
      replace hB := hB.below hb2 hB.lt
      replace hbw := Below.up hbw hb2
      have hb2s := hb2.size
      clear hb2
      have hBz := hB.lt
      have hBc0 := hB.c0
      have hBc1 := hB.c1
      have hBc2 := hB.c2
      go_wp2_with fail
      refine (winners_any _ g _ (hv.kept (Kept.of hbw)) hok).mono ?_
      rintro e w4 ⟨u4, rfl, ho4, hb4⟩
      have hbw4 := Below.up hbw hb4
      obtain ⟨A, c, ef, _⟩ := ho4.ints.form
      rw [length_winnersL] at ef
      subst ef
      go_wp2_with fail
      refine (implRegionOf_any _ ⟨winnersL (duelP g) g.arena.owner.length, []⟩ who _ ⟨_, .slice none 0 0, rfl, ho4.ints, Ints.nil _⟩).mono ?_
      rintro e w5 ⟨u5, rfl, ho5, hb5⟩
      rw [Hres.out] at ho5
      go_wp2
      go_ret
      exact .at_ hbw4 ho5 hb5
set_option maxRecDepth 100000 in
set_option maxHeartbeats 1000000 in
theorem specWonBy_any (v : Value) (g : ParityD) (who : Int) (w : World) (hv : IsParity w v g) :
    Calls Try.prog 24 #[v, .int .i64 who] w (RetInts w (wonByG g who)) := by
  obtain ⟨o, n, p, rfl, hbw, hB⟩ := parity_box hv
  obtain ⟨ha, hp⟩ := hv.parts
  cases hE : parityOkB g
  · have hres : wonByG g who = [] := by unfold wonByG; rw [hE]; rfl
    rw [hres]; clear hres
    go_enter Try.func24, Try.ntmps24
    have hBz := hB.lt
    have hBc0 := hB.c0
    have hBc1 := hB.c1
    have hBc2 := hB.c2
    go_wp2_with fail
    refine (specParityOk_any _ g _ (hv.kept (Kept.of hbw))).mono ?_
    rintro e w1 ⟨rfl, hb1⟩
    clear hBc0 hBc1 hBc2 hBz
    replace hB := hB.below hb1 hB.lt
    replace hbw := Below.up hbw hb1
    have hb1s := hb1.size
    clear hb1
    have hBz := hB.lt
    have hBc0 := hB.c0
    have hBc1 := hB.c1
    have hBc2 := hB.c2
    obtain ⟨hn0, hnb⟩ := new_ints w1
    go_wp2
    go_ret
    exact .mk' (hn0.more hbw.size) (Below.up hbw hnb)
  · have hok := parityOkB_iff.1 hE
    have hD : decide (0 ≤ who ∧ who ≤ 1) = playerB who := rfl
    have HD := Lib.hid hD
    clear hD
    cases hT : playerB who
    · have hres : wonByG g who = [] := by unfold wonByG; rw [hE, hT]; rfl
      rw [hT] at HD
      rw [hres]; clear hres
      go_enter Try.func24, Try.ntmps24
      have hBz := hB.lt
      have hBc0 := hB.c0
      have hBc1 := hB.c1
      have hBc2 := hB.c2
      go_wp2_with fail
      refine (specParityOk_any _ g _ (hv.kept (Kept.of hbw))).mono ?_
      rintro e w1 ⟨rfl, hb1⟩
      clear hBc0 hBc1 hBc2 hBz
      replace hB := hB.below hb1 hB.lt
      replace hbw := Below.up hbw hb1
      have hb1s := hb1.size
      clear hb1
      have hBz := hB.lt
      have hBc0 := hB.c0
      have hBc1 := hB.c1
      have hBc2 := hB.c2
      go_wp2_with fail
      refine (l1In_any _ _ _ _).mono ?_
      rintro e w4 ⟨rfl, hw4⟩
      subst w4
      rw [HD.out]
      obtain ⟨hn0, hnb⟩ := new_ints w1
      go_wp2
      go_ret
      exact .mk' (hn0.more hbw.size) (Below.up hbw hnb)
    · have hle := hok.arena.le
      have hres : places (winnersL (duelP g) g.arena.owner.length) who = wonByG g who := by unfold wonByG; rw [hE, hT]; rfl
      have Hres := Lib.hid hres
      rw [hT] at HD
      clear hres
      go_enter Try.func24, Try.ntmps24
      have hBz := hB.lt
      have hBc0 := hB.c0
      have hBc1 := hB.c1
      have hBc2 := hB.c2
      go_wp2_with fail
      refine (specParityOk_any _ g _ (hv.kept (Kept.of hbw))).mono ?_
      rintro e w1 ⟨rfl, hb1⟩
      clear hBc0 hBc1 hBc2 hBz
      replace hB := hB.below hb1 hB.lt
      replace hbw := Below.up hbw hb1
      have hb1s := hb1.size
      clear hb1
      have hBz := hB.lt
      have hBc0 := hB.c0
      have hBc1 := hB.c1
      have hBc2 := hB.c2
      go_wp2_with fail
      refine (l1In_any _ _ _ _).mono ?_
      rintro e w4 ⟨rfl, hw4⟩
      subst w4
      rw [HD.out]
      go_wp2_with fail
      refine (l7Won_any _ g _ (hv.kept (Kept.of hbw)) hok).mono ?_
      rintro e w4 ⟨u4, rfl, ho4, hb4⟩
      have hbw4 := Below.up hbw hb4
      go_wp2_with fail
      refine (l7Set_any _ _ who _ ho4.ints (by rw [length_winnersL]; omega)).mono ?_
      rintro e w5 ⟨u5, rfl, ho5, hb5⟩
      rw [Hres.out] at ho5
      go_wp2
      go_ret
      exact .at_ hbw4 ho5 hb5
end Go.Proofs.Ytmkmghjmfaoobaa
