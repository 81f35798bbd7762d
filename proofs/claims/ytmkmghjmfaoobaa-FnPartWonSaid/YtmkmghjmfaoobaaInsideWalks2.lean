/- The walks of InsideOf, the program's and the reference's. No condition. Printed by gen_inside.py. -/
import Derived.Test.YtmkmghjmfaoobaaPkF
import Derived.Test.YtmkmghjmfaoobaaPkE
import Derived.Test.YtmkmghjmfaoobaaPkB
namespace Go.Proofs.Ytmkmghjmfaoobaa
set_option linter.unusedSimpArgs false
set_option linter.unusedVariables false
open Go.RowKit

theorem arena_boxR {w : World} {v : Value} {a : ArenaD} (hv : IsArena w v a) : ∃ o n, v = .agg #[o, n] ∧ Below w.heap.size w ((w.alloc (.cells #[o, n] 30)).alloc (.cells #[.slice none 0 0, .slice none 0 0] 30)) ∧
    Arr ((w.alloc (.cells #[o, n] 30)).alloc (.cells #[.slice none 0 0, .slice none 0 0] 30)) w.heap.size 30 [o, n] ∧ Arr ((w.alloc (.cells #[o, n] 30)).alloc (.cells #[.slice none 0 0, .slice none 0 0] 30)) (w.heap.size + 1) 30 [.slice none 0 0, .slice none 0 0] := by
  obtain ⟨o, n, rfl, hbw, hB⟩ := arena_open hv
  refine ⟨o, n, rfl, hbw.alloc hbw.size _, hB.alloc _, ?_⟩
  simpa using Arr.new (w.alloc (.cells #[o, n] 30)) 30 [.slice none 0 0, .slice none 0 0]
theorem insOkB_parts {a : ArenaD} {s : List Int} : insOkB a s = (arenaOkB a && (isSetB s a.owner.length && (decide (s ≠ []) && insB a s))) := rfl
theorem insG_bulk (a : ArenaD) (s : List Int) : bulkA (insG a s) ≤ 1048576 := by
  unfold insG
  split
  · rename_i h
    unfold insOkB at h
    simp only [Bool.and_eq_true] at h
    have hok := arenaOkB_iff.1 h.1
    have hs := isSetB_iff.1 h.2.1
    have h1 := hs.length_le
    have h2 := hok.le
    have h3 : sizeR (s.map fun v => rowIn a s v.toNat) ≤ (s.map fun v => rowIn a s v.toNat).length * 16 := offR_mul (fun k hk => by
      rw [List.length_map] at hk
      obtain ⟨j, hj, hjn⟩ := hs.vert k hk
      have h5 : rx (s.map fun v => rowIn a s v.toNat) k = rowIn a s j := by
        have h6 : s[k] = (j : Int) := by rw [← ix_lt hk]; exact hj
        rw [rx_lt (by simpa using hk)]
        simp [h6]
      rw [h5]
      have := rowIn_len (a := a) (s := s) (v := j)
      have := (hok.deg hjn).2
      omega) (Nat.le_refl _)
    rw [List.length_map] at h3
    unfold bulkA insP
    simp only [List.length_map]
    have : s.length * 16 ≤ 256 * 16 := Nat.mul_le_mul_right _ (by omega)
    omega
  · simp [bulkA, sizeR]

set_option maxHeartbeats 1000000 in
theorem l1Place_any (u : Value) (s : List Int) (x : Int) (w : World) (hu : Ints w u s) :
    Calls Try.prog 105 #[u, .int .i64 x] w fun e w' => e = .returned (.int .i64 (idxL s x)) ∧ w' = w := by
  obtain ⟨US, uc, rfl, huc, hum⟩ := hu.form
  obtain ⟨r, hr⟩ : ∃ r, idxL s x = r := ⟨_, rfl⟩
  rw [hr]
  have Hr := Lib.hid hr
  clear hr
  go_enter Try.func105, Try.ntmps105
  go_wp2
  go_loop [5] (fun i => ∃ k : Nat, k ≤ s.length ∧ i = .int .i64 k ∧ Hid (∀ j, j < k → ix s j ≠ x)) (fun i => s.length - (intOf i).toNat)
  case atStart => exact ⟨0, Nat.zero_le _, rfl, Lib.hid (fun j hj => by omega)⟩
  case round =>
    obtain ⟨k, hk, rfl, Hno⟩ := hrel
    by_cases hlt : k < s.length
    · obtain ⟨a1, rfl, hc1⟩ := hu.at_ hlt
      have hlt' : (k : Int) < s.length := by omega
      by_cases e : ix s k = x
      · have hd : (ix s k == x) = true := by simpa using e
        have Hf := Lib.hid (show r = (k : Int) by rw [← Hr.out, idxL_at hlt e Hno.out])
        clear e
        go_wp2
        go_ret
        exact ⟨by rw [Hf.out]; rfl, rfl⟩
      · have hd : (ix s k == x) = false := by simpa using e
        have He := Lib.hid e
        clear e
        go_wp2
        exact ⟨⟨k + 1, by omega, by go_num, Lib.hid (fun j hj => by
          by_cases ej : j = k
          · rw [ej]; exact He.out
          · exact Hno.out j (by omega))⟩, by simp [intOf]; omega⟩
    · obtain rfl : k = s.length := by omega
      have Hf := Lib.hid (show r = -1 by rw [← Hr.out, idxL_none Hno.out])
      go_wp2
      go_ret
      exact ⟨by rw [Hf.out]; rfl, rfl⟩


set_option maxRecDepth 100000 in
set_option maxHeartbeats 8000000 in
theorem specInsideOf_any (v : Value) (a : ArenaD) (u : Value) (s : List Int) (w : World) (hv : IsArena w v a) (hu : Ints w u s) :
    Calls Try.prog 75 #[v, u] w (RetArenaB w (insG a s) (insOkB a s)) := by
  obtain ⟨o, n, rfl, hbw, hB, hR⟩ := arena_boxR hv
  obtain ⟨ho, hn⟩ := hv.parts
  obtain ⟨A, c, rfl, hlc, hcm⟩ := ho.form
  obtain ⟨A', c', rfl, hlc', hcm'⟩ := hn.form
  obtain ⟨US, uc, rfl, huc, hum⟩ := hu.form
  cases hE : arenaOkB a
  · have hres : insOkB a s = false := by rw [insOkB_parts]; rw [hE]; rfl
    have hfix : insG a s = ⟨[], []⟩ := by unfold insG; rw [hres]; rfl
    rw [hfix, hres]; clear hres hfix
    go_enter Try.func75, Try.ntmps75
    have hBz := hB.lt
    have hBc0 := hB.c0
    have hBc1 := hB.c1
    have hRz := hR.lt
    have hRc0 := hR.c0
    have hRc1 := hR.c1
    go_wp2_with fail
    refine (specArenaOk_any _ a _ (hv.kept (Kept.of hbw))).mono ?_
    rintro e w1 ⟨rfl, hb1⟩
    clear hBc0 hBc1 hRc0 hRc1 hBz hRz
    replace hB := hB.below hb1 hB.lt
    replace hR := hR.below hb1 hR.lt
    replace hbw := Below.up hbw hb1
    have hb1s := hb1.size
    clear hb1
    have hBz := hB.lt
    have hBc0 := hB.c0
    have hBc1 := hB.c1
    have hRz := hR.lt
    have hRc0 := hR.c0
    have hRc1 := hR.c1
    have q0 := hR.c0
    have q1 := hR.c1
    have q2 := hR.frozen 0
    have q3 := hR.frozen 1
    go_wp2
    have hR6 := (hR.set_ 0 (.slice none 0 0)).set_ 1 (.slice none 0 0)
    have hbw6 : Below w.heap.size w ((w1.setCell ⟨w.heap.size + 1, 0, none⟩ (.slice none 0 0)).setCell ⟨w.heap.size + 1, 1, none⟩ (.slice none 0 0)) := (hbw.setCell (by simp) _).setCell (by simp) _
    generalize (w1.setCell ⟨w.heap.size + 1, 0, none⟩ (.slice none 0 0)).setCell ⟨w.heap.size + 1, 1, none⟩ (.slice none 0 0) = w6 at *
    have p0 := hR6.c0
    have p1 := hR6.c1
    refine bodyPost_ret (v := .tuple #[.agg #[.slice none 0 0, .slice none 0 0], .bool false]) (by simp [results, Try.results75, go_sem, p0, p1]) rfl ?_
    exact .mk' (OA.none' _ _ _) hbw6
  · have hok := arenaOkB_iff.1 hE
    cases hE2 : isSetB s a.owner.length
    · have hres : insOkB a s = false := by rw [insOkB_parts]; rw [hE, hE2]; rfl
      have hfix : insG a s = ⟨[], []⟩ := by unfold insG; rw [hres]; rfl
      rw [hfix, hres]; clear hres hfix
      go_enter Try.func75, Try.ntmps75
      have hBz := hB.lt
      have hBc0 := hB.c0
      have hBc1 := hB.c1
      have hRz := hR.lt
      have hRc0 := hR.c0
      have hRc1 := hR.c1
      go_wp2_with fail
      refine (specArenaOk_any _ a _ (hv.kept (Kept.of hbw))).mono ?_
      rintro e w1 ⟨rfl, hb1⟩
      clear hBc0 hBc1 hRc0 hRc1 hBz hRz
      replace hB := hB.below hb1 hB.lt
      replace hR := hR.below hb1 hR.lt
      replace hbw := Below.up hbw hb1
      have hb1s := hb1.size
      clear hb1
      have hBz := hB.lt
      have hBc0 := hB.c0
      have hBc1 := hB.c1
      have hRz := hR.lt
      have hRc0 := hR.c0
      have hRc1 := hR.c1
      go_wp2_with fail
      refine (drew_below (l1Set_any _ s (a.owner.length : Int) _ (hu.kept (Kept.of hbw)) (by omega) (by omega))).mono ?_
      rintro e w2 ⟨rfl, hb2⟩
      clear hBc0 hBc1 hRc0 hRc1 hBz hRz
      replace hB := hB.below hb2 hB.lt
      replace hR := hR.below hb2 hR.lt
      replace hbw := Below.up hbw hb2
      have hb2s := hb2.size
      clear hb2
      have hBz := hB.lt
      have hBc0 := hB.c0
      have hBc1 := hB.c1
      have hRz := hR.lt
      have hRc0 := hR.c0
      have hRc1 := hR.c1
      have q0 := hR.c0
      have q1 := hR.c1
      have q2 := hR.frozen 0
      have q3 := hR.frozen 1
      go_wp2
      have hR6 := (hR.set_ 0 (.slice none 0 0)).set_ 1 (.slice none 0 0)
      have hbw6 : Below w.heap.size w ((w2.setCell ⟨w.heap.size + 1, 0, none⟩ (.slice none 0 0)).setCell ⟨w.heap.size + 1, 1, none⟩ (.slice none 0 0)) := (hbw.setCell (by simp) _).setCell (by simp) _
      generalize (w2.setCell ⟨w.heap.size + 1, 0, none⟩ (.slice none 0 0)).setCell ⟨w.heap.size + 1, 1, none⟩ (.slice none 0 0) = w6 at *
      have p0 := hR6.c0
      have p1 := hR6.c1
      refine bodyPost_ret (v := .tuple #[.agg #[.slice none 0 0, .slice none 0 0], .bool false]) (by simp [results, Try.results75, go_sem, p0, p1]) rfl ?_
      exact .mk' (OA.none' _ _ _) hbw6
    · have hset := isSetB_iff.1 hE2
      by_cases hnil : s = []
      · have hres : insOkB a s = false := by rw [insOkB_parts]; rw [hE, hE2, hnil]; rfl
        have hfix : insG a s = ⟨[], []⟩ := by unfold insG; rw [hres]; rfl
        rw [hfix, hres]; clear hres hfix
        have hz2 : ((s.length : Int) == 0) = true := by rw [hnil]; rfl
        clear hnil
        go_enter Try.func75, Try.ntmps75
        have hBz := hB.lt
        have hBc0 := hB.c0
        have hBc1 := hB.c1
        have hRz := hR.lt
        have hRc0 := hR.c0
        have hRc1 := hR.c1
        go_wp2_with fail
        refine (specArenaOk_any _ a _ (hv.kept (Kept.of hbw))).mono ?_
        rintro e w1 ⟨rfl, hb1⟩
        clear hBc0 hBc1 hRc0 hRc1 hBz hRz
        replace hB := hB.below hb1 hB.lt
        replace hR := hR.below hb1 hR.lt
        replace hbw := Below.up hbw hb1
        have hb1s := hb1.size
        clear hb1
        have hBz := hB.lt
        have hBc0 := hB.c0
        have hBc1 := hB.c1
        have hRz := hR.lt
        have hRc0 := hR.c0
        have hRc1 := hR.c1
        go_wp2_with fail
        refine (drew_below (l1Set_any _ s (a.owner.length : Int) _ (hu.kept (Kept.of hbw)) (by omega) (by omega))).mono ?_
        rintro e w2 ⟨rfl, hb2⟩
        clear hBc0 hBc1 hRc0 hRc1 hBz hRz
        replace hB := hB.below hb2 hB.lt
        replace hR := hR.below hb2 hR.lt
        replace hbw := Below.up hbw hb2
        have hb2s := hb2.size
        clear hb2
        have hBz := hB.lt
        have hBc0 := hB.c0
        have hBc1 := hB.c1
        have hRz := hR.lt
        have hRc0 := hR.c0
        have hRc1 := hR.c1
        have q0 := hR.c0
        have q1 := hR.c1
        have q2 := hR.frozen 0
        have q3 := hR.frozen 1
        go_wp2
        have hR6 := (hR.set_ 0 (.slice none 0 0)).set_ 1 (.slice none 0 0)
        have hbw6 : Below w.heap.size w ((w2.setCell ⟨w.heap.size + 1, 0, none⟩ (.slice none 0 0)).setCell ⟨w.heap.size + 1, 1, none⟩ (.slice none 0 0)) := (hbw.setCell (by simp) _).setCell (by simp) _
        generalize (w2.setCell ⟨w.heap.size + 1, 0, none⟩ (.slice none 0 0)).setCell ⟨w.heap.size + 1, 1, none⟩ (.slice none 0 0) = w6 at *
        have p0 := hR6.c0
        have p1 := hR6.c1
        refine bodyPost_ret (v := .tuple #[.agg #[.slice none 0 0, .slice none 0 0], .bool false]) (by simp [results, Try.results75, go_sem, p0, p1]) rfl ?_
        exact .mk' (OA.none' _ _ _) hbw6
      · have hres : insOkB a s = insB a s := by rw [insOkB_parts, hE, hE2]; simp [hnil]
        have hfix : insG a s = insA a s := by unfold insG insA; rw [hres]
        rw [hfix, hres]; clear hres hfix
        have hpos : 0 < s.length := List.length_pos_iff.2 hnil
        have hz2 : ((s.length : Int) == 0) = false := by rw [beq_eq_false_iff_ne]; omega
        clear hnil
        go_enter Try.func75, Try.ntmps75
        have hBz := hB.lt
        have hBc0 := hB.c0
        have hBc1 := hB.c1
        have hRz := hR.lt
        have hRc0 := hR.c0
        have hRc1 := hR.c1
        go_wp2_with fail
        refine (specArenaOk_any _ a _ (hv.kept (Kept.of hbw))).mono ?_
        rintro e w1 ⟨rfl, hb1⟩
        clear hBc0 hBc1 hRc0 hRc1 hBz hRz
        replace hB := hB.below hb1 hB.lt
        replace hR := hR.below hb1 hR.lt
        replace hbw := Below.up hbw hb1
        have hb1s := hb1.size
        clear hb1
        have hBz := hB.lt
        have hBc0 := hB.c0
        have hBc1 := hB.c1
        have hRz := hR.lt
        have hRc0 := hR.c0
        have hRc1 := hR.c1
        go_wp2_with fail
        refine (drew_below (l1Set_any _ s (a.owner.length : Int) _ (hu.kept (Kept.of hbw)) (by omega) (by omega))).mono ?_
        rintro e w2 ⟨rfl, hb2⟩
        clear hBc0 hBc1 hRc0 hRc1 hBz hRz
        replace hB := hB.below hb2 hB.lt
        replace hR := hR.below hb2 hR.lt
        replace hbw := Below.up hbw hb2
        have hb2s := hb2.size
        clear hb2
        have hBz := hB.lt
        have hBc0 := hB.c0
        have hBc1 := hB.c1
        have hRz := hR.lt
        have hRc0 := hR.c0
        have hRc1 := hR.c1
        go_wp2_with fail
        clear hE hE2 hz2
        obtain ⟨wk, rfl⟩ : ∃ wk : World, wk = w2 := ⟨_, rfl⟩
        have hle := hok.le
        have hsl := hset.length_le
        have hs := hset
        have Hlen := Lib.hid hok.len
        clear hBc0 hBc1 hRc0 hRc1 hBz hRz
        have hbn := (Below.refl wk.heap.size wk).alloc (Nat.le_refl _) (.cells #[.slice none 0 0, .slice none 0 0] 30)
        have hBX := hB.lt
        have hRX := hR.lt
        have hBr := hB
        have hRr := hR
        have hbG := hbw
        go_wp2
        obtain ⟨X, hX⟩ : ∃ X, wk.heap.size = X := ⟨_, rfl⟩
        have hgw := Grow.new wk X hX
        rw [hX] at hbn hBX hRX ⊢
        generalize wk.alloc (.cells #[.slice none 0 0, .slice none 0 0] 30) = w4 at *
        go_loopw [7] (fun i wx => ∃ (k : Nat) (ov nv : Value) (vs : List Value), k ≤ s.length ∧ i = .int .i64 k ∧ Grow wx X ov nv vs ((s.take k).map fun v => ix a.owner v.toNat) ((s.take k).map fun v => rowIn a s v.toNat) ∧ Hid (∀ j, j < k → rowIn a s (ix s j).toNat ≠ []) ∧ Below X wk wx) (fun i _ => s.length - (intOf i).toNat)
        case atStart => exact ⟨0, _, _, [], Nat.zero_le _, rfl, hgw, Lib.hid (fun j hj => by omega), hbn⟩
        case round =>
          obtain ⟨k, ov, nv, vs, hk, rfl, hG, Hne, hbX⟩ := hrel
          obtain ⟨wo, rfl⟩ : ∃ wo : World, wo = wr := ⟨_, rfl⟩
          have hwX : X < wo.heap.size := hG.box.lt
          have hbwo : Below w.heap.size w wo := hbw.trans (hbX.mono (by omega))
          have hBo := hBr.below hbX hBX
          have hRo := hRr.below hbX hRX
          by_cases hlt : k < s.length
          · obtain ⟨a1, ea, hc1⟩ := (hu.kept (Kept.of hbwo)).at_ hlt
            subst ea
            obtain ⟨j, hj, hjn⟩ := hs.vert k hlt
            rw [hj] at hc1
            have Hj := Lib.hid hj
            clear hj
            have hjl : (j : Int) < a.owner.length := by omega
            have hjn2 : (j : Int) < a.next.length := by rw [Hlen.out]; omega
            have hlt' : (k : Int) < s.length := by omega
            obtain ⟨a2, R2, q2, ea, hc2, hrow⟩ := (hn.kept (Kept.of hbwo)).at_ (k := j) (by rw [Hlen.out]; exact hjn)
            subst ea
            obtain ⟨a3, ea, hc3⟩ := (ho.kept (Kept.of hbwo)).at_ hjn
            subst ea
            obtain ⟨R', r', he, hrl2, hrm2⟩ := hrow.form
            simp only [Value.slice.injEq, true_and] at he
            obtain ⟨rfl, rfl⟩ := he
            have hvn := hok.vert_next hjn
            have hdeg := hok.deg hjn
            obtain ⟨hown0, hbn0⟩ := new_ints wo
            have Huo := Lib.hid (hu.kept (Kept.of hbwo))
            go_wp2
            generalize wo.alloc (.cells #[] 2) = w5 at *
            go_loopw [8, 9] (fun v i wx => ∃ t : Nat, t ≤ (rx a.next j).length ∧ i = .int .i64 t ∧ OwnInts wx wo.heap.size v (rowTo a s j t) ∧ Below wo.heap.size wo wx) (fun _ i _ => (rx a.next j).length - (intOf i).toNat)
            case atStart => exact ⟨0, Nat.zero_le _, rfl, by simpa [rowTo] using hown0, hbn0⟩
            case round =>
              obtain ⟨t, ht, rfl, hown, hbr⟩ := hrel
              have hbs := hbr.size
              have hBi := hBo.below hbr hBo.lt
              have r1 := hBi.c1
              have r2 := (Kept.of hbr).cell hc1
              have r3 := (Kept.of hbr).cell hc2
              by_cases htl : t < (rx a.next j).length
              · obtain ⟨a4, ea, hc4⟩ := (hrow.kept (Kept.of hbr)).at_ htl
                subst ea
                obtain ⟨i, hi, hin⟩ := hvn t htl
                have Hs := Lib.hid (rowTo_succ (a := a) (s := s) htl)
                rw [hi] at hc4 Hs
                clear hi
                have htl' : (t : Int) < (rx a.next j).length := by omega
                have hlen : (rowTo a s j t).length ≤ 1099511627776 := by have := rowTo_len (a := a) (s := s) (v := j) (t := t); omega
                have H := Lib.hid (fun W (hW : Kept wr W) => l1Place_any (.slice (some a1) s.length uc) s (i : Int) W ((Huo.out.kept (Kept.of hbr)).kept hW))
                generalize idxL s (i : Int) = p at *
                by_cases e : 0 ≤ p
                · have hd : decide (0 ≤ p) = true := decide_eq_true e
                  rw [hd] at Hs
                  go_wp2
                  go_quiet (fail)
                  obtain ⟨n1, rfl⟩ : ∃ n1 : Nat, n1 = nq := ⟨_, rfl⟩
                  go_wp2
                  go_quiet ((go_at_call 105; first | exact Calls.quiet_of_same (H.out _ (Kept.drewN _ _)) | exact quiet_add (quiet_same (H.out _ (Kept.drewN _ _)))))
                  have hown2 : OwnInts (wr.drewN (n1 + nq)) wo.heap.size u8 _ := hown
                  have hbq := below_drewN hbr (n1 + nq)
                  go_wp2_with (at_builtin; refine append_int _ rfl (.tmp 64) (.tmp 66) rfl wo.heap.size u8 _ rfl hown2 p rfl hlen hbs ?_; intro v1 w6 ho1 hb1 hg1 hl1)
                  exact ⟨⟨t + 1, by omega, by go_num, by rw [Hs.out]; exact ho1, hbq.trans hb1⟩, by simp [intOf]; omega⟩
                · have hd : decide (0 ≤ p) = false := decide_eq_false e
                  rw [hd] at Hs
                  go_wp2
                  go_quiet (fail)
                  obtain ⟨n1, rfl⟩ : ∃ n1 : Nat, n1 = nq := ⟨_, rfl⟩
                  go_wp2
                  go_quiet ((go_at_call 105; first | exact Calls.quiet_of_same (H.out _ (Kept.drewN _ _)) | exact quiet_add (quiet_same (H.out _ (Kept.drewN _ _)))))
                  go_wp2
                  exact ⟨⟨t + 1, by omega, by go_num, by rw [Hs.out]; have h9 : OwnInts (wr.drewN (n1 + nq)) _ _ _ := hown; simpa using h9, below_drewN hbr _⟩, by simp [intOf]; omega⟩
              · obtain rfl : t = (rx a.next j).length := by omega
                have hri : rowTo a s j (rx a.next j).length = rowIn a s j := rfl
                rw [hri] at hown
                obtain ⟨NA, nc, e1, _⟩ := hown.ints.form
                subst e1
                go_wp2
                go_quiet (fail)
                replace hbr := below_drewN hbr nq
                replace hown : OwnInts (wr.drewN nq) _ _ _ := hown
                clear r1 r2 r3 hBi hbs
                generalize wr.drewN nq = wi at *
                have hbwi : Below w.heap.size w wi := Below.up hbwo hbr
                have hGi := hG.below hbr
                have hXi := hGi.box
                have hRi := hRo.below hbr hRo.lt
                have hBi := hBo.below hbr hBo.lt
                by_cases hf : rowIn a s j = []
                · rw [hf]
                  have hbad := insB_bad (a := a) hlt (by rw [Hj.out]; exact hf)
                  have Hb2 := Lib.hid hbad
                  have Hi2 := Lib.hid (show insA a s = ⟨[], []⟩ by unfold insA; rw [hbad]; rfl)
                  clear hbad
                  have q0 := hRi.c0
                  have q1 := hRi.c1
                  have q2 := hRi.frozen 0
                  have q3 := hRi.frozen 1
                  go_wp2
                  have hR6 := (hRi.set_ 0 (.slice none 0 0)).set_ 1 (.slice none 0 0)
                  have hbw6 : Below w.heap.size w ((wi.setCell ⟨w.heap.size + 1, 0, none⟩ (.slice none 0 0)).setCell ⟨w.heap.size + 1, 1, none⟩ (.slice none 0 0)) := (hbwi.setCell (by simp) _).setCell (by simp) _
                  generalize (wi.setCell ⟨w.heap.size + 1, 0, none⟩ (.slice none 0 0)).setCell ⟨w.heap.size + 1, 1, none⟩ (.slice none 0 0) = w6 at *
                  have p0 := hR6.c0
                  have p1 := hR6.c1
                  refine bodyPost_ret (v := .tuple #[.agg #[.slice none 0 0, .slice none 0 0], .bool false]) (by simp [results, Try.results75, go_sem, p0, p1]) rfl ?_
                  rw [Hb2.out, Hi2.out]
                  exact .mk' (OA.none' _ _ _) hbw6
                · have hpos : 0 < (rowIn a s j).length := List.length_pos_iff.2 hf
                  have hz : ((rowIn a s j).length == 0) = false := by rw [beq_eq_false_iff_ne]; omega
                  have hz2 : (((rowIn a s j).length : Int) == 0) = false := by rw [beq_eq_false_iff_ne]; omega
                  have hf' : Hid (rowIn a s j ≠ []) := Lib.hid hf
                  clear hf
                  have hNb := hown.lt
                  have hbs := hbr.size
                  have Hs1 := Lib.hid (map_take_succ (fun v => ix a.owner v.toNat) hlt)
                  have Hs2 := Lib.hid (mapr_take_succ (fun v => rowIn a s v.toNat) hlt)
                  rw [Hj.out, Int.toNat_natCast] at Hs1 Hs2
                  have hl1 : Hid (((s.take k).map fun v => ix a.owner v.toNat).length = k) := Lib.hid (by rw [List.length_map, List.length_take]; omega)
                  have hl2 : Hid (((s.take k).map fun v => rowIn a s v.toNat).length = k) := Lib.hid (by rw [List.length_map, List.length_take]; omega)
                  generalize (s.take k).map (fun v => ix a.owner v.toNat) = l1 at *
                  generalize (s.take k).map (fun v => rowIn a s v.toNat) = l2 at *
                  have q0 := hXi.c0
                  have q1 := hBi.c0
                  have q2 := (Kept.of hbr).cell hc3
                  have q9 := (Kept.of hbr).cell hc1
                  have q3 := (hXi.alloc (.cells #[.int .i64 (ix a.owner j)] 2)).c0
                  have hovd : OwnInts wi.drew (X + 1) ov l1 := hGi.own
                  have hwiX : X + 1 ≤ wi.heap.size := hGi.box.lt
                  have hovb := hG.own.lt
                  go_wp2_with fail
                  go_region_law (first | (refine step_append_int wi.drew rfl (.tmp 73) (.tmp 82) rfl (X + 1) ov l1 rfl hovd (ix a.owner j) rfl (by rw [hl1.out]; omega) hwiX ?_; intro v7 w7 ho7 hg7 hd7; obtain ⟨O7, c7, e7, _⟩ := ho7.ints.form; rw [List.length_append, List.length_singleton, hl1.out] at e7; subst e7; have hX7 : Arr w7 X 30 [ov, nv] := Arr.kept' (w := wi.drew) hXi hg7 (fun e => by have := (hovb _ e.symm).1; omega); have q5 := hX7.c0; have q6 := hX7.frozen 0))
                  all_goals
                    clear q0 q1 q2 q3 q5 q6 q9
                    have hg7' : wi.grownBy w7 ov.ownBlock := ⟨hg7.os, hg7.tape, hg7.output, hg7.size, hg7.block⟩
                    have hG8 := hGi.own1 ho7 hg7' hd7
                    have hN8 : OwnInts (w7.setCell ⟨X, 0, none⟩ (.slice O7 (k + 1) c7)) wo.heap.size (.slice NA (rowIn a s j).length nc) (rowIn a s j) := (hown.heap fun b hb => hg7'.block b (hNb b hb).2 fun e => by
                      have h1 := (hNb b hb).1
                      have h2 := (hovb b e.symm).2
                      omega).far (by simpa using hwX) _
                    have hb8 : Below X wk (w7.setCell ⟨X, 0, none⟩ (.slice O7 (k + 1) c7)) := ((hbX.trans (hbr.mono (by omega))).grown hg7' (by omega) fun b hb => by have := (hovb b hb).1; omega).setCell (Nat.le_refl _) _
                    have hs8 : wi.heap.size ≤ (w7.setCell ⟨X, 0, none⟩ (.slice O7 (k + 1) c7)).heap.size := by simpa using hg7.size
                    have hov8 : ∀ b, (Value.slice O7 (k + 1) c7).ownBlock = some b → b < wo.heap.size ∨ wi.heap.size ≤ b := fun b hb => by
                      rcases hd7 with e | e
                      · exact .inl (hovb b (e ▸ hb)).2
                      · rw [e] at hb; simp only [Option.some.injEq] at hb; right; rw [← hb]; exact Nat.le_succ _
                    have hrw8 : ∀ j', j' < l2.length → ∀ b, (vx vs j').ownBlock = some b → b < wo.heap.size := fun j' hj' b hb => (hG.row_lt hj' hb).2
                    generalize w7.setCell ⟨X, 0, none⟩ (.slice O7 (k + 1) c7) = w8 at *
                    have hwX8 := hG8.box.lt
                    have p1 := hG8.box.c1
                    go_wp2_with (at_builtin; refine append_oneH elem_rows w8 rfl (.tmp 86) (.tmp 88) rfl (X + 1) nv _ vs rfl hG8.rows.own (.slice NA (rowIn a s j).length nc) rfl w8.heap.size rfl rfl (by rw [hl2.out]; omega) (by omega) ?_; intro v9 w9 ho9 hg9 hd9; obtain ⟨A9, c9, e9, _⟩ := SlF.of_own ho9; rw [hl2.out] at e9; subst e9; have hX9 : Arr w9 X 30 [.slice O7 (k + 1) c7, nv] := hG8.box.kept' hg9 (fun e => by have := (hG8.rows.own.lt _ e.symm).1; omega); have p5 := hX9.c1; have p6 := hX9.frozen 1)
                    have hG10 := hG8.row1 (row := rowIn a s j) ⟨hN8.more (by omega), fun b hb => (hN8.lt b hb).2⟩ (fun b hb => ⟨fun e => by
                      have h1 := hov8 b e
                      have h2 := hNb b hb
                      omega, fun j' hj' e => by
                      have h1 := hrw8 j' hj' b e
                      have h2 := (hNb b hb).1
                      omega⟩) ho9 hg9
                    have hb10 := (hb8.grown hg9 (by omega) fun b hb => by have := (hG8.rows.own.lt b hb).1; omega).setCell (p := ⟨X, 1, none⟩) (Nat.le_refl _) (.slice A9 (k + 1) c9)
                    refine ⟨⟨k + 1, _, _, _, by omega, by go_num, by rw [Hs1.out, Hs2.out]; exact hG10, Lib.hid (fun j' hj' => ?_), hb10⟩, by simp [intOf]; omega⟩
                    by_cases e : j' = k
                    · rw [e, Hj.out, Int.toNat_natCast]; exact hf'.out
                    · exact Hne.out j' (by omega)
          · obtain rfl : k = s.length := by omega
            rw [List.take_length] at hG
            have hall := insB_all (a := a) (s := s) Hne.out
            have Hb2 := Lib.hid hall
            have Hi2 := Lib.hid (show insA a s = insP a s by unfold insA; rw [hall]; rfl)
            clear hall
            obtain ⟨OA, oc, NA, nc, e1, e2⟩ := hG.forms
            rw [List.length_map] at e1 e2
            subst e1
            subst e2
            have hXc0 := hG.box.c0
            have hXc1 := hG.box.c1
            have q0 := hRo.c0
            have q1 := hRo.c1
            have q2 := hRo.frozen 0
            have q3 := hRo.frozen 1
            go_wp2
            have hR6 := (hRo.set_ 0 (.slice OA s.length oc)).set_ 1 (.slice NA s.length nc)
            have hbw6 : Below w.heap.size w ((wo.setCell ⟨w.heap.size + 1, 0, none⟩ (.slice OA s.length oc)).setCell ⟨w.heap.size + 1, 1, none⟩ (.slice NA s.length nc)) := (hbwo.setCell (by simp) _).setCell (by simp) _
            have hcb : ∀ b, X ≤ b → ((wo.setCell ⟨w.heap.size + 1, 0, none⟩ (.slice OA s.length oc)).setCell ⟨w.heap.size + 1, 1, none⟩ (.slice NA s.length nc)).heap[b]? = wo.heap[b]? := fun b hb => by
              rw [Below.heap_setCell _ _ _ _ (by simp; omega), Below.heap_setCell _ _ _ _ (by simp; omega)]
            have hsz : ((wo.setCell ⟨w.heap.size + 1, 0, none⟩ (.slice OA s.length oc)).setCell ⟨w.heap.size + 1, 1, none⟩ (.slice NA s.length nc)).heap.size = wo.heap.size := by simp
            have hoa := (hG.arena (Nat.le_refl X)).heapFrom hcb
            generalize (wo.setCell ⟨w.heap.size + 1, 0, none⟩ (.slice OA s.length oc)).setCell ⟨w.heap.size + 1, 1, none⟩ (.slice NA s.length nc) = w6 at *
            have p0 := hR6.c0
            have p1 := hR6.c1
            refine bodyPost_ret (v := .tuple #[.agg #[.slice OA s.length oc, .slice NA s.length nc], .bool true]) (by simp [results, Try.results75, go_sem, p0, p1]) rfl ?_
            rw [Hb2.out, Hi2.out]
            exact .mk' (hoa.mono (by omega) (by omega)) hbw6

end Go.Proofs.Ytmkmghjmfaoobaa
