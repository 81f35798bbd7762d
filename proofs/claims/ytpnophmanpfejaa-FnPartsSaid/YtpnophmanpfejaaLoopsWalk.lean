/- The walk of loopsIn. Conditions: the rows are sets of vertices. -/
import Derived.Test.YtpnophmanpfejaaLoopsVisit
import Derived.Test.YtpnophmanpfejaaLoopsBack
import Derived.Test.YtpnophmanpfejaaLoopsFirst
import Derived.Test.YtpnophmanpfejaaLoopsAgain
import Derived.Test.YtpnophmanpfejaaLoopsSecond
import Derived.Test.YtpnophmanpfejaaLoopsSort
import Derived.Test.YtpnophmanpfejaaSort
import Derived.Laws.EntriesVeiled
namespace Go.Proofs.Ytpnophmanpfejaa
set_option linter.unusedSimpArgs false
set_option linter.unusedVariables false
open Go.RowKit
set_option maxRecDepth 100000 in
set_option maxHeartbeats 2000000 in
theorem loopsIn_any (u mv : Value) (rows : List (List Int)) (m : List Bool) (w : World) (hr : Rows w u rows) (hm : Bools w mv m) (hml : m.length = rows.length) (hn : rows.length ≤ 1024) (hset : ∀ k, k < rows.length → IsSet (rx rows k) rows.length) :
    Calls Try.prog 147 #[u, mv] w (RetRows w (loopsL (EdgeM rows m) (markedL m))) := by
  obtain ⟨A, c, rfl, hlc, hcm⟩ := hr.form
  obtain ⟨MA, mc, rfl, hlm, hmc⟩ := hm.form
  have Hml := Lib.hid hml
  rw [hml] at hm hlm ⊢
  clear hml
  have hmk := make_one elem_rows rows.length (by omega)
  have hbw := (Below.refl w.heap.size w).alloc (Nat.le_refl _) (.cells #[.slice MA rows.length mc] 81)
  have hB := Arr.new w 81 [.slice MA rows.length mc]
  have hBc0 := Arr.c0 hB
  go_enter Try.func147, Try.ntmps147
  go_wp2_with fail
  clear hmk hBc0
  have hsz : (w.alloc (.cells #[.slice MA rows.length mc] 81)).heap.size = w.heap.size + 1 := by simp
  have hM := Arr.new (w.alloc (.cells #[.slice MA rows.length mc] 81)) 22 (zeros (.slice none 0 0) rows.length)
  rw [hsz] at hM
  have hbz := hbw.alloc hbw.size (.cells (zeros (.slice none 0 0) rows.length).toArray 22)
  have hB2 := Arr.alloc hB (.cells (zeros (.slice none 0 0) rows.length).toArray 22)
  have hsz2 : ((w.alloc (.cells #[.slice MA rows.length mc] 81)).alloc (.cells (zeros (.slice none 0 0) rows.length).toArray 22)).heap.size = w.heap.size + 2 := by simp
  generalize (w.alloc (.cells #[.slice MA rows.length mc] 81)).alloc (.cells (zeros (.slice none 0 0) rows.length).toArray 22) = w0 at *
  have hr0 := RowsV.made (B := w.heap.size + 1) (C := w0.heap.size) hM (Nat.le_refl _) (by omega) (by omega)
  rw [← backAt_zero rows (bx m)] at hr0
  clear hM hsz hB hbw hsz2
  go_loopw [23] (fun i wr => ∃ (k : Nat) (vs : List Value), k ≤ rows.length ∧ i = .int .i64 k ∧ RowsV wr (w.heap.size + 1) wr.heap.size (.slice (some ⟨w.heap.size + 1, 0, none⟩) rows.length rows.length) vs (backAt rows (bx m) rows.length k 0) ∧ Arr wr w.heap.size 81 [.slice MA rows.length mc] ∧ Below w.heap.size w wr) (fun i _ => rows.length - (intOf i).toNat)
  case atStart => exact ⟨0, _, Nat.zero_le _, rfl, hr0, hB2, hbz⟩
  case round =>
    obtain ⟨k, vs, hk, rfl, hrw, hbx, hbw⟩ := hrel
    obtain ⟨wo, rfl⟩ : ∃ wo : World, wo = wr := ⟨_, rfl⟩
    by_cases hlt : k < rows.length
    · obtain ⟨a2, R, r, ea, hc2, hrow⟩ := (hr.kept (Kept.refl w)).at_ (k := k) hlt
      subst ea
      have hc2' := (Kept.of hbw).cell hc2
      obtain ⟨R', r', he, hrl, hrm⟩ := hrow.form
      simp only [Value.slice.injEq, true_and] at he
      obtain ⟨rfl, rfl⟩ := he
      have Hset := Lib.hid (hset k hlt)
      have hvn := fun t ht => (hset k hlt).vert t ht
      have hrl1 : (rx rows k).length ≤ rows.length := (hset k hlt).length_le
      clear hc2
      go_wp2
      go_loopw [30] (fun i wr => ∃ (t : Nat) (vs : List Value), t ≤ (rx rows k).length ∧ i = .int .i64 t ∧ RowsV wr (w.heap.size + 1) wr.heap.size (.slice (some ⟨w.heap.size + 1, 0, none⟩) rows.length rows.length) vs (backAt rows (bx m) rows.length k t) ∧ Arr wr w.heap.size 81 [.slice MA rows.length mc] ∧ Below w.heap.size w wr) (fun i _ => (rx rows k).length - (intOf i).toNat)
      case atStart => exact ⟨0, vs, Nat.zero_le _, rfl, hrw, hbx, hbw⟩
      case round =>
        obtain ⟨t, vs, ht, rfl, hrw, hbx, hbr⟩ := hrel
        have hbs := hbr.size
        by_cases htl : t < (rx rows k).length
        · obtain ⟨a4, rfl, hc4⟩ := (hrow.kept (Kept.of hbr)).at_ htl
          obtain ⟨j, hj, hjn⟩ := hvn t htl
          rw [hj] at hc4
          have hx0 := Arr.c0 hbx
          obtain ⟨am, rfl, hm1⟩ := (hm.kept (Kept.of hbr)).at_ (k := k) (by rw [Hml.out]; exact hlt)
          obtain ⟨am', ham, hm2⟩ := (hm.kept (Kept.of hbr)).at_ (k := j) (by rw [Hml.out]; exact hjn)
          injection ham with ham
          subst ham
          have hkn' : (k : Int) < rows.length := by omega
          have hjn' : (j : Int) < rows.length := by omega
          cases ek : bx m k
          · rw [ek] at hm1
            have Hstep := Lib.hid (backAt_skip (p := bx m) (n := rows.length) htl hj (by rw [ek]; rfl))
            clear hj
            go_wp2
            rw [Hstep.out] at hrw
            exact ⟨⟨t + 1, vs, by omega, by go_num, hrw, hbx, hbr⟩, by simp [intOf]; omega⟩
          rw [ek] at hm1
          cases ej : bx m j
          · rw [ej] at hm2
            have Hstep := Lib.hid (backAt_skip (p := bx m) (n := rows.length) htl hj (by rw [ek, ej]; rfl))
            clear hj
            go_wp2
            rw [Hstep.out] at hrw
            exact ⟨⟨t + 1, vs, by omega, by go_num, hrw, hbx, hbr⟩, by simp [intOf]; omega⟩
          rw [ej] at hm2
          have Hstep := Lib.hid (backAt_set htl hj hjn Hset.out ek ej)
          clear hj
          have hro := hrw.own
          rw [length_backAt] at hro
          have hcG := hro.cellAt j (by omega)
          have hvl : vs.length = rows.length := by rw [hrw.len, length_backAt]
          have hvx : vs[j]? = some (vx vs j) := by rw [List.getElem?_eq_getElem (by omega), ← vx_lt (by omega)]
          rw [hvx] at hcG
          clear hvl
          have hri := (hrw.row j (by rw [length_backAt]; exact hjn))
          have hli := backAt_len (next := rows) (p := bx m) (k := k) (t := t) hjn
          obtain ⟨Y, yc, ey, hyc, hym⟩ := hri.ints.form
          rw [ey] at hcG hri hvx
          have Hvx := Lib.hid hvx
          clear hvx
          have Hown := Lib.hid hro
          have HY := Lib.hid ey
          clear hro ey
          have hbs1 : w.heap.size + 1 ≤ wr.heap.size := Arr.lt hbx
          go_wp2_with (at_builtin; refine append_int _ rfl (.tmp 49) (.tmp 51) rfl (w.heap.size + 1) _ _ rfl hri.1 (k : Int) rfl (by omega) hbs1 ?_; intro v1 w3 ho1 hb1 hg1 hl1; obtain ⟨Y1, y1, rfl, _⟩ := ho1.ints.form; have hq3 := (owns_heap (w' := w3) Hown.out fun b hb => hg1.block b (Hown.out.lt b hb).2 fun e => owns_ne Hown.out hri.1 row_type_ne hb e.symm); have hf3 := hq3.frozenAt j; have hc3 := hq3.cellAt j (by omega); rw [Hvx.out] at hc3; clear hq3)
          have hgr := RowsV.grow (C' := w3.heap.size) hrw (length_backAt _ _ _ _ _) (by rw [length_backAt]; exact hjn) (by rw [HY.out]; exact hg1) ho1 (by rw [HY.out]; exact hl1.imp id fun e => ⟨_, e, by omega⟩) (by have := hg1.size; omega) (Nat.le_refl _)
          rw [Hstep.out] at hgr
          exact ⟨⟨t + 1, _, by omega, by go_num, by simpa using hgr, Arr.far (hbx.kept' hg1 fun e => by have := (hri.1.lt _ e.symm).1; omega) (by simp) _, (hbr.trans (hb1.mono (Nat.le_succ _))).setCell (by simp) _⟩, by simp [intOf]; omega⟩
        · obtain rfl : t = (rx rows k).length := by omega
          rw [backAt_next (Nat.le_refl _)] at hrw
          go_wp2
          exact ⟨⟨k + 1, vs, by omega, by go_num, hrw, hbx, hbr⟩, by simp [intOf]; omega⟩
    · obtain rfl : k = rows.length := by omega
      have hrows := hrw.rows
      have hws := Arr.lt hbx
      have hmk2 := make_one elem_bool rows.length (by omega)
      have hTV := Arr.new ((((wo.alloc (.cells (zeros (.bool false) rows.length).toArray 4)).alloc (.cells #[.slice (some ⟨wo.heap.size, 0, none⟩) rows.length rows.length] 81)).alloc (.cells #[] 2)).alloc (.cells #[.slice (some ⟨wo.heap.size + 1 + 1, 0, none⟩) 0 0] 22)) 123 [.nilFunc]
      have e4 : ((((wo.alloc (.cells (zeros (.bool false) rows.length).toArray 4)).alloc (.cells #[.slice (some ⟨wo.heap.size, 0, none⟩) rows.length rows.length] 81)).alloc (.cells #[] 2)).alloc (.cells #[.slice (some ⟨wo.heap.size + 1 + 1, 0, none⟩) 0 0] 22)).heap.size = wo.heap.size + 1 + 1 + 1 + 1 := by simp
      rw [e4] at hTV
      have q0 := Arr.c0 hTV
      have q1 := Arr.frozen hTV 0
      go_wp2_with fail
      try (rw [Go.run_store_func]; go_wp2_with fail)
      clear q0 q1 e4 hTV hmk2
      obtain ⟨hvs0, hbf, hVB⟩ := VS.first wo rows.length w.heap.size
      generalize (((((wo.alloc (.cells (zeros (.bool false) rows.length).toArray 4)).alloc (.cells #[.slice (some ⟨wo.heap.size, 0, none⟩) rows.length rows.length] 81)).alloc (.cells #[] 2)).alloc (.cells #[.slice (some ⟨wo.heap.size + 1 + 1, 0, none⟩) 0 0] 22)).alloc (.cells #[.func (.func 160) #[] #[.pointer (some ⟨wo.heap.size + 1, 0, none⟩), .pointer (some ⟨w.heap.size, 0, none⟩), .pointer (some ⟨wo.heap.size + 1 + 1 + 1 + 1, 0, none⟩)]] 123)) = w5 at *
      have Hcap := Lib.hid hn
      go_loopw [63] (fun i wr => ∃ (k : Nat) (Lf : List Nat) (dm : List Bool) (ov : Value), k ≤ rows.length ∧ i = .int .i64 k ∧ Hid (Founds (fun a b => (b : Int) ∈ rx rows a ∧ bx m b = true) Lf) ∧ Hid (dm.length = rows.length) ∧ Hid (∀ x, bx dm x = true ↔ x ∈ Lf) ∧ Hid (Lf.length + dm.count false = rows.length) ∧ Hid (∀ x, x < k → bx m x = true → x ∈ Lf) ∧ Hid (∀ x ∈ Lf, bx m x = true) ∧ VS wr wo.heap.size wo.heap.size (wo.heap.size + 1) w.heap.size (wo.heap.size + 1 + 1 + 1 + 1) (wo.heap.size + 1 + 1 + 1) dm ov (castL Lf) ∧ Below wo.heap.size wo wr) (fun i _ => rows.length - (intOf i).toNat)
      case atStart => exact ⟨0, [], _, _, Nat.zero_le _, rfl, Lib.hid (Founds.nil _), Lib.hid (by simp), Lib.hid fun x => (by by_cases h : x < rows.length <;> simp [bx, h]), Lib.hid (by simp), Lib.hid fun x h => (by omega), Lib.hid fun x h => (by cases h), hvs0, hbf⟩
      case round =>
        obtain ⟨k, Lf, dm, ov, hk, rfl, HF, Hdl, Hdm, Hcn, Hall, Hmk, hvs, hbr⟩ := hrel
        by_cases hlt : k < rows.length
        · have hbw2 : Below w.heap.size w wr := hbw.trans (hbr.mono hbw.size)
          obtain ⟨am, rfl, hm1⟩ := (hm.kept (Kept.of hbw2)).at_ (k := k) (by rw [Hml.out]; exact hlt)
          have hx0 := Arr.c0 (Arr.below hbx hbr hws)
          have p0 := Arr.c0 hvs.td
          have p1 := hvs.dn.cell (k := k) (by rw [Hdl.out]; exact hlt)
          have p2 := Arr.c0 hvs.tv
          have hkl : (k : Int) < dm.length := by rw [Hdl.out]; omega
          have hkl' : (k : Int) < rows.length := by omega
          cases em : bx m k
          · rw [em] at hm1
            have Hem := Lib.hid em
            clear em
            go_wp2
            exact ⟨⟨k + 1, Lf, dm, ov, by omega, by go_num, HF, Hdl, Hdm, Hcn, Lib.hid fun x hx hxm => (by
              by_cases e : x = k
              · subst e; rw [Hem.out] at hxm; cases hxm
              · exact Hall.out x (by omega) hxm), Hmk, hvs, hbr⟩, by simp [intOf]; omega⟩
          have Hem := Lib.hid em
          rw [em] at hm1
          clear em
          cases ed : bx dm k
          rotate_left
          · rw [ed] at p1
            have Hed := Lib.hid ed
            clear ed
            go_wp2
            exact ⟨⟨k + 1, Lf, dm, ov, by omega, by go_num, HF, Hdl, Hdm, Hcn, Lib.hid fun x hx hxm => (by
              by_cases e : x = k
              · subst e; exact (Hdm.out x).1 Hed.out
              · exact Hall.out x (by omega) hxm), Hmk, hvs, hbr⟩, by simp [intOf]; omega⟩
          rw [ed] at p1
          have Hed := Lib.hid ed
          clear ed
          go_wp2_with fail
          refine (visit2_any (dm.count false) _ rows _ m wo.heap.size wo.heap.size (wo.heap.size + 1) w.heap.size (wo.heap.size + 1 + 1 + 1 + 1) (wo.heap.size + 1 + 1 + 1) k dm ov (castL Lf) w wr hr hm hbw2 hbw.size (Arr.below hbx hbr hws) hws hVB hvs Hml.out Hdl.out Hcap.out (fun a ha t ht => (hset a ha).vert t ht) (fun a ha => Nat.le_trans (hset a ha).length_le (by omega)) hlt Hed.out (Nat.le_refl _) (by have := Hcn.out; have := Hcap.out; simp; omega)).mono ?_
          rintro _ w3 ⟨rfl, hV⟩
          obtain ⟨C2, dm2, ov2, hF2, hdl2, hdm2, hcn2, hvs3, hb3, ht3⟩ := hV.out
          clear ht3
          have HF2 := Lib.hid hF2
          have Hdl2 := Lib.hid hdl2
          have Hdm2 := Lib.hid hdm2
          have Hcn2 := Lib.hid hcn2
          clear hF2 hdl2 hdm2 hcn2 hV
          go_wp2
          have e : (fun x => bx dm x = true) = fun x => x ∈ Lf := funext fun x => propext (Hdm.out x)
          refine ⟨⟨k + 1, Lf ++ C2, dm2, ov2, by omega, by go_num, Lib.hid (HF.out.more (e ▸ HF2.out)), Lib.hid (Hdl2.out.trans Hdl.out), Lib.hid fun x => (by rw [Hdm2.out, Hdm.out, List.mem_append]), Lib.hid (by have := Hcn2.out; have := Hcn.out; rw [List.length_append]; omega), Lib.hid fun x hx hxm => ?_, Lib.hid fun x hx => ?_, by rw [castL_append]; exact hvs3, hbr.trans hb3⟩, by simp [intOf]; omega⟩
          · by_cases e2 : x = k
            · subst e2
              obtain ⟨C', e3⟩ := HF2.out.last
              rw [e3]; simp
            · exact List.mem_append_left _ (Hall.out x (by omega) hxm)
          · rcases List.mem_append.1 hx with hx | hx
            · exact Hmk.out x hx
            · cases HF2.out.reach x hx with
              | refl => exact Hem.out
              | tail _ s => exact s.1.2
        · obtain rfl : k = rows.length := by omega
          obtain ⟨wq, rfl⟩ : ∃ wq : World, wq = wr := ⟨_, rfl⟩
          have hmk3 := make_one elem_bool rows.length (by omega)
          have hTD1 := Arr.alloc hvs.td (.cells (zeros (.bool false) rows.length).toArray 4)
          have p0 := Arr.c0 hTD1
          have p1 := Arr.frozen hTD1 0
          obtain ⟨OA, oc, hov, _⟩ := hvs.own.ints.form
          rw [length_castL] at hov
          subst hov
          have hTO1 : Arr (((wq.alloc (.cells (zeros (.bool false) rows.length).toArray 4)).setCell ⟨wo.heap.size + 1, 0, none⟩ (.slice (some ⟨wq.heap.size, 0, none⟩) rows.length rows.length)).alloc (.cells #[] 22)) (wo.heap.size + 1 + 1 + 1) 22 [.slice OA Lf.length oc] := Arr.alloc (Arr.far (Arr.alloc hvs.to _) (by show wo.heap.size + 1 + 1 + 1 ≠ wo.heap.size + 1; omega) _) _
          have p2 := Arr.c0 hTO1
          obtain ⟨h26, hb6⟩ := VS2.first hvs hVB rows.length
          have hLf : Lf.length ≤ 1024 := by have := Hcn.out; have := Hcap.out; omega
          have HS0 := Lib.hid (Second.start rows m Lf rows.length)
          have HFE := Lib.hid (first_eq Hmk.out HF.out)
          have Hbe := Lib.hid (back_eq (n := rows.length) Hml.out rfl hset Hmk.out Hall.out)
          have HL : Hid (∀ x, x < m.length → bx m x = true → x ∈ Lf) := Lib.hid fun x h1 h2 => Hall.out x (by have := Hml.out; omega) h2
          clear HF Hcn Hall Hdm Hdl
          go_wp2_with fail
          clear p0 p1 p2 hTD1 hTO1 hmk3 hvs
          have hbr6 : Below wo.heap.size wo (((wq.alloc (.cells (zeros (.bool false) rows.length).toArray 4)).setCell ⟨wo.heap.size + 1, 0, none⟩ (.slice (some ⟨wq.heap.size, 0, none⟩) rows.length rows.length)).alloc (.cells #[] 22)) := hbr.trans hb6
          clear hb6
          generalize (((wq.alloc (.cells (zeros (.bool false) rows.length).toArray 4)).setCell ⟨wo.heap.size + 1, 0, none⟩ (.slice (some ⟨wq.heap.size, 0, none⟩) rows.length rows.length)).alloc (.cells #[] 22)) = w6 at *
          go_loopw [14, 15] (fun pv i wx => ∃ (A : List Nat) (dm2 : List Bool) (vs2 : List Value) (out : List (List Int)) (C : Nat) (x : Int), i = .int .i64 x ∧ -1 ≤ x ∧ x ≤ 1024 ∧ Hid (x + 1 = A.length) ∧ Hid (Second rows m Lf A dm2 out) ∧ Hid (dm2.length = rows.length) ∧ VS2 wx wo.heap.size wq.heap.size (wo.heap.size + 1) w.heap.size (wo.heap.size + 1 + 1 + 1 + 1) (wo.heap.size + 1 + 1 + 1) C dm2 (.slice OA Lf.length oc) (castL Lf) pv vs2 out ∧ Below wo.heap.size wo wx ∧ Hid (pv.ownBlock ≠ none)) (fun _ i _ => (intOf i + 1).toNat)
          case atStart => exact ⟨Lf, _, _, _, _, (Lf.length : Int) - 1, rfl, by omega, by omega, Lib.hid (by omega), HS0, Lib.hid (by simp), h26, hbr6, Lib.hid (by simp [Value.ownBlock])⟩
          case round =>
            clear h26 hbr6 HS0
            obtain ⟨A, dm2, vs2, out, C, x, rfl, hx0, hx1, HX, HS, Hd2, h2, hbx2, Hnn⟩ := hrel
            by_cases h0 : A = []
            · subst h0
              obtain rfl : x = -1 := by have := HX.out; simp at this; omega
              have hol : out.length ≤ 1024 := by have := HS.out.cap; have := Hd2.out; omega
              have hrows2 := h2.rows
              have hwq : wo.heap.size < wq.heap.size := by have := h2.lt; omega
              have hCt := h2.top
              clear h2
              go_wp2_with fail
              refine (SortRows_any (wq.heap.size + 1) C _ vs2 out _ hrows2 Hnn.out (by omega)).mono ?_
              rintro _ w7 ⟨rfl, vs3, mm, hp, hpw, hR, hg⟩
              have hmm := HS.out.finish HL.out Hmk.out hp hpw
              subst hmm
              have hbz := hbx2.trans ((Below.refl wo.heap.size _).grown hg hbx2.size fun b hb => by have := (hrows2.own.lt b hb).1; omega)
              have hsz := hg.size
              have hwz := hbw.size
              go_wp2
              go_ret
              exact .mk' ⟨vs3, hR.mono (by omega) (by omega)⟩ (hbw.trans (hbz.mono hwz))
            · obtain ⟨A', v, rfl⟩ : ∃ A' v, A = A' ++ [v] := ⟨A.dropLast, A.getLast h0, (List.dropLast_concat_getLast h0).symm⟩
              obtain rfl : x = (A'.length : Int) := by have := HX.out; simp at this; omega
              obtain ⟨hAl, hAv⟩ := HS.out.at_
              have hvm := Hmk.out v HS.out.mem
              have hvn : v < rows.length := by have := bx_lt_of hvm; have := Hml.out; omega
              have hvd : v < dm2.length := by have := Hd2.out; omega
              obtain ⟨aO, rfl, hcO⟩ := h2.own.ints.at_ (k := A'.length) (by simpa using hAl)
              rw [hAv] at hcO
              have p0 := Arr.c0 h2.td
              have p1 := h2.dn.cell hvd
              have p2 := Arr.c0 h2.to
              have hvl : (v : Int) < dm2.length := by omega
              have hvl2 : (v : Int) < rows.length := by omega
              have hAl2 : (A'.length : Int) < Lf.length := by omega
              have HXv := Lib.hid hvm
              clear hvm hAv
              cases ed : bx dm2 v
              rotate_left
              · rw [ed] at p1
                have Hed := Lib.hid ed
                clear ed
                go_wp2
                exact ⟨⟨A', dm2, vs2, out, C, (A'.length : Int) - 1, by go_num, by omega, by omega, Lib.hid (by omega), Lib.hid (HS.out.skip Hed.out), Hd2, h2, hbx2, Hnn⟩, by simp [intOf]⟩
              rw [ed] at p1
              have Hed := Lib.hid ed
              clear ed
              obtain ⟨hvs7, hVB7, h27, hb7⟩ := h2.part
              have hCt := h2.top
              have p3 := Arr.c0 hvs7.tv
              have hbx7 := hbx2.trans (hb7.mono hbx2.size)
              have hcall := visit3_any (dm2.count false) _ (backL rows (bx m) rows.length) _ m wo.heap.size wq.heap.size (wo.heap.size + 1) w.heap.size (wo.heap.size + 1 + 1 + 1 + 1) (wr.heap.size + 1) v dm2 _ [] wo _ hrows (hm.kept (Kept.of hbw)) hbx7 (Nat.le_refl _) (Arr.below hbx hbx7 hws) hws hVB7 hvs7 (by rw [Hml.out, length_backL]) (by rw [Hd2.out, length_backL]) (by rw [length_backL]; exact Hcap.out) (fun a ha t ht => by rw [length_backL] at ha ⊢; exact backL_vert ha ht) (fun a ha => by rw [length_backL] at ha; exact Nat.le_trans (backL_len ha) (by omega)) (by rw [length_backL]; exact hvn) Hed.out (Nat.le_refl _) (by have := List.count_le_length (a := false) (l := dm2); have := Hd2.out; simp; omega)
              rw [Hbe.out] at hcall
              have Hcall := Lib.hid hcall
              clear hcall
              have hGC := h2.lt
              have hGC : wq.heap.size < C := by omega
              have hwoq : wo.heap.size < wq.heap.size := by have := h2.lt; omega
              have hs7 : ((wr.alloc (.cells #[] 2)).alloc (.cells #[.slice (some ⟨wr.heap.size, 0, none⟩) 0 0] 22)).heap.size = wr.heap.size + 1 + 1 := by simp
              have Hs7 := Lib.hid hs7
              clear hs7 hvs7
              go_wp2_with fail
              clear p0 p1 p2 p3 hcO
              refine Hcall.out.mono ?_
              rintro _ w8 ⟨rfl, hV⟩
              obtain ⟨C2, dm3, ov3, hF2, hdl2, hdm2, hcn2, hvs8, hb8, ht8⟩ := hV.out
              have h28 := h27.searched ht8 (by omega) (by intro b hb; simp [Value.ownBlock] at hb; omega) hvs8 hdl2
              rw [List.nil_append] at hvs8
              have ho8 := hvs8.own
              have hob : ∀ b, ov3.ownBlock = some b → C ≤ b := fun b hb => by
                rcases ht8.own with e | ⟨c8, e, hc8⟩
                · rw [e] at hb; simp [Value.ownBlock] at hb; omega
                · rw [e] at hb; injection hb with hb; rw [Hs7.out] at hc8; omega
              have hon : ov3.ownBlock ≠ none := by
                rcases ht8.own with e | ⟨c8, e, hc8⟩
                · rw [e]; simp [Value.ownBlock]
                · rw [e]; simp
              have hoT : ov3.ownBlock ≠ some (wr.heap.size + 1) := fun e => (hvs8.far _ e).2.2.2 rfl
              have ho8' : OwnInts w8 (wq.heap.size + 1) ov3 (castL C2) := ho8.raise fun b hb => by have := hob b hb; omega
              have hT8 := hvs8.to
              obtain ⟨PA, pc, hpf, _⟩ := ho8.ints.form
              rw [length_castL] at hpf
              subst hpf
              have hCl : C2.length ≤ 1024 := by have := List.count_le_length (a := false) (l := dm2); have := Hd2.out; omega
              have hol : out.length ≤ 1024 := by have := HS.out.cap; have := Hd2.out; omega
              have HF2 := Lib.hid hF2
              have Hdl2 := Lib.hid hdl2
              have Hdm2 := Lib.hid hdm2
              have Hcn2 := Lib.hid hcn2
              have p4 := Arr.c0 hT8
              have hbx8 := hbx7.trans hb8
              clear hF2 hdl2 hdm2 hcn2 hV ht8 hvs8 h27 hbx7 hb8 hb7 Hcall h2 ho8
              go_wp2_with fail
              refine (Sort_any (wq.heap.size + 1) _ (castL C2) w8 ho8' hon (by simp; omega)).mono ?_
              rintro _ w9 ⟨rfl, ho9, hg9⟩
              have hT9 : Arr w9 (wr.heap.size + 1) 22 [.slice PA C2.length pc] := Arr.kept' hT8 hg9 (fun e => hoT e.symm)
              have p5 := Arr.c0 hT9
              have h29 := h28.grown hg9 hob
              have hbx9 := hbx8.trans ((Below.refl wo.heap.size w8).grown hg9 hbx8.size fun b hb => by have := hob b hb; omega)
              obtain ⟨aR, RA, rc, hAe, hcR, hrowR⟩ := hr.at_ hvn
              subst hAe
              have hk9 : Kept w w9 := Kept.of (hbw.trans (hbx9.mono hbw.size))
              replace hcR := hk9.cell hcR
              have hrow9 := hrowR.kept hk9
              have howR := h29.rows.own
              have hGs : wq.heap.size + 1 ≤ w9.heap.size := by have := h29.top; omega
              clear p4 hT8 h28 hbx8 hg9 ho8' hrowR
              by_cases hlen : 1 < C2.length
              · have hlen' : (1 : Int) < C2.length := by omega
                go_wp2_with (at_builtin; refine append_one elem_rows w9 rfl (.tmp 121) (.tmp 123) rfl (wq.heap.size + 1) u14 _ vs2 rfl howR (.slice PA C2.length pc) rfl rfl (by omega) hGs ?_; intro v10 w10 ho10 hg10 hl10)
                have h210 := h29.snoc ho9 hob ho10 hg10
                have hpn : v10.ownBlock ≠ none := by
                  rcases hl10 with e | e
                  · rw [e]; exact Hnn.out
                  · rw [e]; simp
                exact ⟨⟨A', dm3, _, _, _, (A'.length : Int) - 1, by go_num, by omega, by omega, Lib.hid (by omega), Lib.hid (HS.out.add HFE.out Hmk.out Hed.out HF2.out Hdm2.out Hcn2.out Hdl2.out (.inl hlen)), Lib.hid (Hdl2.out.trans Hd2.out), h210, hbx9.trans ((Below.refl wo.heap.size w9).grown hg10 hbx9.size fun b hb => by have := (howR.lt b hb).1; omega), Lib.hid hpn⟩, by simp [intOf]⟩
              · have hlen' : ¬ (1 : Int) < C2.length := by omega
                cases hh : hasB (rx rows v) (v : Int)
                · have Hh := Lib.hid hh
                  have Hcon := Lib.hid (fun W (hW : Ints W (.slice RA (rx rows v).length rc) (rx rows v)) => Contains_any (.slice RA (rx rows v).length rc) (rx rows v) (v : Int) W hW)
                  rw [hh] at Hcon
                  clear hh
                  go_wp2_with (go_at_call 81; refine (Hcon.out _ hrow9).mono ?_; rintro e w10 ⟨rfl, hw10⟩; subst w10)
                  exact ⟨⟨A', dm3, vs2, out, C, (A'.length : Int) - 1, by go_num, by omega, by omega, Lib.hid (by omega), Lib.hid (HS.out.omit HFE.out Hmk.out Hed.out HF2.out Hdm2.out Hcn2.out Hdl2.out (fun h => h.elim hlen fun h => by rw [← hasB_iff, Hh.out] at h; cases h)), Lib.hid (Hdl2.out.trans Hd2.out), h29, hbx9, Hnn⟩, by simp [intOf]⟩
                · have Hh := Lib.hid hh
                  have Hcon := Lib.hid (fun W (hW : Ints W (.slice RA (rx rows v).length rc) (rx rows v)) => Contains_any (.slice RA (rx rows v).length rc) (rx rows v) (v : Int) W hW)
                  rw [hh] at Hcon
                  clear hh
                  go_wp2_with (first | (go_at_call 81; refine (Hcon.out _ hrow9).mono ?_; rintro e w10 ⟨rfl, hw10⟩; subst w10) | (at_builtin; refine append_one elem_rows w9 rfl (.tmp 121) (.tmp 123) rfl (wq.heap.size + 1) u14 _ vs2 rfl howR (.slice PA C2.length pc) rfl rfl (by omega) hGs ?_; intro v10 w10 ho10 hg10 hl10))
                  have h210 := h29.snoc ho9 hob ho10 hg10
                  have hpn : v10.ownBlock ≠ none := by
                    rcases hl10 with e | e
                    · rw [e]; exact Hnn.out
                    · rw [e]; simp
                  exact ⟨⟨A', dm3, _, _, _, (A'.length : Int) - 1, by go_num, by omega, by omega, Lib.hid (by omega), Lib.hid (HS.out.add HFE.out Hmk.out Hed.out HF2.out Hdm2.out Hcn2.out Hdl2.out (.inr (hasB_iff.1 Hh.out))), Lib.hid (Hdl2.out.trans Hd2.out), h210, hbx9.trans ((Below.refl wo.heap.size w9).grown hg10 hbx9.size fun b hb => by have := (howR.lt b hb).1; omega), Lib.hid hpn⟩, by simp [intOf]⟩
end Go.Proofs.Ytpnophmanpfejaa
