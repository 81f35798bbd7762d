/- The walk of insideOf. Conditions: the arena is valid, s is a set of its vertices. -/
import Derived.Test.YtigjhhcndigncaaInsidePlain
import Derived.Test.YtigjhhcndigncaaGrow
namespace Go.Proofs.Ytigjhhcndigncaa
set_option linter.unusedSimpArgs false
set_option linter.unusedVariables false
open Go.RowKit

set_option maxRecDepth 100000 in
set_option maxHeartbeats 8000000 in
theorem insideOf_any (v : Value) (a : ArenaD) (u : Value) (s : List Int) (w : World) (hv : IsArena w v a) (hu : Ints w u s) (hok : ArenaOk a) (hs : IsSet s a.owner.length) :
    Calls Try.prog 77 #[v, u] w (RetArenaB w (insA a s) (insB a s)) := by
  obtain ⟨o, n, rfl, hbw, hB⟩ := arena_open hv
  obtain ⟨ho, hn⟩ := hv.parts
  obtain ⟨A, c, rfl, hlc, hcm⟩ := ho.form
  obtain ⟨A', c', rfl, hlc', hcm'⟩ := hn.form
  obtain ⟨US, uc, rfl, huc, hum⟩ := hu.form
  have hR : Arr ((w.alloc (.cells #[.slice A a.owner.length c, .slice A' a.next.length c'] 28)).alloc (.cells #[.slice none 0 0, .slice none 0 0] 28)) (w.heap.size + 1) 28 [.slice none 0 0, .slice none 0 0] := by
    simpa using Arr.new (w.alloc (.cells #[.slice A a.owner.length c, .slice A' a.next.length c'] 28)) 28 [.slice none 0 0, .slice none 0 0]
  replace hB := hB.alloc (.cells #[.slice none 0 0, .slice none 0 0] 28)
  replace hbw := hbw.alloc hbw.size (.cells #[.slice none 0 0, .slice none 0 0] 28)
  have hsz2 : ((w.alloc (.cells #[.slice A a.owner.length c, .slice A' a.next.length c'] 28)).alloc (.cells #[.slice none 0 0, .slice none 0 0] 28)).heap.size = w.heap.size + 2 := by simp
  have hle := hok.le
  have hsl := hs.length_le
  have Hlen := Lib.hid hok.len
  have hmk := make_one elem_int64 a.owner.length (by omega)
  have hI := IArr.new ((w.alloc (.cells #[.slice A a.owner.length c, .slice A' a.next.length c'] 28)).alloc (.cells #[.slice none 0 0, .slice none 0 0] 28)) a.owner.length
  have hb3 := (Below.refl ((w.alloc (.cells #[.slice A a.owner.length c, .slice A' a.next.length c'] 28)).alloc (.cells #[.slice none 0 0, .slice none 0 0] 28)).heap.size _).alloc (Nat.le_refl _) (.cells (zeros (.int .i64 0) a.owner.length).toArray 2)
  go_enter Try.func77, Try.ntmps77
  have hBz := hB.lt
  have hBc0 := hB.c0
  have hBc1 := hB.c1
  go_wp2
  clear hmk
  rw [hsz2] at hI
  have hb3s := hb3.size
  replace hR := hR.below hb3 hR.lt
  clear hBc0 hBc1 hBz
  replace hB := hB.below hb3 hB.lt
  replace hbw := Below.up hbw hb3
  clear hb3
  generalize ((w.alloc (.cells #[.slice A a.owner.length c, .slice A' a.next.length c'] 28)).alloc (.cells #[.slice none 0 0, .slice none 0 0] 28)).alloc (.cells (zeros (.int .i64 0) a.owner.length).toArray 2) = w3 at *
  clear hsz2 hb3s
  have hIlt := hI.lt
  go_loopw [22] (fun i wr => ∃ (k : Nat) (l : List Int), k ≤ a.owner.length ∧ i = .int .i64 k ∧ IArr wr (w.heap.size + 2) l ∧ Hid (l.length = a.owner.length) ∧ Hid (∀ j, j < k → ix l j = -1) ∧ Below (w.heap.size + 2) w3 wr) (fun i _ => a.owner.length - (intOf i).toNat)
  case atStart => exact ⟨0, _, Nat.zero_le _, rfl, hI, Lib.hid (by simp), Lib.hid (fun j hj => by omega), Below.refl _ _⟩
  case round =>
    obtain ⟨k, l, hk, rfl, hI, Hl, Hm, hbG⟩ := hrel
    by_cases hlt : k < a.owner.length
    · have hc2 := hI.cell (k := k) (by rw [Hl.out]; exact hlt)
      have hf2 := hI.frozen k
      have hset := hI.set_ k (-1)
      have hlt' : (k : Int) < a.owner.length := by omega
      go_wp2
      refine ⟨⟨k + 1, _, by omega, by go_num, hset, Lib.hid (by rw [List.length_set]; exact Hl.out), Lib.hid (fun j hj => ?_), hbG.setCell (Nat.le_refl _) _⟩, by simp [intOf]; omega⟩
      rw [ix_set (by rw [Hl.out]; exact hlt)]
      split
      · rfl
      · exact Hm.out j (by omega)
    · obtain rfl : k = a.owner.length := by omega
      have hl0 : Hid (∀ v, v < a.owner.length → ix l v = idxL (s.take 0) (v : Int)) := Lib.hid (fun v hv => by rw [Hm.out v hv]; simp [idxL])
      clear Hm
      go_wp2
      go_loopw [31] (fun i wr => ∃ (k : Nat) (l : List Int), k ≤ s.length ∧ i = .int .i64 k ∧ IArr wr (w.heap.size + 2) l ∧ Hid (l.length = a.owner.length) ∧ Hid (∀ v, v < a.owner.length → ix l v = idxL (s.take k) (v : Int)) ∧ Below (w.heap.size + 2) w3 wr) (fun i _ => s.length - (intOf i).toNat)
      case atStart => exact ⟨0, _, Nat.zero_le _, rfl, hI, Hl, hl0, hbG⟩
      case round =>
        obtain ⟨k, l, hk, rfl, hI, Hl, Hm, hbG⟩ := hrel
        have hbwr : Below w.heap.size w wr := hbw.trans (hbG.mono (by omega))
        by_cases hlt : k < s.length
        · obtain ⟨a1, rfl, hc1⟩ := (hu.kept (Kept.of hbwr)).at_ hlt
          obtain ⟨j, hj, hjn⟩ := hs.vert k hlt
          rw [hj] at hc1
          have Hj := Lib.hid hj
          clear hj
          have hjl : (j : Int) < a.owner.length := by omega
          have hc2 := hI.cell (k := j) (by rw [Hl.out]; exact hjn)
          have hf2 := hI.frozen j
          have hset := hI.set_ j (k : Int)
          go_wp2
          refine ⟨⟨k + 1, _, by omega, by go_num, hset, Lib.hid (by rw [List.length_set]; exact Hl.out), Lib.hid (fun v hv => ?_), hbG.setCell (Nat.le_refl _) _⟩, by simp [intOf]; omega⟩
          rw [ix_set (by rw [Hl.out]; exact hjn), take_ix hlt, idxL_snoc (not_mem_take hs hlt), Hj.out, Hm.out v hv]
          by_cases e : v = j
          · subst e; rw [if_pos rfl, if_pos rfl, List.length_take]; omega
          · rw [if_neg e, if_neg (by omega)]
        · obtain rfl : k = s.length := by omega
          rw [List.take_length] at Hm
          obtain ⟨wk, rfl⟩ : ∃ wk : World, wk = wr := ⟨_, rfl⟩
          have hbn := (Below.refl wk.heap.size wk).alloc (Nat.le_refl _) (.cells #[.slice none 0 0, .slice none 0 0] 28)
          have hIr := hI.lt
          have hBr := hB.below hbG (by omega)
          have hRr := hR.below hbG (by omega)
          go_wp2
          obtain ⟨X, hX⟩ : ∃ X, wk.heap.size = X := ⟨_, rfl⟩
          have hgw := Grow.new wk X hX
          rw [hX] at hbn ⊢
          have hIrX : w.heap.size + 2 < X := by omega
          generalize wk.alloc (.cells #[.slice none 0 0, .slice none 0 0] 28) = w4 at *
          go_loopw [44] (fun i wx => ∃ (k : Nat) (ov nv : Value) (vs : List Value), k ≤ s.length ∧ i = .int .i64 k ∧ Grow wx X ov nv vs ((s.take k).map fun v => ix a.owner v.toNat) ((s.take k).map fun v => rowIn a s v.toNat) ∧ Hid (∀ j, j < k → rowIn a s (ix s j).toNat ≠ []) ∧ Below X wk wx) (fun i _ => s.length - (intOf i).toNat)
          case atStart => exact ⟨0, _, _, [], Nat.zero_le _, rfl, hgw, Lib.hid (fun j hj => by omega), hbn⟩
          case round =>
            obtain ⟨k, ov, nv, vs, hk, rfl, hG, Hne, hbX⟩ := hrel
            obtain ⟨wo, rfl⟩ : ∃ wo : World, wo = wr := ⟨_, rfl⟩
            have hwX : X < wo.heap.size := hG.box.lt
            have hbwo : Below w.heap.size w wo := (hbw.trans (hbG.mono (by omega))).trans (hbX.mono (by omega))
            have hBo := hBr.below hbX (by omega)
            have hRo := hRr.below hbX (by omega)
            have hIo : IArr wo (w.heap.size + 2) l := hI.below' hbX hIrX
            by_cases hlt : k < s.length
            · obtain ⟨a1, ea, hc1⟩ := (hu.kept (Kept.of hbwo)).at_ hlt
              subst ea
              obtain ⟨j, hj, hjn⟩ := hs.vert k hlt
              rw [hj] at hc1
              have Hj := Lib.hid hj
              clear hj
              have hjl : (j : Int) < a.owner.length := by omega
              have hjn2 : (j : Int) < a.next.length := by rw [Hlen.out]; omega
              obtain ⟨a2, R2, q2, ea, hc2, hrow⟩ := (hn.kept (Kept.of hbwo)).at_ (k := j) (by rw [Hlen.out]; exact hjn)
              subst ea
              obtain ⟨a3, ea, hc3⟩ := (ho.kept (Kept.of hbwo)).at_ hjn
              subst ea
              obtain ⟨R', r', he, hrl2, hrm2⟩ := hrow.form
              simp only [Value.slice.injEq, true_and] at he
              obtain ⟨rfl, rfl⟩ := he
              have hvn := hok.vert_next hjn
              have hdeg := hok.deg hjn
              obtain ⟨hown0, hbn0⟩ := new_ints wo
              have hb0 := hBo.c0
              have hb1 := hBo.c1
              have hb1n := (Kept.of hbn0).cell hb1
              have hc2n := (Kept.of hbn0).cell hc2
              go_wp2
              clear hb1n hc2n
              generalize wo.alloc (.cells #[] 2) = w5 at *
              go_loopw [13, 55] (fun v i wx => ∃ t : Nat, t ≤ (rx a.next j).length ∧ i = .int .i64 t ∧ OwnInts wx wo.heap.size v (rowTo a s j t) ∧ Below wo.heap.size wo wx) (fun _ i _ => (rx a.next j).length - (intOf i).toNat)
              case atStart => exact ⟨0, Nat.zero_le _, rfl, by simpa [rowTo] using hown0, hbn0⟩
              case round =>
                obtain ⟨t, ht, rfl, hown, hbr⟩ := hrel
                have hbs := hbr.size
                by_cases htl : t < (rx a.next j).length
                · obtain ⟨a4, rfl, hc4⟩ := (hrow.kept (Kept.of hbr)).at_ htl
                  obtain ⟨i, hi, hin⟩ := hvn t htl
                  have Hs := Lib.hid (rowTo_succ (a := a) (s := s) htl)
                  rw [hi] at hc4 Hs
                  clear hi
                  have hIr := hIo.below' hbr (by omega)
                  have hcI := hIr.cell (k := i) (by rw [Hl.out]; exact hin)
                  rw [Hm.out i hin] at hcI
                  have hil : (i : Int) < a.owner.length := by omega
                  have hlen : (rowTo a s j t).length ≤ 1099511627776 := by have := rowTo_len (a := a) (s := s) (v := j) (t := t); omega
                  generalize idxL s (i : Int) = p at *
                  by_cases e : 0 ≤ p
                  · have hd : decide (0 ≤ p) = true := decide_eq_true e
                    rw [hd] at Hs
                    go_wp2_with (at_builtin; refine append_int _ rfl (.tmp 64) (.tmp 69) rfl wo.heap.size u13 _ rfl hown p rfl hlen hbs ?_; intro v1 w6 ho1 hb1 hg1 hl1)
                    exact ⟨⟨t + 1, by omega, by go_num, by rw [Hs.out]; exact ho1, hbr.trans hb1⟩, by simp [intOf]; omega⟩
                  · have hd : decide (0 ≤ p) = false := decide_eq_false e
                    rw [hd] at Hs
                    go_wp2
                    exact ⟨⟨t + 1, by omega, by go_num, by rw [Hs.out]; simpa using hown, hbr⟩, by simp [intOf]; omega⟩
                · obtain rfl : t = (rx a.next j).length := by omega
                  have hri : rowTo a s j (rx a.next j).length = rowIn a s j := rfl
                  rw [hri] at hown
                  obtain ⟨wi, rfl⟩ : ∃ wi : World, wi = wr := ⟨_, rfl⟩
                  have hbwi : Below w.heap.size w wi := Below.up hbwo hbr
                  have hGi := hG.below hbr
                  have hXi := hGi.box
                  have hRi := hRo.below hbr hRo.lt
                  have hBi := hBo.below hbr hBo.lt
                  obtain ⟨NA, nc, e1, _⟩ := hown.ints.form
                  subst e1
                  by_cases hf : rowIn a s j = []
                  · rw [hf]
                    have hbad := insB_bad (a := a) hlt (by rw [Hj.out]; exact hf)
                    have Hb2 := Lib.hid hbad
                    have Hi2 := Lib.hid (show insA a s = ⟨[], []⟩ by unfold insA; rw [hbad]; rfl)
                    clear hbad
                    have q0 := hRi.c0
                    have q1 := hRi.c1
                    have q2 := hRi.frozen 0
                    have q3 := hRi.frozen 1
                    go_wp2
                    have hR6 := (hRi.set_ 0 (.slice none 0 0)).set_ 1 (.slice none 0 0)
                    have hbw6 : Below w.heap.size w ((wi.setCell ⟨w.heap.size + 1, 0, none⟩ (.slice none 0 0)).setCell ⟨w.heap.size + 1, 1, none⟩ (.slice none 0 0)) := (hbwi.setCell (by simp) _).setCell (by simp) _
                    generalize (wi.setCell ⟨w.heap.size + 1, 0, none⟩ (.slice none 0 0)).setCell ⟨w.heap.size + 1, 1, none⟩ (.slice none 0 0) = w6 at *
                    have p0 := hR6.c0
                    have p1 := hR6.c1
                    refine bodyPost_ret (v := .tuple #[.agg #[.slice none 0 0, .slice none 0 0], .bool false]) (by simp [results, Try.results77, go_sem, p0, p1]) rfl ?_
                    rw [Hb2.out, Hi2.out]
                    exact .mk' (OA.none' _ _ _) hbw6
                  · have hpos : 0 < (rowIn a s j).length := List.length_pos_iff.2 hf
                    have hz : ((rowIn a s j).length == 0) = false := by rw [beq_eq_false_iff_ne]; omega
                    have hz2 : (((rowIn a s j).length : Int) == 0) = false := by rw [beq_eq_false_iff_ne]; omega
                    have hf' : Hid (rowIn a s j ≠ []) := Lib.hid hf
                    clear hf
                    have hNb := hown.lt
                    have hbs := hbr.size
                    have Hs1 := Lib.hid (map_take_succ (fun v => ix a.owner v.toNat) hlt)
                    have Hs2 := Lib.hid (mapr_take_succ (fun v => rowIn a s v.toNat) hlt)
                    rw [Hj.out, Int.toNat_natCast] at Hs1 Hs2
                    have hl1 : Hid (((s.take k).map fun v => ix a.owner v.toNat).length = k) := Lib.hid (by rw [List.length_map, List.length_take]; omega)
                    have hl2 : Hid (((s.take k).map fun v => rowIn a s v.toNat).length = k) := Lib.hid (by rw [List.length_map, List.length_take]; omega)
                    generalize (s.take k).map (fun v => ix a.owner v.toNat) = l1 at *
                    generalize (s.take k).map (fun v => rowIn a s v.toNat) = l2 at *
                    have q0 := hXi.c0
                    have q1 := hBi.c0
                    have q2 := (Kept.of hbr).cell hc3
                    have q3 := (hXi.alloc (.cells #[.int .i64 (ix a.owner j)] 2)).c0
                    have hovd : OwnInts wi.drew (X + 1) ov l1 := hGi.own
                    have hwiX : X + 1 ≤ wi.heap.size := hGi.box.lt
                    have hovb := hG.own.lt
                    go_wp2_with fail
                    go_region_law (first | (refine step_append_int wi.drew rfl (.tmp 77) (.tmp 83) rfl (X + 1) ov l1 rfl hovd (ix a.owner j) rfl (by rw [hl1.out]; omega) hwiX ?_; intro v7 w7 ho7 hg7 hd7; obtain ⟨O7, c7, e7, _⟩ := ho7.ints.form; rw [List.length_append, List.length_singleton, hl1.out] at e7; subst e7; have hX7 : Arr w7 X 28 [ov, nv] := Arr.kept' (w := wi.drew) hXi hg7 (fun e => by have := (hovb _ e.symm).1; omega); have q5 := hX7.c0; have q6 := hX7.frozen 0))
                    all_goals
                      clear q0 q1 q2 q3 q5 q6
                      have hg7' : wi.grownBy w7 ov.ownBlock := ⟨hg7.os, hg7.tape, hg7.output, hg7.size, hg7.block⟩
                      have hG8 := hGi.own1 ho7 hg7' hd7
                      have hN8 : OwnInts (w7.setCell ⟨X, 0, none⟩ (.slice O7 (k + 1) c7)) wo.heap.size (.slice NA (rowIn a s j).length nc) (rowIn a s j) := (hown.heap fun b hb => hg7'.block b (hNb b hb).2 fun e => by
                        have h1 := (hNb b hb).1
                        have h2 := (hovb b e.symm).2
                        omega).far (by simpa using hwX) _
                      have hb8 : Below X wk (w7.setCell ⟨X, 0, none⟩ (.slice O7 (k + 1) c7)) := ((hbX.trans (hbr.mono (by omega))).grown hg7' (by omega) fun b hb => by have := (hovb b hb).1; omega).setCell (Nat.le_refl _) _
                      have hs8 : wi.heap.size ≤ (w7.setCell ⟨X, 0, none⟩ (.slice O7 (k + 1) c7)).heap.size := by simpa using hg7.size
                      have hov8 : ∀ b, (Value.slice O7 (k + 1) c7).ownBlock = some b → b < wo.heap.size ∨ wi.heap.size ≤ b := fun b hb => by
                        rcases hd7 with e | e
                        · exact .inl (hovb b (e ▸ hb)).2
                        · rw [e] at hb; simp only [Option.some.injEq] at hb; right; rw [← hb]; exact Nat.le_succ _
                      have hrw8 : ∀ j', j' < l2.length → ∀ b, (vx vs j').ownBlock = some b → b < wo.heap.size := fun j' hj' b hb => (hG.row_lt hj' hb).2
                      generalize w7.setCell ⟨X, 0, none⟩ (.slice O7 (k + 1) c7) = w8 at *
                      have hwX8 := hG8.box.lt
                      have p1 := hG8.box.c1
                      go_wp2_with (at_builtin; refine append_oneH elem_rows w8 rfl (.tmp 87) (.tmp 89) rfl (X + 1) nv _ vs rfl hG8.rows.own (.slice NA (rowIn a s j).length nc) rfl w8.heap.size rfl rfl (by rw [hl2.out]; omega) (by omega) ?_; intro v9 w9 ho9 hg9 hd9; obtain ⟨A9, c9, e9, _⟩ := SlF.of_own ho9; rw [hl2.out] at e9; subst e9; have hX9 : Arr w9 X 28 [.slice O7 (k + 1) c7, nv] := hG8.box.kept' hg9 (fun e => by have := (hG8.rows.own.lt _ e.symm).1; omega); have p5 := hX9.c1; have p6 := hX9.frozen 1)
                      have hG10 := hG8.row1 (row := rowIn a s j) ⟨hN8.more (by omega), fun b hb => (hN8.lt b hb).2⟩ (fun b hb => ⟨fun e => by
                        have h1 := hov8 b e
                        have h2 := hNb b hb
                        omega, fun j' hj' e => by
                        have h1 := hrw8 j' hj' b e
                        have h2 := (hNb b hb).1
                        omega⟩) ho9 hg9
                      have hb10 := (hb8.grown hg9 (by omega) fun b hb => by have := (hG8.rows.own.lt b hb).1; omega).setCell (p := ⟨X, 1, none⟩) (Nat.le_refl _) (.slice A9 (k + 1) c9)
                      refine ⟨⟨k + 1, _, _, _, by omega, by go_num, by rw [Hs1.out, Hs2.out]; exact hG10, Lib.hid (fun j' hj' => ?_), hb10⟩, by simp [intOf]; omega⟩
                      by_cases e : j' = k
                      · rw [e, Hj.out, Int.toNat_natCast]; exact hf'.out
                      · exact Hne.out j' (by omega)
            · obtain rfl : k = s.length := by omega
              rw [List.take_length] at hG
              have hall := insB_all (a := a) (s := s) Hne.out
              have Hb2 := Lib.hid hall
              have Hi2 := Lib.hid (show insA a s = insP a s by unfold insA; rw [hall]; rfl)
              clear hall
              obtain ⟨OA, oc, NA, nc, e1, e2⟩ := hG.forms
              rw [List.length_map] at e1 e2
              subst e1
              subst e2
              have hXc0 := hG.box.c0
              have hXc1 := hG.box.c1
              have q0 := hRo.c0
              have q1 := hRo.c1
              have q2 := hRo.frozen 0
              have q3 := hRo.frozen 1
              go_wp2
              have hR6 := (hRo.set_ 0 (.slice OA s.length oc)).set_ 1 (.slice NA s.length nc)
              have hbw6 : Below w.heap.size w ((wo.setCell ⟨w.heap.size + 1, 0, none⟩ (.slice OA s.length oc)).setCell ⟨w.heap.size + 1, 1, none⟩ (.slice NA s.length nc)) := (hbwo.setCell (by simp) _).setCell (by simp) _
              have hcb : ∀ b, X ≤ b → ((wo.setCell ⟨w.heap.size + 1, 0, none⟩ (.slice OA s.length oc)).setCell ⟨w.heap.size + 1, 1, none⟩ (.slice NA s.length nc)).heap[b]? = wo.heap[b]? := fun b hb => by
                rw [Below.heap_setCell _ _ _ _ (by simp; omega), Below.heap_setCell _ _ _ _ (by simp; omega)]
              have hsz : ((wo.setCell ⟨w.heap.size + 1, 0, none⟩ (.slice OA s.length oc)).setCell ⟨w.heap.size + 1, 1, none⟩ (.slice NA s.length nc)).heap.size = wo.heap.size := by simp
              have hoa := (hG.arena (Nat.le_refl X)).heapFrom hcb
              generalize (wo.setCell ⟨w.heap.size + 1, 0, none⟩ (.slice OA s.length oc)).setCell ⟨w.heap.size + 1, 1, none⟩ (.slice NA s.length nc) = w6 at *
              have p0 := hR6.c0
              have p1 := hR6.c1
              refine bodyPost_ret (v := .tuple #[.agg #[.slice OA s.length oc, .slice NA s.length nc], .bool true]) (by simp [results, Try.results77, go_sem, p0, p1]) rfl ?_
              rw [Hb2.out, Hi2.out]
              exact .mk' (hoa.mono (by omega) (by omega)) hbw6
end Go.Proofs.Ytigjhhcndigncaa
