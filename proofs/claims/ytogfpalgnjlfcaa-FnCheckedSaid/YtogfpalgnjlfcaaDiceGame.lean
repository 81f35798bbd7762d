/- The walks of w5Game and w9Game: a small valid game by dice. Condition: the bound on the vertices. Printed by gen_dice.py. -/
import Derived.Test.YtogfpalgnjlfcaaGrowP
import Derived.Test.YtogfpalgnjlfcaaDicePlain
import Derived.Test.YtogfpalgnjlfcaaSortWalks
import Derived.Deep.RegionLaw
import Derived.Deep.RegionHeld3
namespace Go.Proofs.Ytogfpalgnjlfcaa
set_option linter.unusedSimpArgs false
set_option linter.unusedVariables false
open Go.RowKit

/-- Rows of the call's own, when the dice has been rolled. -/
theorem OwnInts.rolled {w w' : World} {C n B : Nat} {v x : Value} {l : List Int} (h : OwnInts w B x l) (k : Rolled w w' C v n) (hC : C < B) : OwnInts w' B x l :=
  ((OI.of h).chg k.2 fun b hb e => by have := (h.lt b hb).1; omega).1
set_option maxRecDepth 100000 in
set_option maxHeartbeats 8000000 in
theorem w5Game_any (C : Nat) (v : Value) (n : Nat) (most : Int) (w : World) (hm : 1 ≤ most) (hm2 : most ≤ 9) (hc : Die w C v n) :
    Calls Try.prog 9 #[.pointer (some ⟨C, 0, none⟩), .int .i64 most] w fun e w' => ∃ u g, e = .returned u ∧ OP w' w.heap.size w'.heap.size u g ∧ ParityOk g ∧ (g.prio.length : Int) ≤ most ∧ Rolled w w' C v n := by
  have hR0 := Arr.new w 32 [.slice none 0 0, .slice none 0 0, .slice none 0 0]
  have hbn := (Below.refl w.heap.size w).alloc (Nat.le_refl _) (.cells #[.slice none 0 0, .slice none 0 0, .slice none 0 0] 32)
  have hCl := hc.lt
  go_enter Try.func9, Try.ntmps9
  go_wp2_with fail
  generalize w.alloc (.cells #[.slice none 0 0, .slice none 0 0, .slice none 0 0] 32) = w0 at *
  refine (below_any C v n most _ (hc.below hbn) hm (by omega)).mono ?_
  rintro e wk ⟨x, rfl, hx0, hx1, hd1⟩
  obtain ⟨N, hN⟩ : ∃ N : Nat, 1 + x = (N : Int) := ⟨(1 + x).toNat, by omega⟩
  have hN1 : 1 ≤ N := by omega
  have hNm : (N : Int) ≤ most := by omega
  have hN9 : N ≤ 9 := by omega
  have hdk := Rolled.below (.refl hc) hbn |>.trans hd1
  have hRk : Arr wk w.heap.size 32 [.slice none 0 0, .slice none 0 0, .slice none 0 0] := (hd1.2.block w.heap.size hR0.lt (by omega)).trans hR0
  have hck := hdk.1
  clear hR0 hbn hd1
  have hgw := GrowP.new wk wk.heap.size rfl
  have hdX := Rolled.below (.refl hck) ((Below.refl wk.heap.size wk).alloc (Nat.le_refl _) (.cells #[.slice none 0 0, .slice none 0 0, .slice none 0 0] 32))
  have hRz := hRk.lt
  go_wp2_with fail
  clear hN hx0 hx1
  obtain ⟨X, hX⟩ : ∃ X, wk.heap.size = X := ⟨_, rfl⟩
  rw [hX] at hgw hRz
  generalize wk.alloc (.cells #[.slice none 0 0, .slice none 0 0, .slice none 0 0] 32) = w4 at *
  have hCX : C < X := by omega
  rw [hX]
  go_loopw [7] (fun i wx => ∃ (k : Nat) (ov nv pv : Value) (vs : List Value) (l1 : List Int) (l2 : List (List Int)) (l3 : List Int), k ≤ N ∧ i = .int .i64 k ∧ GrowP wx X ov nv pv vs l1 l2 l3 ∧ Hid (GameTo N k l1 l2 l3) ∧ Rolled wk wx C v n) (fun i _ => N - (intOf i).toNat)
  case atStart => exact ⟨0, _, _, _, [], [], [], [], Nat.zero_le _, rfl, hgw, Lib.hid (GameTo.zero N), hdX⟩
  case round =>
    clear hgw hdX
    obtain ⟨k, ov, nv, pv, vs, l1, l2, l3, hk, rfl, hG, HT, hd⟩ := hrel
    obtain ⟨wo, rfl⟩ : ∃ wo : World, wo = wr := ⟨_, rfl⟩
    have hwX : X < wo.heap.size := hG.box.lt
    have Hl1 : Hid (l1.length = k) := Lib.hid HT.out.one
    have Hl2 : Hid (l2.length = k) := Lib.hid HT.out.two
    have Hl3 : Hid (l3.length = k) := Lib.hid HT.out.three
    by_cases hlt : k < N
    · have hlt2 : (k : Int) < N := by omega
      obtain ⟨hn0, hnb⟩ := new_ints wo
      have hGn := hG.below hnb
      have hdn := hd.below hnb
      have hovo : ∀ b, ov.ownBlock = some b → b < wo.heap.size := fun b hb => (hG.own.lt b hb).2
      have hpvo : ∀ b, pv.ownBlock = some b → b < wo.heap.size := fun b hb => (hG.pr.lt b hb).2
      have hrwo : ∀ j, j < l2.length → ∀ b, (vx vs j).ownBlock = some b → b < wo.heap.size := fun j hj b hb => (hG.row_lt hj hb).2
      go_wp2_with fail
      generalize wo.alloc (.cells #[] 2) = w5 at *
      refine (below_any C v n 3 _ hdn.1 (by omega) (by omega)).mono ?_
      rintro e w6 ⟨y, rfl, hy0, hy1, hd6⟩
      obtain ⟨T, hT⟩ : ∃ T : Nat, 1 + y = (T : Int) := ⟨(1 + y).toNat, by omega⟩
      have hT1 : 1 ≤ T := by omega
      have hT3 : T ≤ 3 := by omega
      have hG6 := hGn.chg hCX hd6.2
      have hn6 : OwnInts w6 wo.heap.size _ _ := hn0.rolled hd6 (by omega)
      have hd6' := hdn.trans hd6
      have hs6 : wo.heap.size ≤ w6.heap.size := Nat.le_trans hnb.size hd6.2.size
      clear hn0 hnb hGn hdn hd6 hG hd
      go_wp2_with fail
      clear hT hy0 hy1
      go_loopw [8, 9] (fun qv tv wx => ∃ (t : Nat) (l : List Int), t ≤ T ∧ tv = .int .i64 t ∧ OwnInts wx wo.heap.size qv l ∧ Hid (l.length + t ≤ 3 ∧ IsSet l N ∧ (t < T → l ≠ [])) ∧ GrowP wx X ov nv pv vs l1 l2 l3 ∧ Rolled wk wx C v n ∧ wo.heap.size ≤ wx.heap.size) (fun _ tv _ => (intOf tv).toNat)
      case atStart => exact ⟨T, [], Nat.le_refl _, rfl, by simpa using hn6, Lib.hid ⟨by simpa using hT3, fun k hk => by simp at hk, fun h => by omega⟩, hG6, hd6', hs6⟩
      case round =>
        clear hG6 hd6' hs6 hn6
        obtain ⟨t, l, ht, rfl, hown, Hl, hG, hd, hbs⟩ := hrel
        obtain ⟨wi, rfl⟩ : ∃ wi : World, wi = wr := ⟨_, rfl⟩
        by_cases h0 : 0 < t
        · have h1 : (0 : Int) < t := by omega
          go_wp2_with fail
          refine (below_any C v n (N : Int) _ hd.1 (by omega) (by omega)).mono ?_
          rintro e w7 ⟨y, rfl, hy0, hy1, hd7⟩
          have hown7 := hown.rolled hd7 (by omega)
          have hG7 := hG.chg hCX hd7.2
          have hbs7 := Nat.le_trans hbs hd7.2.size
          have hdd := hd.trans hd7
          obtain ⟨hY, hbY⟩ := one_ints w7 y
          obtain ⟨hll, hls, _⟩ := Hl.out
          have hone := both_one hls (by omega) hy0 hy1
          clear hown hG hd hd7
          go_wp2_with fail
          refine (specBothOf_any _ l _ [y] _ (hown7.ints.kept (Kept.of hbY)) hY).mono ?_
          rintro e w8 ⟨u8, rfl, hown8, hb8⟩
          have hb78 : Below w7.heap.size w7 w8 := Below.up hbY hb8
          have hs8 := hbY.size
          go_wp2_with fail
          exact ⟨⟨t - 1, _, by omega, by go_num, hown8.more (by omega), Lib.hid ⟨by have := hone.2.2; omega, hone.1, fun _ => hone.2.1⟩, hG7.below hb78, hdd.below hb78, Nat.le_trans hbs7 hb78.size⟩, by simp [intOf]; omega⟩
        · obtain rfl : t = 0 := by omega
          have h1 : ¬ (0 : Int) < ((0 : Nat) : Int) := by omega
          obtain ⟨hll, hls, hlz⟩ := Hl.out
          have hlne := hlz (by omega)
          clear hlz
          obtain ⟨NA, nc, e6, _⟩ := hown.ints.form
          subst e6
          have hNb := hown.lt
          have q0 := hG.box.c0
          have hcd : Die wi.drew C v n := hd.1.drew
          have hl1 := Hl1
          have hl2 := Hl2
          have hl3 := Hl3
          go_wp2_with fail
          go_region_law (first | (go_simp; go_at_call 11; refine (below_any C v n 2 _ hcd (by omega) (by omega)).mono ?_; rintro e w3 ⟨x, rfl, hx0, hx1, hd3⟩; have hd3' : Rolled wi w3 C v n := hd3.undrew; have hG3 := hG.chg hCX hd3'.2; have q0 := hG3.box.c0; have q3 := (hG3.box.alloc (.cells #[.int .i64 x] 2)).c0; have hovd := hG3.own; have hwiX : X + 1 ≤ w3.heap.size := hG3.box.lt) | (refine step_append_int w3 rfl (.tmp 36) (.tmp 39) rfl (X + 1) ov l1 rfl hovd x rfl (by rw [hl1.out]; omega) hwiX ?_; intro v7 w7 ho7 hg7 hd7; obtain ⟨O7, c7, e7, _⟩ := ho7.ints.form; rw [List.length_append, List.length_singleton, hl1.out] at e7; subst e7; have hX7 : Arr w7 X 32 [ov, nv, pv] := Arr.kept' (w := w3) hG3.box hg7 (fun e => by have := (hG3.own.lt _ e.symm).1; omega); have q5 := hX7.c0; have q6 := hX7.frozen 0))
          all_goals
            clear q0 q3 q5 q6
            have hG8 := hG3.own1 ho7 hg7 hd7
            have hs3 := hd3'.2.size
            have hN3 : OwnInts w3 wo.heap.size (.slice NA l.length nc) l := hown.rolled hd3' (by omega)
            have hN8 : OwnInts (w7.setCell ⟨X, 0, none⟩ (.slice O7 (k + 1) c7)) wo.heap.size (.slice NA l.length nc) l := OwnInts.far (hN3.heap fun b hb => hg7.block b (hN3.lt b hb).2 fun e => by
              have h1 := (hN3.lt b hb).1
              have h2 := hovo b e.symm
              omega) (by simpa using hwX) _
            have hov8 : ∀ b, (Value.slice O7 (k + 1) c7).ownBlock = some b → b < wo.heap.size ∨ wi.heap.size ≤ b := fun b hb => by
              rcases hd7 with e | e
              · exact .inl (hovo b (e ▸ hb))
              · rw [e] at hb; simp only [Option.some.injEq] at hb; right; omega
            have hdd7 : Rolled wk (w7.setCell ⟨X, 0, none⟩ (.slice O7 (k + 1) c7)) C v n := ((hd.trans hd3').grown hck hg7 fun r hr => by have := (hG3.own.lt r hr).1; omega).setCell hck (by simp; omega) _
            have hs8 : wi.heap.size ≤ (w7.setCell ⟨X, 0, none⟩ (.slice O7 (k + 1) c7)).heap.size := by have := hg7.size; simp; omega
            generalize w7.setCell ⟨X, 0, none⟩ (.slice O7 (k + 1) c7) = w8 at *
            have hwX8 := hG8.box.lt
            have p1 := hG8.box.c1
            go_wp2_with (at_builtin; refine append_oneH elem_rows w8 rfl (.tmp 45) (.tmp 47) rfl (X + 1) nv _ vs rfl hG8.rows.own (.slice NA l.length nc) rfl w8.heap.size rfl rfl (by rw [hl2.out]; omega) (by omega) ?_; intro v9 w9 ho9 hg9 hd9; obtain ⟨A9, c9, e9, _⟩ := SlF.of_own ho9; rw [hl2.out] at e9; subst e9; have hX9 : Arr w9 X 32 [.slice O7 (k + 1) c7, nv, pv] := hG8.box.kept' hg9 (fun e => by have := (hG8.rows.own.lt _ e.symm).1; omega); have p5 := hX9.c1; have p6 := hX9.frozen 1)
            have hG10 := hG8.row1 (row := l) ⟨hN8.more (by omega), fun b hb => (hN8.lt b hb).2⟩ (fun b hb => ⟨fun e => by
              have h1 := hov8 b e
              have h2 := hNb b hb
              omega, fun e => by
              have h1 := hpvo b e
              have h2 := (hNb b hb).1
              omega, fun j' hj' e => by
              have h1 := hrwo j' hj' b e
              have h2 := (hNb b hb).1
              omega⟩) ho9 hg9
            have hd10 := ((hdd7.grown hck hg9 fun r hr => by have := (hG8.rows.own.lt r hr).1; omega).setCell hck (p := ⟨X, 1, none⟩) (by simp; omega) (.slice A9 (k + 1) c9))
            clear p1 p5 p6
            generalize w9.setCell ⟨X, 1, none⟩ (.slice A9 (k + 1) c9) = wz at *
            have q0 := hG10.box.c2
            have hcz : Die wz.drew C v n := hd10.1.drew
            have hwzX : X + 1 ≤ wz.heap.size := hG10.box.lt
            go_region_law (first | (go_simp; go_at_call 11; refine (below_any C v n 5 _ hcz (by omega) (by omega)).mono ?_; rintro e wa ⟨z, rfl, hz0, hz1, hda⟩; have hda' : Rolled wz wa C v n := hda.undrew; have hGa := hG10.chg hCX hda'.2; have q2 := hGa.box.c2; have q3 := (hGa.box.alloc (.cells #[.int .i64 z] 2)).c2; have hpvd := hGa.pr; have hwaX : X + 1 ≤ wa.heap.size := hGa.box.lt) | (refine step_append_int wa rfl (.tmp 52) (.tmp 55) rfl (X + 1) pv l3 rfl hpvd z rfl (by rw [hl3.out]; omega) hwaX ?_; intro vb wb hob hgb hdb; obtain ⟨Ob, cb, eb, _⟩ := hob.ints.form; rw [List.length_append, List.length_singleton, hl3.out] at eb; subst eb; have hXb : Arr wb X 32 [.slice O7 (k + 1) c7, .slice A9 (k + 1) c9, pv] := Arr.kept' (w := wa) hGa.box hgb (fun e => by have := (hGa.pr.lt _ e.symm).1; omega); have q5 := hXb.c2; have q6 := hXb.frozen 2))
            all_goals
              clear q0 q2 q3 q5 q6
              have hGc := hGa.pr1 hob hgb hdb
              have hdc : Rolled wk (wb.setCell ⟨X, 2, none⟩ (.slice Ob (k + 1) cb)) C v n := ((hd10.trans hda').grown hck hgb fun r hr => by have := (hGa.pr.lt r hr).1; omega).setCell hck (by simp; omega) _
              go_wp2
              exact ⟨⟨k + 1, _, _, _, _, _, _, _, by omega, by go_num, hGc, Lib.hid (HT.out.snoc hx0 hx1 hls hlne (by omega) hz0 (by omega)), hdc⟩, by simp [intOf]; omega⟩
    · obtain rfl : k = N := by omega
      have hlt2 : ¬ (k : Int) < k := by omega
      obtain ⟨OA, oc, NA, nc, PA, pc, e1, e2, e3⟩ := hG.forms
      rw [Hl1.out] at e1
      rw [Hl2.out] at e2
      rw [Hl3.out] at e3
      subst e1
      subst e2
      subst e3
      have hXc0 := hG.box.c0
      have hXc1 := hG.box.c1
      have hXc2 := hG.box.c2
      have hRo : Arr wo w.heap.size 32 [.slice none 0 0, .slice none 0 0, .slice none 0 0] := (hd.2.block w.heap.size hRk.lt (by omega)).trans hRk
      have q0 := hRo.c0
      have q1 := hRo.c1
      have q2 := hRo.c2
      have q3 := hRo.frozen 0
      have q4 := hRo.frozen 1
      have q5 := hRo.frozen 2
      go_wp2
      have hR6 := ((hRo.set_ 0 (.slice OA k oc)).set_ 1 (.slice NA k nc)).set_ 2 (.slice PA k pc)
      have hd6 : Rolled w (((wo.setCell ⟨w.heap.size, 0, none⟩ (.slice OA k oc)).setCell ⟨w.heap.size, 1, none⟩ (.slice NA k nc)).setCell ⟨w.heap.size, 2, none⟩ (.slice PA k pc)) C v n := (((hdk.trans hd).setCell hc (p := ⟨w.heap.size, 0, none⟩) (Nat.le_refl _) _).setCell hc (p := ⟨w.heap.size, 1, none⟩) (Nat.le_refl _) _).setCell hc (p := ⟨w.heap.size, 2, none⟩) (Nat.le_refl _) _
      have hcb : ∀ b, X ≤ b → (((wo.setCell ⟨w.heap.size, 0, none⟩ (.slice OA k oc)).setCell ⟨w.heap.size, 1, none⟩ (.slice NA k nc)).setCell ⟨w.heap.size, 2, none⟩ (.slice PA k pc)).heap[b]? = wo.heap[b]? := fun b hb => by
        rw [Below.heap_setCell _ _ _ _ (by simp; omega), Below.heap_setCell _ _ _ _ (by simp; omega), Below.heap_setCell _ _ _ _ (by simp; omega)]
      have hsz : (((wo.setCell ⟨w.heap.size, 0, none⟩ (.slice OA k oc)).setCell ⟨w.heap.size, 1, none⟩ (.slice NA k nc)).setCell ⟨w.heap.size, 2, none⟩ (.slice PA k pc)).heap.size = wo.heap.size := by simp
      have hop := (hG.parity (Nat.le_refl X)).heapFrom hcb
      have hok := HT.out.ok hN1 (by omega)
      generalize ((wo.setCell ⟨w.heap.size, 0, none⟩ (.slice OA k oc)).setCell ⟨w.heap.size, 1, none⟩ (.slice NA k nc)).setCell ⟨w.heap.size, 2, none⟩ (.slice PA k pc) = w6 at *
      have p0 := hR6.c0
      have p1 := hR6.c1
      have p2 := hR6.c2
      refine bodyPost_ret (v := .agg #[.slice OA k oc, .slice NA k nc, .slice PA k pc]) (by simp [results, Try.results9, go_sem, p0, p1, p2]) rfl ?_
      first | exact ⟨_, rfl, ⟨⟨l1, l2⟩, l3⟩, hop.mono (by omega) (by omega), hok, by show (l3.length : Int) ≤ most; rw [Hl3.out]; omega, hd6⟩ | exact ⟨_, ⟨⟨l1, l2⟩, l3⟩, rfl, hop.mono (by omega) (by omega), hok, by show (l3.length : Int) ≤ most; rw [Hl3.out]; omega, hd6⟩
end Go.Proofs.Ytogfpalgnjlfcaa
