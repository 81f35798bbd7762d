/- The walk of l1Draw: a small arena. -/
import Derived.Test.YtpnophmanpfejaaCurWalks
import Derived.Test.YtpnophmanpfejaaGrow
import Derived.Test.YtpnophmanpfejaaSortWalks
import Derived.Deep.RegionLaw
import Derived.Deep.RegionHeld3
namespace Go.Proofs.Ytpnophmanpfejaa
set_option linter.unusedSimpArgs false
set_option linter.unusedVariables false
open Go.RowKit

theorem Cur.drew {w : World} {C n : Nat} {v : Value} (h : Cur w C v n) : Cur w.drew C v n := by
  obtain ⟨⟨i, x, hC, hi⟩, h2, h3, h4⟩ := h
  exact ⟨⟨i, x, hC, hi⟩, h2.kept (fun _ _ => rfl), h3, h4⟩
theorem Grow.chg {w w' : World} {X C : Nat} {ov nv : Value} {vs : List Value} {l1 : List Int} {l2 : List (List Int)} (h : Grow w X ov nv vs l1 l2) (hC : C < X) (hc : Chg (fun b => b = C) w w') : Grow w' X ov nv vs l1 l2 :=
  ⟨(hc.block X h.box.lt (by omega)).trans h.box, ((OI.of h.own).chg hc fun b hb e => by have := (h.own.lt b hb).1; omega).1,
    (h.rows.chg hc (fun b hb e => by have := (h.rows.own.lt b hb).1; omega) (fun j hj b hb e => by have := (h.row_lt hj hb).1; omega)).mono (Nat.le_refl _) hc.size, h.dis⟩
theorem Drawn.setCell {w w1 : World} {C n : Nat} {v : Value} {p : Addr} (hc : Cur w C v n) (h : Drawn w w1 C v n) (hp : w.heap.size ≤ p.block) (u : Value) : Drawn w (w1.setCell p u) C v n :=
  have hCl := hc.lt
  have hch : Chg (fun b => b = C) w (w1.setCell p u) := ⟨h.2.os, h.2.tape, h.2.output, by simpa using h.2.size, fun i hi hne => (Below.heap_setCell _ _ _ _ (by omega)).trans (h.2.block i hi hne)⟩
  have hcur : IsCur (w1.setCell p u) C v n := by
    obtain ⟨⟨i, x, hC, hi⟩, _⟩ := h.1
    exact ⟨i, x, hC.far (by omega) u, hi⟩
  ⟨⟨hcur, hc.bytes.chg hch hc.apart, hc.len, hc.apart⟩, hch⟩
/-- A small arena. -/
structure SmallA (a : ArenaD) : Prop where
  pos : 1 ≤ a.owner.length
  le : a.owner.length ≤ 8
  len : a.next.length = a.owner.length
  deg : ∀ k, k < a.next.length → (rx a.next k).length ≤ 3
theorem rx_snoc_le {l2 : List (List Int)} {row : List Int} {m : Nat} (h : ∀ k, k < l2.length → (rx l2 k).length ≤ m) (hr : row.length ≤ m) : ∀ k, k < (l2 ++ [row]).length → (rx (l2 ++ [row]) k).length ≤ m := fun k hk => by
  rw [List.length_append, List.length_singleton] at hk
  by_cases e : k < l2.length
  · have : rx (l2 ++ [row]) k = rx l2 k := by simp [rx, List.getElem?_append_left e]
    rw [this]; exact h k e
  · obtain rfl : k = l2.length := by omega
    have : rx (l2 ++ [row]) l2.length = row := by simp [rx]
    rw [this]; exact hr

set_option maxRecDepth 100000 in
set_option maxHeartbeats 8000000 in
theorem l1Draw_any (C : Nat) (v : Value) (n : Nat) (w : World) (hc : Cur w C v n) :
    Calls Try.prog 150 #[.pointer (some ⟨C, 0, none⟩)] w fun e w' => ∃ u a, e = .returned u ∧ OA w' w.heap.size w'.heap.size u a ∧ SmallA a ∧ Drawn w w' C v n := by
  have hR0 := Arr.new w 30 [.slice none 0 0, .slice none 0 0]
  have hbn := (Below.refl w.heap.size w).alloc (Nat.le_refl _) (.cells #[.slice none 0 0, .slice none 0 0] 30)
  have hCl := hc.lt
  go_enter Try.func150, Try.ntmps150
  go_wp2_with fail
  generalize w.alloc (.cells #[.slice none 0 0, .slice none 0 0] 30) = w0 at *
  refine (l1Below_any C v n 8 _ (hc.below hbn)).mono ?_
  rintro e wk ⟨x, rfl, hx0, _, hx1, hd1⟩
  have hx2 := hx1 (by omega)
  obtain ⟨N, hN⟩ : ∃ N : Nat, 1 + x = (N : Int) := ⟨(1 + x).toNat, by omega⟩
  have hN1 : 1 ≤ N := by omega
  have hN8 : N ≤ 8 := by omega
  have hdk := Drawn.below (.refl hc) hbn |>.trans hd1
  have hRk : Arr wk w.heap.size 30 [.slice none 0 0, .slice none 0 0] := (hd1.2.block w.heap.size hR0.lt (by omega)).trans hR0
  have hck := hdk.1
  clear hR0 hbn hd1 hx1
  have hgw := Grow.new wk wk.heap.size rfl
  have hdX := Drawn.below (.refl hck) ((Below.refl wk.heap.size wk).alloc (Nat.le_refl _) (.cells #[.slice none 0 0, .slice none 0 0] 30))
  have hRz := hRk.lt
  go_wp2_with fail
  clear hN hx0 hx2
  obtain ⟨X, hX⟩ : ∃ X, wk.heap.size = X := ⟨_, rfl⟩
  rw [hX] at hgw hRz
  generalize wk.alloc (.cells #[.slice none 0 0, .slice none 0 0] 30) = w4 at *
  have hCX : C < X := by omega
  rw [hX]
  go_loopw [5] (fun i wx => ∃ (k : Nat) (ov nv : Value) (vs : List Value) (l1 : List Int) (l2 : List (List Int)), k ≤ N ∧ i = .int .i64 k ∧ Grow wx X ov nv vs l1 l2 ∧ Hid (l1.length = k) ∧ Hid (l2.length = k) ∧ Hid (∀ j, j < l2.length → (rx l2 j).length ≤ 3) ∧ Drawn wk wx C v n) (fun i _ => N - (intOf i).toNat)
  case atStart => exact ⟨0, _, _, [], [], [], Nat.zero_le _, rfl, hgw, Lib.hid rfl, Lib.hid rfl, Lib.hid (fun j hj => by cases hj), hdX⟩
  case round =>
    clear hgw hdX
    obtain ⟨k, ov, nv, vs, l1, l2, hk, rfl, hG, Hl1, Hl2, Hr, hd⟩ := hrel
    obtain ⟨wo, rfl⟩ : ∃ wo : World, wo = wr := ⟨_, rfl⟩
    have hwX : X < wo.heap.size := hG.box.lt
    by_cases hlt : k < N
    · have hlt2 : (k : Int) < N := by omega
      obtain ⟨hn0, hnb⟩ := new_ints wo
      have hGn := hG.below hnb
      have hdn := hd.below hnb
      have hovo : ∀ b, ov.ownBlock = some b → b < wo.heap.size := fun b hb => (hG.own.lt b hb).2
      have hrwo : ∀ j, j < l2.length → ∀ b, (vx vs j).ownBlock = some b → b < wo.heap.size := fun j hj b hb => (hG.row_lt hj hb).2
      go_wp2_with fail
      generalize wo.alloc (.cells #[] 2) = w5 at *
      refine (l1Below_any C v n 3 _ hdn.1).mono ?_
      rintro e w6 ⟨y, rfl, hy0, _, hy1, hd6⟩
      have hy2 := hy1 (by omega)
      obtain ⟨T, hT⟩ : ∃ T : Nat, 1 + y = (T : Int) := ⟨(1 + y).toNat, by omega⟩
      have hT3 : T ≤ 3 := by omega
      have hG6 := hGn.chg hCX hd6.2
      have hn6 : OwnInts w6 wo.heap.size _ _ := ((OI.of hn0).chg hd6.2 fun b hb e => by have := (hn0.lt b hb).1; omega).1
      have hd6' := hdn.trans hd6
      have hs6 : wo.heap.size ≤ w6.heap.size := Nat.le_trans hnb.size hd6.2.size
      clear hn0 hnb hGn hdn hd6 hy1 hG hd
      go_wp2_with fail
      clear hT hy0 hy2
      go_loopw [6, 7] (fun qv tv wx => ∃ (t : Nat) (l : List Int), t ≤ T ∧ tv = .int .i64 t ∧ OwnInts wx wo.heap.size qv l ∧ Hid (l.length + t ≤ 3) ∧ Grow wx X ov nv vs l1 l2 ∧ Drawn wk wx C v n ∧ wo.heap.size ≤ wx.heap.size) (fun _ tv _ => (intOf tv).toNat)
      case atStart => exact ⟨T, [], Nat.le_refl _, rfl, by simpa using hn6, Lib.hid (by simpa using hT3), hG6, hd6', hs6⟩
      case round =>
        clear hG6 hd6' hs6 hn6
        obtain ⟨t, l, ht, rfl, hown, Hl, hG, hd, hbs⟩ := hrel
        obtain ⟨wi, rfl⟩ : ∃ wi : World, wi = wr := ⟨_, rfl⟩
        by_cases h0 : 0 < t
        · have h1 : (0 : Int) < t := by omega
          go_wp2_with fail
          refine (l1Below_any C v n (N : Int) _ hd.1).mono ?_
          rintro e w7 ⟨y, rfl, hy0, _, hy1, hd7⟩
          have hown7 : OwnInts w7 wo.heap.size u6 l := ((OI.of hown).chg hd7.2 fun b hb e => by have := (hown.lt b hb).1; omega).1
          have hG7 := hG.chg hCX hd7.2
          have hbs7 := Nat.le_trans hbs hd7.2.size
          have hdd := hd.trans hd7
          have hll := Hl.out
          clear hown hG hd hd7 hy1
          go_wp2_with fail
          refine (l1Into_any wo.heap.size _ l y _ hown7 hbs7 (by omega)).mono ?_
          rintro e w8 ⟨u8, rfl, hown8, hb8⟩
          have hil := intoL_len l y
          go_wp2_with fail
          exact ⟨⟨t - 1, _, by omega, by go_num, hown8, Lib.hid (by omega), hG7.below hb8, hdd.below hb8, Nat.le_trans hbs7 hb8.size⟩, by simp [intOf]; omega⟩
        · obtain rfl : t = 0 := by omega
          have h1 : ¬ (0 : Int) < ((0 : Nat) : Int) := by omega
          have hll := Hl.out
          have hovb := hG.own.lt
          obtain ⟨NA, nc, e6, _⟩ := hown.ints.form
          subst e6
          have hNb := hown.lt
          have q0 := hG.box.c0
          have hcd : Cur wi.drew C v n := hd.1.drew
          have hl1 := Hl1
          have hl2 := Hl2
          go_wp2_with fail
          go_region_law (first | (go_simp; go_at_call 114; refine (l1Below_any C v n 2 _ hcd).mono ?_; rintro e w3 ⟨x, rfl, hx0, _, hx1, hd3⟩; have hd3' : Drawn wi w3 C v n := ⟨hd3.1, ⟨hd3.2.os, hd3.2.tape, hd3.2.output, hd3.2.size, hd3.2.block⟩⟩; have hG3 := hG.chg hCX hd3'.2; have q0 := hG3.box.c0; have q3 := (hG3.box.alloc (.cells #[.int .i64 x] 2)).c0; have hovd := hG3.own; have hwiX : X + 1 ≤ w3.heap.size := hG3.box.lt) | (refine step_append_int w3 rfl (.tmp 31) (.tmp 34) rfl (X + 1) ov l1 rfl hovd x rfl (by rw [hl1.out]; omega) hwiX ?_; intro v7 w7 ho7 hg7 hd7; obtain ⟨O7, c7, e7, _⟩ := ho7.ints.form; rw [List.length_append, List.length_singleton, hl1.out] at e7; subst e7; have hX7 : Arr w7 X 30 [ov, nv] := Arr.kept' (w := w3) hG3.box hg7 (fun e => by have := (hG3.own.lt _ e.symm).1; omega); have q5 := hX7.c0; have q6 := hX7.frozen 0))
          all_goals
            clear q0 q3 q5 q6
            have hG8 := hG3.own1 ho7 hg7 hd7
            have hs3 := hd3'.2.size
            have hN3 : OwnInts w3 wo.heap.size (.slice NA l.length nc) l := ((OI.of hown).chg hd3'.2 fun b hb e => by have := (hown.lt b hb).1; omega).1
            have hN8 : OwnInts (w7.setCell ⟨X, 0, none⟩ (.slice O7 (k + 1) c7)) wo.heap.size (.slice NA l.length nc) l := OwnInts.far (hN3.heap fun b hb => hg7.block b (hN3.lt b hb).2 fun e => by
              have h1 := (hN3.lt b hb).1
              have h2 := hovo b e.symm
              omega) (by simpa using hwX) _
            have hov8 : ∀ b, (Value.slice O7 (k + 1) c7).ownBlock = some b → b < wo.heap.size ∨ wi.heap.size ≤ b := fun b hb => by
              rcases hd7 with e | e
              · exact .inl (hovo b (e ▸ hb))
              · rw [e] at hb; simp only [Option.some.injEq] at hb; right; omega
            have hdd7 : Drawn wk (w7.setCell ⟨X, 0, none⟩ (.slice O7 (k + 1) c7)) C v n := ((hd.trans hd3').grown hck hg7 fun r hr => by have := (hG3.own.lt r hr).1; omega).setCell hck (by simp; omega) _
            have hrr := rx_snoc_le Hr.out (row := l) (by omega)
            have hs8 : wi.heap.size ≤ (w7.setCell ⟨X, 0, none⟩ (.slice O7 (k + 1) c7)).heap.size := by have := hg7.size; simp; omega
            generalize w7.setCell ⟨X, 0, none⟩ (.slice O7 (k + 1) c7) = w8 at *
            have hwX8 := hG8.box.lt
            have p1 := hG8.box.c1
            go_wp2_with (at_builtin; refine append_oneH elem_rows w8 rfl (.tmp 38) (.tmp 40) rfl (X + 1) nv _ vs rfl hG8.rows.own (.slice NA l.length nc) rfl w8.heap.size rfl rfl (by rw [hl2.out]; omega) (by omega) ?_; intro v9 w9 ho9 hg9 hd9; obtain ⟨A9, c9, e9, _⟩ := SlF.of_own ho9; rw [hl2.out] at e9; subst e9; have hX9 : Arr w9 X 30 [.slice O7 (k + 1) c7, nv] := hG8.box.kept' hg9 (fun e => by have := (hG8.rows.own.lt _ e.symm).1; omega); have p5 := hX9.c1; have p6 := hX9.frozen 1)
            have hG10 := hG8.row1 (row := l) ⟨hN8.more (by omega), fun b hb => (hN8.lt b hb).2⟩ (fun b hb => ⟨fun e => by
              have h1 := hov8 b e
              have h2 := hNb b hb
              omega, fun j' hj' e => by
              have h1 := hrwo j' hj' b e
              have h2 := (hNb b hb).1
              omega⟩) ho9 hg9
            have hd10 := ((hdd7.grown hck hg9 fun r hr => by have := (hG8.rows.own.lt r hr).1; omega).setCell hck (p := ⟨X, 1, none⟩) (by simp; omega) (.slice A9 (k + 1) c9))
            exact ⟨⟨k + 1, _, _, _, _, _, by omega, by go_num, hG10, Lib.hid (by rw [List.length_append, List.length_singleton, hl1.out]), Lib.hid (by rw [List.length_append, List.length_singleton, hl2.out]), Lib.hid hrr, hd10⟩, by simp [intOf]; omega⟩
    · obtain rfl : k = N := by omega
      have hlt2 : ¬ (k : Int) < k := by omega
      obtain ⟨OA, oc, NA, nc, e1, e2⟩ := hG.forms
      rw [Hl1.out] at e1
      rw [Hl2.out] at e2
      subst e1
      subst e2
      have hXc0 := hG.box.c0
      have hXc1 := hG.box.c1
      have hRo : Arr wo w.heap.size 30 [.slice none 0 0, .slice none 0 0] := (hd.2.block w.heap.size hRk.lt (by omega)).trans hRk
      have q0 := hRo.c0
      have q1 := hRo.c1
      have q2 := hRo.frozen 0
      have q3 := hRo.frozen 1
      go_wp2
      have hR6 := (hRo.set_ 0 (.slice OA k oc)).set_ 1 (.slice NA k nc)
      have hd6 : Drawn w ((wo.setCell ⟨w.heap.size, 0, none⟩ (.slice OA k oc)).setCell ⟨w.heap.size, 1, none⟩ (.slice NA k nc)) C v n := ((hdk.trans hd).setCell hc (p := ⟨w.heap.size, 0, none⟩) (Nat.le_refl _) _).setCell hc (p := ⟨w.heap.size, 1, none⟩) (Nat.le_refl _) _
      have hcb : ∀ b, X ≤ b → ((wo.setCell ⟨w.heap.size, 0, none⟩ (.slice OA k oc)).setCell ⟨w.heap.size, 1, none⟩ (.slice NA k nc)).heap[b]? = wo.heap[b]? := fun b hb => by
        rw [Below.heap_setCell _ _ _ _ (by simp; omega), Below.heap_setCell _ _ _ _ (by simp; omega)]
      have hsz : ((wo.setCell ⟨w.heap.size, 0, none⟩ (.slice OA k oc)).setCell ⟨w.heap.size, 1, none⟩ (.slice NA k nc)).heap.size = wo.heap.size := by simp
      have hoa := (hG.arena (Nat.le_refl X)).heapFrom hcb
      generalize (wo.setCell ⟨w.heap.size, 0, none⟩ (.slice OA k oc)).setCell ⟨w.heap.size, 1, none⟩ (.slice NA k nc) = w6 at *
      have p0 := hR6.c0
      have p1 := hR6.c1
      have hsm : SmallA ⟨l1, l2⟩ := ⟨by show 1 ≤ l1.length; rw [Hl1.out]; omega, by show l1.length ≤ 8; rw [Hl1.out]; omega, by show l2.length = l1.length; rw [Hl1.out, Hl2.out], Hr.out⟩
      refine bodyPost_ret (v := .agg #[.slice OA k oc, .slice NA k nc]) (by simp [results, Try.results150, go_sem, p0, p1]) rfl ?_
      first | exact ⟨_, rfl, ⟨l1, l2⟩, hoa.mono (by omega) (by omega), hsm, hd6⟩ | exact ⟨_, ⟨l1, l2⟩, rfl, hoa.mono (by omega) (by omega), hsm, hd6⟩
end Go.Proofs.Ytpnophmanpfejaa
