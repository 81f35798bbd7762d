/- The recursive search of loopsIn: what it marks and what it tells, in the order of leaving. Conditions: the rows lie below the search's own blocks; the lengths. Printed by gen_visit.py. -/
import Derived.Test.YtpnophmanpfejaaLoopsTell
import Derived.Test.YtpnophmanpfejaaLoopsPlain
namespace Go.Proofs.Ytpnophmanpfejaa
set_option linter.unusedSimpArgs false
set_option linter.unusedVariables false
open Go.RowKit

/-- What a search holds: the marks in block GD, found by the captured TD; itself in TV; what it tells goes to the row in TO. -/
structure VS (w : World) (B GD TD TW TV TO : Nat) (dm : List Bool) (ov : Value) (L : List Int) : Prop where
  td : Arr w TD 81 [.slice (some ⟨GD, 0, none⟩) dm.length dm.length]
  dn : BArr w GD dm
  tv : Arr w TV 123 [.func (.func 160) #[] #[.pointer (some ⟨TD, 0, none⟩), .pointer (some ⟨TW, 0, none⟩), .pointer (some ⟨TV, 0, none⟩)]]
  to : Arr w TO 22 [ov]
  own : OwnInts w B ov L
  far : ∀ b, ov.ownBlock = some b → b ≠ GD ∧ b ≠ TD ∧ b ≠ TV ∧ b ≠ TO
/-- Which blocks these are. -/
def VB (B GD TD TV TO : Nat) : Prop := B ≤ GD ∧ B ≤ TD ∧ B ≤ TV ∧ B ≤ TO ∧ GD ≠ TD ∧ GD ≠ TV ∧ GD ≠ TO ∧ TD ≠ TV ∧ TD ≠ TO ∧ TV ≠ TO
section
variable {w w' : World} {B GD TD TW TV TO : Nat} {dm : List Bool} {ov : Value} {L : List Int}
theorem VS.size (h : VS w B GD TD TW TV TO dm ov L) (hB : VB B GD TD TV TO) : B ≤ w.heap.size := by
  have := Arr.lt h.td
  obtain ⟨h1, h2, _⟩ := hB
  omega
theorem VS.mark (h : VS w B GD TD TW TV TO dm ov L) (hB : VB B GD TD TV TO) (v : Nat) :
    VS (w.setCell ⟨GD, v, none⟩ (.bool true)) B GD TD TW TV TO (dm.set v true) ov L ∧ Below B w (w.setCell ⟨GD, v, none⟩ (.bool true)) := by
  obtain ⟨h1, h2, h3, h4, h5, h6, h7, h8, h9, h10⟩ := hB
  refine ⟨⟨?_, h.dn.set_ v true, Arr.far h.tv (by simpa using h6.symm) _, Arr.far h.to (by simpa using h7.symm) _, ((OI.of h.own).heap fun b hb => Below.heap_setCell _ _ _ _ (by show b ≠ GD; exact (h.far b hb).1)).1, h.far⟩, (Below.refl B w).setCell (by simpa using h1) _⟩
  rw [List.length_set]
  exact Arr.far h.td (by simpa using h5.symm) _
theorem VS.told (h : VS w B GD TD TW TV TO dm ov L) (hB : VB B GD TD TV TO) {ov' : Value} {L' : List Int} (hT : Arr w' TO 22 [ov']) (ho : OwnInts w' B ov' L') (hne : ov'.ownBlock ≠ some TO)
    (hb : ov'.ownBlock = ov.ownBlock ∨ ov'.ownBlock = some (w.heap.size + 1)) (hc : Chg (fun b => b = TO ∨ ov.ownBlock = some b) w w') : VS w' B GD TD TW TV TO dm ov' L' ∧ Below B w w' := by
  obtain ⟨h1, h2, h3, h4, h5, h6, h7, h8, h9, h10⟩ := hB
  have d1 := Arr.lt h.td
  have d2 := h.dn.lt
  have d3 := Arr.lt h.tv
  have d4 := Arr.lt h.to
  refine ⟨⟨(hc.block TD d1 ?_).trans h.td, (hc.block GD d2 ?_).trans h.dn, (hc.block TV d3 ?_).trans h.tv, hT, ho, fun b hb' => ?_⟩, ⟨hc.os, hc.tape, hc.output, hc.size, fun k hk => hc.block k (by omega) ?_⟩⟩
  · rintro (e | e)
    · exact h9 e
    · exact (h.far _ e).2.1 rfl
  · rintro (e | e)
    · exact h7 e
    · exact (h.far _ e).1 rfl
  · rintro (e | e)
    · exact h10 e
    · exact (h.far _ e).2.2.1 rfl
  · rcases hb with e | e
    · rw [e] at hb'; exact h.far b hb'
    · rw [e] at hb'; injection hb' with hb'; omega
  · rintro (e | e)
    · omega
    · have := (h.own.lt k e).1; omega
end
/-- What a search turns: the marks, the told row's variable and that row; the row it leaves is the old one or a new one. -/
structure Turn (w w' : World) (GD TO : Nat) (ov ov' : Value) : Prop where
  chg : Chg (fun b => b = GD ∨ b = TO ∨ ov.ownBlock = some b) w w'
  own : ov'.ownBlock = ov.ownBlock ∨ ∃ b, ov'.ownBlock = some b ∧ w.heap.size ≤ b
theorem Turn.mark (w : World) (GD TO v : Nat) (ov x : Value) : Turn w (w.setCell ⟨GD, v, none⟩ x) GD TO ov ov :=
  ⟨⟨rfl, rfl, rfl, by simp, fun k _ hk => Below.heap_setCell _ _ _ _ (fun e => hk (.inl e))⟩, .inl rfl⟩
theorem Turn.told {w w' : World} {GD TO : Nat} {ov ov' : Value} (hb : ov'.ownBlock = ov.ownBlock ∨ ov'.ownBlock = some (w.heap.size + 1)) (hc : Chg (fun b => b = TO ∨ ov.ownBlock = some b) w w') : Turn w w' GD TO ov ov' :=
  ⟨hc.mono fun _ h => .inr h, hb.imp id fun e => ⟨_, e, Nat.le_succ _⟩⟩
theorem Turn.trans {w w1 w2 : World} {GD TO : Nat} {ov ov1 ov2 : Value} (h : Turn w w1 GD TO ov ov1) (k : Turn w1 w2 GD TO ov1 ov2) : Turn w w2 GD TO ov ov2 := by
  have hs := h.chg.size
  refine ⟨⟨k.chg.os.trans h.chg.os, k.chg.tape.trans h.chg.tape, k.chg.output.trans h.chg.output, Nat.le_trans hs k.chg.size, fun b hb hS => (k.chg.block b (by omega) ?_).trans (h.chg.block b hb hS)⟩, ?_⟩
  · rintro (e | e | e)
    · exact hS (.inl e)
    · exact hS (.inr (.inl e))
    · rcases h.own with h1 | ⟨c, h1, h2⟩
      · exact hS (.inr (.inr (h1.symm.trans e)))
      · rw [h1] at e; injection e with e; omega
  · rcases k.own with h1 | ⟨c, h1, h2⟩
    · rw [h1]; exact h.own
    · exact .inr ⟨c, h1, by omega⟩
theorem count_set_false {l : List Bool} {k : Nat} (hk : k < l.length) (h : bx l k = false) : (l.set k true).count false + 1 = l.count false := by
  rw [bx_lt hk] at h
  have h1 : 0 < l.count false := List.count_pos_iff.2 (h ▸ List.getElem_mem hk)
  rw [List.count_set hk, h]
  simp
  omega
/-- What a search leaves. -/
structure Visited (w : World) (B GD TD TW TV TO : Nat) (R : Nat → Nat → Prop) (dm : List Bool) (ov : Value) (L : List Int) (v : Nat) (w' : World) : Prop where
  out : ∃ (C : List Nat) (dm' : List Bool) (ov' : Value), Found R (fun x => bx dm x = true) v C ∧ dm'.length = dm.length ∧ (∀ x, bx dm' x = true ↔ bx dm x = true ∨ x ∈ C) ∧ C.length + dm'.count false = dm.count false ∧
    VS w' B GD TD TW TV TO dm' ov' (L ++ castL C) ∧ Below B w w' ∧ Turn w w' GD TO ov ov'

set_option maxHeartbeats 2000000 in
theorem visit2_any (c : Nat) : ∀ (u : Value) (rows : List (List Int)) (mv : Value) (m : List Bool) (B GD TD TW TV TO v : Nat) (dm : List Bool) (ov : Value) (L : List Int) (w0 w : World)
    (_ : Rows w0 u rows) (_ : Bools w0 mv m) (_ : Below w0.heap.size w0 w) (_ : w0.heap.size ≤ B) (_ : Arr w TW 81 [mv]) (_ : TW < B) (_ : VB B GD TD TV TO) (_ : VS w B GD TD TW TV TO dm ov L)
    (_ : m.length = rows.length) (_ : dm.length = rows.length) (_ : rows.length ≤ 1024) (_ : ∀ k, k < rows.length → ∀ t, t < (rx rows k).length → ∃ j : Nat, ix (rx rows k) t = (j : Int) ∧ j < rows.length) (_ : ∀ k, k < rows.length → (rx rows k).length ≤ 1048576)
    (_ : v < rows.length) (_ : bx dm v = false) (_ : dm.count false ≤ c) (_ : L.length + dm.count false ≤ 1024),
    Calls Try.prog 160 #[.int .i64 (v : Int), u, .func (.func 161) #[] #[.pointer (some ⟨TO, 0, none⟩)], .pointer (some ⟨TD, 0, none⟩), .pointer (some ⟨TW, 0, none⟩), .pointer (some ⟨TV, 0, none⟩)] w fun e w' => e = .returned (.tuple #[]) ∧ Visited w B GD TD TW TV TO (fun a b => (b : Int) ∈ rx rows a ∧ bx m b = true) dm ov L v w' := by
  induction c with
  | zero =>
    intro u rows mv m B GD TD TW TV TO v dm ov L w0 w _ _ _ _ _ _ _ _ _ hdl _ _ _ hv hdv hc _
    have h0 : 0 < dm.count false := List.count_pos_iff.2 (by rw [← hdv, bx_lt (by omega)]; exact List.getElem_mem _)
    omega
  | succ c IH =>
    intro u rows mv m B GD TD TW TV TO v dm ov L w0 w hr0 hm0 hk0 hB0 hw0 hTW hB hvs hml hdl hn hvn hrl hv hdv hc hL
    obtain ⟨A, ca, rfl, _, _⟩ := hr0.form
    obtain ⟨MA, mc, rfl, _, _⟩ := hm0.form
    have hvd : v < dm.length := by omega
    have q0 := Arr.c0 hvs.td
    have q1 := hvs.dn.frozen v
    have q2 := hvs.dn.cell hvd
    have hvl : (v : Int) < dm.length := by omega
    have hvl' : (v : Int) < rows.length := by omega
    obtain ⟨hvs1, hb1⟩ := hvs.mark hB v
    have ht1 := Lib.hid (Turn.mark w GD TO v ov (.bool true))
    have hk1 := hk0.trans (hb1.mono hB0)
    obtain ⟨ad, A2, c2, ead, hc2, hi2⟩ := hr0.at_ hv
    subst ead
    replace hc2 := (Kept.of hk1).cell hc2
    have hcs := count_set_false hvd hdv
    go_enter Try.func160, Try.ntmps160
    go_wp2_with fail
    clear q0 q1 q2 hc2
    generalize hW1 : w.setCell ⟨GD, v, none⟩ (.bool true) = w1 at *
    have hrl' := hrl v hv
    have Hd0 := Lib.hid hdv
    have Hcs := Lib.hid hcs
    have Hc := Lib.hid hc
    have Hcc := Lib.hid hL
    clear hc hcs hdv hL
    go_loopw [19] (fun i wr => ∃ (t : Nat) (C : List Nat) (dm' : List Bool) (ov' : Value), t ≤ (rx rows v).length ∧ i = .int .i64 t ∧ Hid (Finding (fun a b => (b : Int) ∈ rx rows a ∧ bx m b = true) (fun x => bx dm x = true) v (fun y => ∃ s, s < t ∧ ix (rx rows v) s = (y : Int)) C) ∧ Hid (dm'.length = dm.length) ∧ Hid (∀ x, bx dm' x = true ↔ bx dm x = true ∨ x = v ∨ x ∈ C) ∧ Hid (C.length + 1 + dm'.count false = dm.count false) ∧ VS wr B GD TD TW TV TO dm' ov' (L ++ castL C) ∧ Below B w wr ∧ Hid (Turn w wr GD TO ov ov')) (fun i _ => (rx rows v).length - (intOf i).toNat)
    case atStart =>
      refine ⟨0, [], dm.set v true, ov, Nat.zero_le _, rfl, Lib.hid (Finding.start (by rw [Hd0.out]; simp)|>.skip (u := v) (fun _ => .inr (.inl rfl)) (fun y ⟨s, h, _⟩ => by omega)), Lib.hid (by simp), Lib.hid fun x => ?_, Lib.hid (by have := Hcs.out; simp; omega), by simpa [castL] using hvs1, hb1, ht1⟩
      rw [bx_set hvd]
      by_cases e : x = v
      · simp [e]
      · simp [e]
    case round =>
      obtain ⟨t, C, dm', ov', ht, rfl, Hf, Hdl, Hdm, Hcn, hvs2, hb2, ht2⟩ := hrel
      by_cases htl : t < (rx rows v).length
      · obtain ⟨j, hj, hjn⟩ := hvn v hv t htl
        have hk2 := hk0.trans (hb2.mono hB0)
        obtain ⟨a3, e3, hc3⟩ := (hi2.kept (Kept.of hk2)).at_ htl
        subst e3
        rw [hj] at hc3
        have hmj : j < m.length := by omega
        obtain ⟨a4, e4, hc4⟩ := (hm0.kept (Kept.of hk2)).at_ hmj
        subst e4
        have hw2 := Arr.c0 (Arr.below hw0 hb2 hTW)
        have hdj : j < dm'.length := by rw [Hdl.out]; omega
        have p0 := Arr.c0 hvs2.td
        have p1 := hvs2.dn.cell hdj
        have p2 := Arr.c0 hvs2.tv
        have hjl : (j : Int) < dm'.length := by omega
        have hjl' : (j : Int) < m.length := by omega
        have htl' : (t : Int) < (rx rows v).length := by omega
        have Hj := Lib.hid hj
        clear hj
        have Hml := Lib.hid hml
        have Hdl0 := Lib.hid hdl
        have HT : Hid (∀ y : Nat, (∃ s, s < t + 1 ∧ ix (rx rows v) s = (y : Int)) → (∃ s, s < t ∧ ix (rx rows v) s = (y : Int)) ∨ y = j) := Lib.hid fun y ⟨s, hs, e⟩ => by
          by_cases h : s = t
          · subst h; rw [Hj.out] at e; right; omega
          · exact .inl ⟨s, by omega, e⟩
        cases em : bx m j
        · rw [em] at hc4
          have Hem := Lib.hid em
          clear em
          go_wp2
          exact ⟨⟨t + 1, C, dm', ov', by omega, by go_num, Lib.hid (Hf.out.skip (u := j) (fun hR => by have := hR.2; rw [Hem.out] at this; cases this) HT.out), Hdl, Hdm, Hcn, hvs2, hb2, ht2⟩, by simp [intOf]; omega⟩
        have Hem := Lib.hid em
        rw [em] at hc4
        clear em
        cases ed : bx dm' j
        rotate_left
        · rw [ed] at p1
          have Hed := Lib.hid ed
          clear ed
          go_wp2
          exact ⟨⟨t + 1, C, dm', ov', by omega, by go_num, Lib.hid (Hf.out.skip (u := j) (fun _ => (Hdm.out j).1 Hed.out) HT.out), Hdl, Hdm, Hcn, hvs2, hb2, ht2⟩, by simp [intOf]; omega⟩
        rw [ed] at p1
        have Hed := Lib.hid ed
        clear ed
        go_wp2_with fail
        refine (IH _ rows _ m B GD TD TW TV TO j dm' ov' (L ++ castL C) w0 _ hr0 hm0 hk2 hB0 (Arr.below hw0 hb2 hTW) hTW hB hvs2 Hml.out (Hdl.out.trans Hdl0.out) hn hvn hrl hjn Hed.out (by have := Hcn.out; have := Hc.out; have := Hcs.out; omega) (by have := Hcn.out; have := Hcc.out; simp; omega)).mono ?_
        rintro _ w3 ⟨rfl, hV⟩
        obtain ⟨C2, dm2, ov2, hF2, hdl2, hdm2, hcn2, hvs3, hb3, ht3⟩ := hV.out
        have HF2 := Lib.hid hF2
        have Hdl2 := Lib.hid hdl2
        have Hdm2 := Lib.hid hdm2
        have Hcn2 := Lib.hid hcn2
        have Ht3 := Lib.hid ht3
        clear ht3 hF2 hdl2 hdm2 hcn2 hV
        go_wp2
        refine ⟨⟨t + 1, C ++ C2, dm2, ov2, by omega, by go_num, Lib.hid ?_, Lib.hid (Hdl2.out.trans Hdl.out), Lib.hid fun x => ?_, Lib.hid ?_, by rw [castL_append, ← List.append_assoc]; exact hvs3, hb2.trans hb3, Lib.hid (ht2.out.trans Ht3.out)⟩, by simp [intOf]; omega⟩
        · have e : (fun x => bx dm' x = true) = fun x => bx dm x = true ∨ x = v ∨ x ∈ C := funext fun x => propext (Hdm.out x)
          exact Finding.more (by rw [Hd0.out]; simp) Hf.out ⟨mem_ix.2 ⟨t, htl, Hj.out⟩, Hem.out⟩ (e ▸ HF2.out) HT.out
        · rw [Hdm2.out, Hdm.out, List.mem_append]
          constructor
          · rintro ((h | h | h) | h)
            · exact .inl h
            · exact .inr (.inl h)
            · exact .inr (.inr (.inl h))
            · exact .inr (.inr (.inr h))
          · rintro (h | h | h | h)
            · exact .inl (.inl h)
            · exact .inl (.inr (.inl h))
            · exact .inl (.inr (.inr h))
            · exact .inr h
        · have := Hcn2.out
          have := Hcn.out
          rw [List.length_append]
          omega
      · obtain rfl : t = (rx rows v).length := by omega
        go_wp2_with fail
        refine (tell2_any (v : Int) TO B ov' (L ++ castL C) _ hvs2.to hvs2.own (fun e => (hvs2.far _ e).2.2.2 rfl) (by have := Hcn.out; have := Hcc.out; simp; omega) (hvs2.size hB) hB.2.2.2.1).mono ?_
        rintro _ w3 ⟨rfl, ov3, hT3, ho3, hne3, hb3, hch3⟩
        obtain ⟨hvs4, hb4⟩ := hvs2.told hB hT3 ho3 hne3 hb3 hch3
        have ht4 := Lib.hid (ht2.out.trans (Turn.told (GD := GD) hb3 hch3))
        go_wp2
        go_end0
        refine ⟨rfl, ⟨C ++ [v], dm', ov3, ?_, Hdl.out, fun x => ?_, by have := Hcn.out; simp; omega, ?_, hb2.trans hb4, ht4.out⟩⟩
        · exact Finding.done (by rw [Hd0.out]; simp) Hf.out fun y hR => by
            obtain ⟨s, hs, e⟩ := mem_ix.1 hR.1
            exact ⟨s, hs, e⟩
        · rw [Hdm.out, List.mem_append, List.mem_singleton]
          constructor
          · rintro (h | h | h)
            · exact .inl h
            · exact .inr (.inr h)
            · exact .inr (.inl h)
          · rintro (h | h | h)
            · exact .inl h
            · exact .inr (.inr h)
            · exact .inr (.inl h)
        · rw [castL_append, ← List.append_assoc]
          exact hvs4

set_option maxHeartbeats 2000000 in
theorem visit3_any (c : Nat) : ∀ (u : Value) (rows : List (List Int)) (mv : Value) (m : List Bool) (B GD TD TW TV TO v : Nat) (dm : List Bool) (ov : Value) (L : List Int) (w0 w : World)
    (_ : Rows w0 u rows) (_ : Bools w0 mv m) (_ : Below w0.heap.size w0 w) (_ : w0.heap.size ≤ B) (_ : Arr w TW 81 [mv]) (_ : TW < B) (_ : VB B GD TD TV TO) (_ : VS w B GD TD TW TV TO dm ov L)
    (_ : m.length = rows.length) (_ : dm.length = rows.length) (_ : rows.length ≤ 1024) (_ : ∀ k, k < rows.length → ∀ t, t < (rx rows k).length → ∃ j : Nat, ix (rx rows k) t = (j : Int) ∧ j < rows.length) (_ : ∀ k, k < rows.length → (rx rows k).length ≤ 1048576)
    (_ : v < rows.length) (_ : bx dm v = false) (_ : dm.count false ≤ c) (_ : L.length + dm.count false ≤ 1024),
    Calls Try.prog 160 #[.int .i64 (v : Int), u, .func (.func 162) #[] #[.pointer (some ⟨TO, 0, none⟩)], .pointer (some ⟨TD, 0, none⟩), .pointer (some ⟨TW, 0, none⟩), .pointer (some ⟨TV, 0, none⟩)] w fun e w' => e = .returned (.tuple #[]) ∧ Visited w B GD TD TW TV TO (fun a b => (b : Int) ∈ rx rows a ∧ bx m b = true) dm ov L v w' := by
  induction c with
  | zero =>
    intro u rows mv m B GD TD TW TV TO v dm ov L w0 w _ _ _ _ _ _ _ _ _ hdl _ _ _ hv hdv hc _
    have h0 : 0 < dm.count false := List.count_pos_iff.2 (by rw [← hdv, bx_lt (by omega)]; exact List.getElem_mem _)
    omega
  | succ c IH =>
    intro u rows mv m B GD TD TW TV TO v dm ov L w0 w hr0 hm0 hk0 hB0 hw0 hTW hB hvs hml hdl hn hvn hrl hv hdv hc hL
    obtain ⟨A, ca, rfl, _, _⟩ := hr0.form
    obtain ⟨MA, mc, rfl, _, _⟩ := hm0.form
    have hvd : v < dm.length := by omega
    have q0 := Arr.c0 hvs.td
    have q1 := hvs.dn.frozen v
    have q2 := hvs.dn.cell hvd
    have hvl : (v : Int) < dm.length := by omega
    have hvl' : (v : Int) < rows.length := by omega
    obtain ⟨hvs1, hb1⟩ := hvs.mark hB v
    have ht1 := Lib.hid (Turn.mark w GD TO v ov (.bool true))
    have hk1 := hk0.trans (hb1.mono hB0)
    obtain ⟨ad, A2, c2, ead, hc2, hi2⟩ := hr0.at_ hv
    subst ead
    replace hc2 := (Kept.of hk1).cell hc2
    have hcs := count_set_false hvd hdv
    go_enter Try.func160, Try.ntmps160
    go_wp2_with fail
    clear q0 q1 q2 hc2
    generalize hW1 : w.setCell ⟨GD, v, none⟩ (.bool true) = w1 at *
    have hrl' := hrl v hv
    have Hd0 := Lib.hid hdv
    have Hcs := Lib.hid hcs
    have Hc := Lib.hid hc
    have Hcc := Lib.hid hL
    clear hc hcs hdv hL
    go_loopw [19] (fun i wr => ∃ (t : Nat) (C : List Nat) (dm' : List Bool) (ov' : Value), t ≤ (rx rows v).length ∧ i = .int .i64 t ∧ Hid (Finding (fun a b => (b : Int) ∈ rx rows a ∧ bx m b = true) (fun x => bx dm x = true) v (fun y => ∃ s, s < t ∧ ix (rx rows v) s = (y : Int)) C) ∧ Hid (dm'.length = dm.length) ∧ Hid (∀ x, bx dm' x = true ↔ bx dm x = true ∨ x = v ∨ x ∈ C) ∧ Hid (C.length + 1 + dm'.count false = dm.count false) ∧ VS wr B GD TD TW TV TO dm' ov' (L ++ castL C) ∧ Below B w wr ∧ Hid (Turn w wr GD TO ov ov')) (fun i _ => (rx rows v).length - (intOf i).toNat)
    case atStart =>
      refine ⟨0, [], dm.set v true, ov, Nat.zero_le _, rfl, Lib.hid (Finding.start (by rw [Hd0.out]; simp)|>.skip (u := v) (fun _ => .inr (.inl rfl)) (fun y ⟨s, h, _⟩ => by omega)), Lib.hid (by simp), Lib.hid fun x => ?_, Lib.hid (by have := Hcs.out; simp; omega), by simpa [castL] using hvs1, hb1, ht1⟩
      rw [bx_set hvd]
      by_cases e : x = v
      · simp [e]
      · simp [e]
    case round =>
      obtain ⟨t, C, dm', ov', ht, rfl, Hf, Hdl, Hdm, Hcn, hvs2, hb2, ht2⟩ := hrel
      by_cases htl : t < (rx rows v).length
      · obtain ⟨j, hj, hjn⟩ := hvn v hv t htl
        have hk2 := hk0.trans (hb2.mono hB0)
        obtain ⟨a3, e3, hc3⟩ := (hi2.kept (Kept.of hk2)).at_ htl
        subst e3
        rw [hj] at hc3
        have hmj : j < m.length := by omega
        obtain ⟨a4, e4, hc4⟩ := (hm0.kept (Kept.of hk2)).at_ hmj
        subst e4
        have hw2 := Arr.c0 (Arr.below hw0 hb2 hTW)
        have hdj : j < dm'.length := by rw [Hdl.out]; omega
        have p0 := Arr.c0 hvs2.td
        have p1 := hvs2.dn.cell hdj
        have p2 := Arr.c0 hvs2.tv
        have hjl : (j : Int) < dm'.length := by omega
        have hjl' : (j : Int) < m.length := by omega
        have htl' : (t : Int) < (rx rows v).length := by omega
        have Hj := Lib.hid hj
        clear hj
        have Hml := Lib.hid hml
        have Hdl0 := Lib.hid hdl
        have HT : Hid (∀ y : Nat, (∃ s, s < t + 1 ∧ ix (rx rows v) s = (y : Int)) → (∃ s, s < t ∧ ix (rx rows v) s = (y : Int)) ∨ y = j) := Lib.hid fun y ⟨s, hs, e⟩ => by
          by_cases h : s = t
          · subst h; rw [Hj.out] at e; right; omega
          · exact .inl ⟨s, by omega, e⟩
        cases em : bx m j
        · rw [em] at hc4
          have Hem := Lib.hid em
          clear em
          go_wp2
          exact ⟨⟨t + 1, C, dm', ov', by omega, by go_num, Lib.hid (Hf.out.skip (u := j) (fun hR => by have := hR.2; rw [Hem.out] at this; cases this) HT.out), Hdl, Hdm, Hcn, hvs2, hb2, ht2⟩, by simp [intOf]; omega⟩
        have Hem := Lib.hid em
        rw [em] at hc4
        clear em
        cases ed : bx dm' j
        rotate_left
        · rw [ed] at p1
          have Hed := Lib.hid ed
          clear ed
          go_wp2
          exact ⟨⟨t + 1, C, dm', ov', by omega, by go_num, Lib.hid (Hf.out.skip (u := j) (fun _ => (Hdm.out j).1 Hed.out) HT.out), Hdl, Hdm, Hcn, hvs2, hb2, ht2⟩, by simp [intOf]; omega⟩
        rw [ed] at p1
        have Hed := Lib.hid ed
        clear ed
        go_wp2_with fail
        refine (IH _ rows _ m B GD TD TW TV TO j dm' ov' (L ++ castL C) w0 _ hr0 hm0 hk2 hB0 (Arr.below hw0 hb2 hTW) hTW hB hvs2 Hml.out (Hdl.out.trans Hdl0.out) hn hvn hrl hjn Hed.out (by have := Hcn.out; have := Hc.out; have := Hcs.out; omega) (by have := Hcn.out; have := Hcc.out; simp; omega)).mono ?_
        rintro _ w3 ⟨rfl, hV⟩
        obtain ⟨C2, dm2, ov2, hF2, hdl2, hdm2, hcn2, hvs3, hb3, ht3⟩ := hV.out
        have HF2 := Lib.hid hF2
        have Hdl2 := Lib.hid hdl2
        have Hdm2 := Lib.hid hdm2
        have Hcn2 := Lib.hid hcn2
        have Ht3 := Lib.hid ht3
        clear ht3 hF2 hdl2 hdm2 hcn2 hV
        go_wp2
        refine ⟨⟨t + 1, C ++ C2, dm2, ov2, by omega, by go_num, Lib.hid ?_, Lib.hid (Hdl2.out.trans Hdl.out), Lib.hid fun x => ?_, Lib.hid ?_, by rw [castL_append, ← List.append_assoc]; exact hvs3, hb2.trans hb3, Lib.hid (ht2.out.trans Ht3.out)⟩, by simp [intOf]; omega⟩
        · have e : (fun x => bx dm' x = true) = fun x => bx dm x = true ∨ x = v ∨ x ∈ C := funext fun x => propext (Hdm.out x)
          exact Finding.more (by rw [Hd0.out]; simp) Hf.out ⟨mem_ix.2 ⟨t, htl, Hj.out⟩, Hem.out⟩ (e ▸ HF2.out) HT.out
        · rw [Hdm2.out, Hdm.out, List.mem_append]
          constructor
          · rintro ((h | h | h) | h)
            · exact .inl h
            · exact .inr (.inl h)
            · exact .inr (.inr (.inl h))
            · exact .inr (.inr (.inr h))
          · rintro (h | h | h | h)
            · exact .inl (.inl h)
            · exact .inl (.inr (.inl h))
            · exact .inl (.inr (.inr h))
            · exact .inr h
        · have := Hcn2.out
          have := Hcn.out
          rw [List.length_append]
          omega
      · obtain rfl : t = (rx rows v).length := by omega
        go_wp2_with fail
        refine (tell3_any (v : Int) TO B ov' (L ++ castL C) _ hvs2.to hvs2.own (fun e => (hvs2.far _ e).2.2.2 rfl) (by have := Hcn.out; have := Hcc.out; simp; omega) (hvs2.size hB) hB.2.2.2.1).mono ?_
        rintro _ w3 ⟨rfl, ov3, hT3, ho3, hne3, hb3, hch3⟩
        obtain ⟨hvs4, hb4⟩ := hvs2.told hB hT3 ho3 hne3 hb3 hch3
        have ht4 := Lib.hid (ht2.out.trans (Turn.told (GD := GD) hb3 hch3))
        go_wp2
        go_end0
        refine ⟨rfl, ⟨C ++ [v], dm', ov3, ?_, Hdl.out, fun x => ?_, by have := Hcn.out; simp; omega, ?_, hb2.trans hb4, ht4.out⟩⟩
        · exact Finding.done (by rw [Hd0.out]; simp) Hf.out fun y hR => by
            obtain ⟨s, hs, e⟩ := mem_ix.1 hR.1
            exact ⟨s, hs, e⟩
        · rw [Hdm.out, List.mem_append, List.mem_singleton]
          constructor
          · rintro (h | h | h)
            · exact .inl h
            · exact .inr (.inr h)
            · exact .inr (.inl h)
          · rintro (h | h | h)
            · exact .inl h
            · exact .inr (.inr h)
            · exact .inr (.inl h)
        · rw [castL_append, ← List.append_assoc]
          exact hvs4
end Go.Proofs.Ytpnophmanpfejaa
