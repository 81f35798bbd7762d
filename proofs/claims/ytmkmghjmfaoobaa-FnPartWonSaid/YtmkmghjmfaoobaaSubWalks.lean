/- The walks of SubgameOf, the program's and the reference's. No condition. Printed by gen_sub.py. -/
import Derived.Test.YtmkmghjmfaoobaaInsideWalks2
import Derived.Test.YtmkmghjmfaoobaaPkB
namespace Go.Proofs.Ytmkmghjmfaoobaa
set_option linter.unusedSimpArgs false
set_option linter.unusedVariables false
open Go.RowKit

theorem RowsV.under {w w' : World} {B C : Nat} {v : Value} {vs : List Value} {ll : List (List Int)} (h : RowsV w B C v vs ll) (hb : Below C w w') : RowsV w' B C v vs ll :=
  h.heap (fun b hbb => hb.block b (h.lt b hbb)) (fun k hk b hbb => hb.block b ((h.row k hk).2 b hbb))
theorem OA.under {w w' : World} {B C : Nat} {v : Value} {a : ArenaD} (h : OA w B C v a) (hb : Below C w w') : OA w' B C v a := by
  obtain ⟨o, n, vs, rfl, h1, h2, h3⟩ := h
  exact ⟨o, n, vs, rfl, h1.under hb, h2.under hb, h3⟩
def subOkB (g : ParityD) (s : List Int) : Bool := parityOkB g && insOkB g.arena s
def subP (g : ParityD) (s : List Int) : ParityD := ⟨insP g.arena s, s.map fun v => ix g.prio v.toNat⟩
def subG (g : ParityD) (s : List Int) : ParityD := if subOkB g s then subP g s else ⟨⟨[], []⟩, []⟩
theorem subG_bulk (g : ParityD) (s : List Int) : bulkP (subG g s) ≤ 1049000 := by
  unfold subG
  split
  · rename_i h
    unfold subOkB at h
    rw [Bool.and_eq_true] at h
    have h1 := insG_bulk g.arena s
    have h2 : insG g.arena s = insP g.arena s := by unfold insG; rw [h.2]; rfl
    rw [h2] at h1
    have h3 := h.2
    unfold insOkB at h3
    simp only [Bool.and_eq_true] at h3
    have h4 := (isSetB_iff.1 h3.2.1).length_le
    have h5 := (arenaOkB_iff.1 h3.1).le
    unfold bulkP subP
    simp only [List.length_map]
    unfold bulkA at *
    omega
  · simp [bulkP, bulkA, sizeR]
theorem parity_boxR {w : World} {v : Value} {g : ParityD} (hv : IsParity w v g) : ∃ o n p, v = .agg #[o, n, p] ∧ Below w.heap.size w ((w.alloc (.cells #[o, n, p] 32)).alloc (.cells #[.slice none 0 0, .slice none 0 0, .slice none 0 0] 32)) ∧
    Arr ((w.alloc (.cells #[o, n, p] 32)).alloc (.cells #[.slice none 0 0, .slice none 0 0, .slice none 0 0] 32)) w.heap.size 32 [o, n, p] ∧ Arr ((w.alloc (.cells #[o, n, p] 32)).alloc (.cells #[.slice none 0 0, .slice none 0 0, .slice none 0 0] 32)) (w.heap.size + 1) 32 [.slice none 0 0, .slice none 0 0, .slice none 0 0] := by
  obtain ⟨o, n, p, rfl, hbw, hB⟩ := parity_box hv
  refine ⟨o, n, p, rfl, hbw.alloc hbw.size _, hB.alloc _, ?_⟩
  simpa using Arr.new (w.alloc (.cells #[o, n, p] 32)) 32 [.slice none 0 0, .slice none 0 0, .slice none 0 0]


set_option maxRecDepth 100000 in
set_option maxHeartbeats 8000000 in
theorem specSubgameOf_any (v : Value) (g : ParityD) (u : Value) (s : List Int) (w : World) (hv : IsParity w v g) (hu : Ints w u s) :
    Calls Try.prog 39 #[v, u] w (RetParityB w (subG g s) (subOkB g s)) := by
  obtain ⟨o, n, p, rfl, hbw, hB, hR⟩ := parity_boxR hv
  obtain ⟨US, uc, rfl, huc, hum⟩ := hu.form
  obtain ⟨hva, hp⟩ := hv.parts
  obtain ⟨PS, pc, rfl, hpc, hpm⟩ := hp.form
  have hws := hbw.size
  have hR2 := hR.lt
  cases hE2 : insOkB g.arena s
  · have hres : subOkB g s = false := by unfold subOkB; rw [hE2, Bool.and_false]
    have hfix : subG g s = ⟨⟨[], []⟩, []⟩ := by unfold subG; rw [hres]; rfl
    rw [hfix, hres]; clear hres hfix
    go_enter Try.func39, Try.ntmps39
    have hBz := hB.lt
    have hBc0 := hB.c0
    have hBc1 := hB.c1
    have hBc2 := hB.c2
    have hRz := hR.lt
    have hRc0 := hR.c0
    have hRc1 := hR.c1
    have hRc2 := hR.c2
    go_wp2_with fail
    refine (specInsideOf_any _ g.arena _ s _ (hv.kept (Kept.of hbw)).parts.1 (hu.kept (Kept.of hbw))).mono ?_
    rintro e w4 ⟨u4, rfl, hu4, hb4⟩
    obtain ⟨F1, f1, F2, f2, hf⟩ := OA.form hu4
    subst hf
    clear hBc0 hBc1 hBc2 hRc0 hRc1 hRc2 hBz hRz
    replace hB := hB.below hb4 hB.lt
    replace hR := hR.below hb4 hR.lt
    replace hbw := Below.up hbw hb4
    have hb4s := hb4.size
    clear hb4
    have hBz := hB.lt
    have hBc0 := hB.c0
    have hBc1 := hB.c1
    have hBc2 := hB.c2
    have hRz := hR.lt
    have hRc0 := hR.c0
    have hRc1 := hR.c1
    have hRc2 := hR.c2
    have hY := Arr.new w4 30 [.slice F1 (insG g.arena s).owner.length f1, .slice F2 (insG g.arena s).next.length f2]
    have hbY := (Below.refl w4.heap.size w4).alloc (Nat.le_refl _) (.cells #[.slice F1 (insG g.arena s).owner.length f1, .slice F2 (insG g.arena s).next.length f2] 30)
    have hu5 := hu4.below hbY
    have hYs : w4.heap.size < (w4.alloc (.cells #[.slice F1 (insG g.arena s).owner.length f1, .slice F2 (insG g.arena s).next.length f2] 30)).heap.size := hY.lt
    clear hu4
    clear hBc0 hBc1 hBc2 hRc0 hRc1 hRc2 hBz hRz
    replace hB := hB.below hbY hB.lt
    replace hR := hR.below hbY hR.lt
    replace hbw := Below.up hbw hbY
    have hbYs := hbY.size
    clear hbY
    have hBz := hB.lt
    have hBc0 := hB.c0
    have hBc1 := hB.c1
    have hBc2 := hB.c2
    have hRz := hR.lt
    have hRc0 := hR.c0
    have hRc1 := hR.c1
    have hRc2 := hR.c2
    have q0 := hR.c0
    have q1 := hR.c1
    have q2 := hR.c2
    have q3 := hR.frozen 0
    have q4 := hR.frozen 1
    have q5 := hR.frozen 2
    go_wp2
    have hR6 := ((hR.set_ 0 (.slice none 0 0)).set_ 1 (.slice none 0 0)).set_ 2 (.slice none 0 0)
    have hbw6 : Below w.heap.size w ((((w4.alloc (.cells #[.slice F1 (insG g.arena s).owner.length f1, .slice F2 (insG g.arena s).next.length f2] 30)).setCell ⟨w.heap.size + 1, 0, none⟩ (.slice none 0 0)).setCell ⟨w.heap.size + 1, 1, none⟩ (.slice none 0 0)).setCell ⟨w.heap.size + 1, 2, none⟩ (.slice none 0 0)) := ((hbw.setCell (by simp) _).setCell (by simp) _).setCell (by simp) _
    generalize (((w4.alloc (.cells #[.slice F1 (insG g.arena s).owner.length f1, .slice F2 (insG g.arena s).next.length f2] 30)).setCell ⟨w.heap.size + 1, 0, none⟩ (.slice none 0 0)).setCell ⟨w.heap.size + 1, 1, none⟩ (.slice none 0 0)).setCell ⟨w.heap.size + 1, 2, none⟩ (.slice none 0 0) = w6 at *
    have p0 := hR6.c0
    have p1 := hR6.c1
    have p2 := hR6.c2
    refine bodyPost_ret (v := .tuple #[.agg #[.slice none 0 0, .slice none 0 0, .slice none 0 0], .bool false]) (by simp [results, Try.results39, go_sem, p0, p1, p2]) rfl ?_
    exact .mk' (OP.none' _ _ _) hbw6
  · cases hE : parityOkB g
    · have hres : subOkB g s = false := by unfold subOkB; rw [hE]; rfl
      have hfix : subG g s = ⟨⟨[], []⟩, []⟩ := by unfold subG; rw [hres]; rfl
      rw [hfix, hres]; clear hres hfix
      go_enter Try.func39, Try.ntmps39
      have hBz := hB.lt
      have hBc0 := hB.c0
      have hBc1 := hB.c1
      have hBc2 := hB.c2
      have hRz := hR.lt
      have hRc0 := hR.c0
      have hRc1 := hR.c1
      have hRc2 := hR.c2
      go_wp2_with fail
      refine (specInsideOf_any _ g.arena _ s _ (hv.kept (Kept.of hbw)).parts.1 (hu.kept (Kept.of hbw))).mono ?_
      rintro e w4 ⟨u4, rfl, hu4, hb4⟩
      obtain ⟨F1, f1, F2, f2, hf⟩ := OA.form hu4
      subst hf
      clear hBc0 hBc1 hBc2 hRc0 hRc1 hRc2 hBz hRz
      replace hB := hB.below hb4 hB.lt
      replace hR := hR.below hb4 hR.lt
      replace hbw := Below.up hbw hb4
      have hb4s := hb4.size
      clear hb4
      have hBz := hB.lt
      have hBc0 := hB.c0
      have hBc1 := hB.c1
      have hBc2 := hB.c2
      have hRz := hR.lt
      have hRc0 := hR.c0
      have hRc1 := hR.c1
      have hRc2 := hR.c2
      have hY := Arr.new w4 30 [.slice F1 (insG g.arena s).owner.length f1, .slice F2 (insG g.arena s).next.length f2]
      have hbY := (Below.refl w4.heap.size w4).alloc (Nat.le_refl _) (.cells #[.slice F1 (insG g.arena s).owner.length f1, .slice F2 (insG g.arena s).next.length f2] 30)
      have hu5 := hu4.below hbY
      have hYs : w4.heap.size < (w4.alloc (.cells #[.slice F1 (insG g.arena s).owner.length f1, .slice F2 (insG g.arena s).next.length f2] 30)).heap.size := hY.lt
      clear hu4
      clear hBc0 hBc1 hBc2 hRc0 hRc1 hRc2 hBz hRz
      replace hB := hB.below hbY hB.lt
      replace hR := hR.below hbY hR.lt
      replace hbw := Below.up hbw hbY
      have hbYs := hbY.size
      clear hbY
      have hBz := hB.lt
      have hBc0 := hB.c0
      have hBc1 := hB.c1
      have hBc2 := hB.c2
      have hRz := hR.lt
      have hRc0 := hR.c0
      have hRc1 := hR.c1
      have hRc2 := hR.c2
      go_wp2_with fail
      refine (specParityOk_any _ g _ (hv.kept (Kept.of hbw))).mono ?_
      rintro e w1 ⟨rfl, hb1⟩
      clear hBc0 hBc1 hBc2 hRc0 hRc1 hRc2 hBz hRz
      replace hB := hB.below hb1 hB.lt
      replace hR := hR.below hb1 hR.lt
      replace hbw := Below.up hbw hb1
      have hb1s := hb1.size
      clear hb1
      have hBz := hB.lt
      have hBc0 := hB.c0
      have hBc1 := hB.c1
      have hBc2 := hB.c2
      have hRz := hR.lt
      have hRc0 := hR.c0
      have hRc1 := hR.c1
      have hRc2 := hR.c2
      have q0 := hR.c0
      have q1 := hR.c1
      have q2 := hR.c2
      have q3 := hR.frozen 0
      have q4 := hR.frozen 1
      have q5 := hR.frozen 2
      go_wp2
      have hR6 := ((hR.set_ 0 (.slice none 0 0)).set_ 1 (.slice none 0 0)).set_ 2 (.slice none 0 0)
      have hbw6 : Below w.heap.size w (((w1.setCell ⟨w.heap.size + 1, 0, none⟩ (.slice none 0 0)).setCell ⟨w.heap.size + 1, 1, none⟩ (.slice none 0 0)).setCell ⟨w.heap.size + 1, 2, none⟩ (.slice none 0 0)) := ((hbw.setCell (by simp) _).setCell (by simp) _).setCell (by simp) _
      generalize ((w1.setCell ⟨w.heap.size + 1, 0, none⟩ (.slice none 0 0)).setCell ⟨w.heap.size + 1, 1, none⟩ (.slice none 0 0)).setCell ⟨w.heap.size + 1, 2, none⟩ (.slice none 0 0) = w6 at *
      have p0 := hR6.c0
      have p1 := hR6.c1
      have p2 := hR6.c2
      refine bodyPost_ret (v := .tuple #[.agg #[.slice none 0 0, .slice none 0 0, .slice none 0 0], .bool false]) (by simp [results, Try.results39, go_sem, p0, p1, p2]) rfl ?_
      exact .mk' (OP.none' _ _ _) hbw6
    · have hres : subOkB g s = true := by unfold subOkB; rw [hE, hE2]; rfl
      have hfix : subG g s = subP g s := by unfold subG; rw [hres]; rfl
      rw [hfix, hres]; clear hres hfix
      have hw1 := hbw.size
      have hRw1 := hR.lt
      go_enter Try.func39, Try.ntmps39
      have hBz := hB.lt
      have hBc0 := hB.c0
      have hBc1 := hB.c1
      have hBc2 := hB.c2
      have hRz := hR.lt
      have hRc0 := hR.c0
      have hRc1 := hR.c1
      have hRc2 := hR.c2
      go_wp2_with fail
      generalize (w.alloc (.cells #[o, n, .slice PS g.prio.length pc] 32)).alloc (.cells #[.slice none 0 0, .slice none 0 0, .slice none 0 0] 32) = wz at *
      have hins : insG g.arena s = insP g.arena s := by unfold insG; rw [hE2]; rfl
      have hl1 : (insP g.arena s).owner.length = s.length := by unfold insP; simp
      have hl2 : (insP g.arena s).next.length = s.length := by unfold insP; simp
      have hcon := specInsideOf_any _ g.arena _ s _ (hv.kept (Kept.of hbw)).parts.1 (hu.kept (Kept.of hbw))
      rw [hins, hE2] at hcon
      refine hcon.mono ?_
      rintro e w4 ⟨u4, rfl, hu4, hb4⟩
      obtain ⟨F1, f1, F2, f2, hf⟩ := OA.form hu4
      rw [hl1, hl2] at hf
      clear hins hl1 hl2 hcon
      subst hf
      clear hBc0 hBc1 hBc2 hRc0 hRc1 hRc2 hBz hRz
      replace hB := hB.below hb4 hB.lt
      replace hR := hR.below hb4 hR.lt
      replace hbw := Below.up hbw hb4
      have hb4s := hb4.size
      clear hb4
      have hBz := hB.lt
      have hBc0 := hB.c0
      have hBc1 := hB.c1
      have hBc2 := hB.c2
      have hRz := hR.lt
      have hRc0 := hR.c0
      have hRc1 := hR.c1
      have hRc2 := hR.c2
      have hY := Arr.new w4 30 [.slice F1 s.length f1, .slice F2 s.length f2]
      have hbY := (Below.refl w4.heap.size w4).alloc (Nat.le_refl _) (.cells #[.slice F1 s.length f1, .slice F2 s.length f2] 30)
      have hu5 := hu4.below hbY
      have hYs : w4.heap.size < (w4.alloc (.cells #[.slice F1 s.length f1, .slice F2 s.length f2] 30)).heap.size := hY.lt
      clear hu4
      clear hBc0 hBc1 hBc2 hRc0 hRc1 hRc2 hBz hRz
      replace hB := hB.below hbY hB.lt
      replace hR := hR.below hbY hR.lt
      replace hbw := Below.up hbw hbY
      have hbYs := hbY.size
      clear hbY
      have hBz := hB.lt
      have hBc0 := hB.c0
      have hBc1 := hB.c1
      have hBc2 := hB.c2
      have hRz := hR.lt
      have hRc0 := hR.c0
      have hRc1 := hR.c1
      have hRc2 := hR.c2
      go_wp2_with fail
      refine (specParityOk_any _ g _ (hv.kept (Kept.of hbw))).mono ?_
      rintro e w8 ⟨rfl, hb8⟩
      replace hY := hY.below hb8 hY.lt
      have hYs8 := hb8.size
      replace hu5 := hu5.below hb8
      clear hBc0 hBc1 hBc2 hRc0 hRc1 hRc2 hBz hRz
      replace hB := hB.below hb8 hB.lt
      replace hR := hR.below hb8 hR.lt
      replace hbw := Below.up hbw hb8
      have hb8s := hb8.size
      clear hb8
      have hBz := hB.lt
      have hBc0 := hB.c0
      have hBc1 := hB.c1
      have hBc2 := hB.c2
      have hRz := hR.lt
      have hRc0 := hR.c0
      have hRc1 := hR.c1
      have hRc2 := hR.c2
      replace hYs := Nat.lt_of_lt_of_le hYs hYs8
      clear hYs8 hb8s
      have hE3 := hE2
      unfold insOkB at hE3
      simp only [Bool.and_eq_true] at hE3
      have hok := arenaOkB_iff.1 hE3.1
      have hs := isSetB_iff.1 hE3.2.1
      have hpk := parityOkB_iff.1 hE
      have hle := hok.le
      have hsl := hs.length_le
      have Hpl := Lib.hid hpk.len
      clear hE3
      have hYc0 := hY.c0
      have hYc1 := hY.c1
      go_wp2_with fail
      clear hE hE2
      have hW5 : (w4.alloc (.cells #[.slice F1 s.length f1, .slice F2 s.length f2] 30)).heap.size = w4.heap.size + 1 := by simp
      obtain ⟨w5, rfl⟩ : ∃ w5 : World, w5 = w8 := ⟨_, rfl⟩
      have hX0 := Arr.new w5 32 [.slice F1 s.length f1, .slice F2 s.length f2, .slice none 0 0]
      have hbn := (Below.refl w5.heap.size w5).alloc (Nat.le_refl _) (.cells #[.slice F1 s.length f1, .slice F2 s.length f2, .slice none 0 0] 32)
      have hBX := hB.lt
      have hRX := hR.lt
      have hw5 := hbw.size
      have hown0 := OwnInts.nil (w5.alloc (.cells #[.slice F1 s.length f1, .slice F2 s.length f2, .slice none 0 0] 32)) (w5.heap.size + 1)
      clear hBc0 hBc1 hBc2 hRc0 hRc1 hRc2 hBz hRz
      obtain ⟨X, hX⟩ : ∃ X, w5.heap.size = X := ⟨_, rfl⟩
      rw [hX] at hX0 hbn hBX hRX hown0 hYs hw5
      rw [hX]
      have hu6 := hu5.mono (Nat.le_refl _) (Nat.le_of_lt hYs)
      generalize w5.alloc (.cells #[.slice F1 s.length f1, .slice F2 s.length f2, .slice none 0 0] 32) = w7 at *
      clear hYc0 hYc1
      go_loopw [9] (fun i wx => ∃ (k : Nat) (pv : Value), k ≤ s.length ∧ i = .int .i64 k ∧ Arr wx X 32 [.slice F1 s.length f1, .slice F2 s.length f2, pv] ∧ OwnInts wx (X + 1) pv ((s.take k).map fun v => ix g.prio v.toNat) ∧ Below X w5 wx) (fun i _ => s.length - (intOf i).toNat)
      case atStart => exact ⟨0, _, Nat.zero_le _, rfl, hX0, hown0, hbn⟩
      case round =>
        obtain ⟨k, pv, hk, rfl, hX1, hown, hbX⟩ := hrel
        have hBo := hB.below hbX hBX
        have hRo := hR.below hbX hRX
        have hbwr : Below w.heap.size w wr := hbw.trans (hbX.mono hw5)
        have hwX : X < wr.heap.size := hX1.lt
        by_cases hlt : k < s.length
        · obtain ⟨a1, ea, hc1⟩ := (hu.kept (Kept.of hbwr)).at_ hlt
          subst ea
          obtain ⟨j, hj, hjn⟩ := hs.vert k hlt
          rw [hj] at hc1
          have hjp : j < g.prio.length := by rw [Hpl.out]; exact hjn
          obtain ⟨a3, ea, hc3⟩ := (hp.kept (Kept.of hbwr)).at_ hjp
          subst ea
          have hjl : (j : Int) < g.prio.length := by omega
          have hlt' : (k : Int) < s.length := by omega
          have Hs1 := Lib.hid (map_take_succ (fun v => ix g.prio v.toNat) hlt)
          rw [hj, Int.toNat_natCast] at Hs1
          clear hj
          have hl1 : Hid (((s.take k).map fun v => ix g.prio v.toNat).length = k) := Lib.hid (by rw [List.length_map, List.length_take]; omega)
          generalize (s.take k).map (fun v => ix g.prio v.toNat) = l1 at *
          have q0 := hX1.c2
          have q1 := hBo.c2
          have q3 := (hX1.alloc (.cells #[.int .i64 (ix g.prio j)] 2)).c2
          have hovd : OwnInts wr.drew (X + 1) pv l1 := hown
          have hovb := hown.lt
          go_wp2_with fail
          go_region_law (first | (refine step_append_int wr.drew rfl (.tmp 34) (.tmp 43) rfl (X + 1) pv l1 rfl hovd (ix g.prio j) rfl (by rw [hl1.out]; omega) hwX ?_; intro v7 w8 ho7 hg7 hd7; obtain ⟨O7, c7, e7, _⟩ := ho7.ints.form; rw [List.length_append, List.length_singleton, hl1.out] at e7; subst e7; have hX7 : Arr w8 X 32 [.slice F1 s.length f1, .slice F2 s.length f2, pv] := Arr.kept' (w := wr.drew) hX1 hg7 (fun e => by have := (hovb _ e.symm).1; omega); have q5 := hX7.c2; have q6 := hX7.frozen 2))
          all_goals
            clear q0 q1 q3 q5 q6
            have hg7' : wr.grownBy w8 pv.ownBlock := ⟨hg7.os, hg7.tape, hg7.output, hg7.size, hg7.block⟩
            have hX8 := hX7.set_ 2 (.slice O7 (k + 1) c7)
            have ho8 : OwnInts (w8.setCell ⟨X, 2, none⟩ (.slice O7 (k + 1) c7)) (X + 1) (.slice O7 (k + 1) c7) _ := ho7.far (by simp) _
            have hb8 : Below X w5 (w8.setCell ⟨X, 2, none⟩ (.slice O7 (k + 1) c7)) := (hbX.grown hg7' (by omega) fun b hb => by have := (hovb b hb).1; omega).setCell (Nat.le_refl _) _
            go_wp2
            exact ⟨⟨k + 1, _, by omega, by go_num, hX8, by rw [Hs1.out]; exact ho8, hb8⟩, by simp [intOf]; omega⟩
        · obtain rfl : k = s.length := by omega
          rw [List.take_length] at hown
          obtain ⟨PA, pc2, e1, _⟩ := hown.ints.form
          rw [List.length_map] at e1
          subst e1
          have hua := hu6.under hbX
          have hopp : OP wr wz.heap.size wr.heap.size (.agg #[.slice F1 s.length f1, .slice F2 s.length f2, .slice PA s.length pc2]) (subP g s) := OP.join (M := X) (g := subP g s) hua ((OI.of hown).mono (Nat.le_succ _) (Nat.le_refl _)) (by omega) (Nat.le_of_lt hwX)
          have hXc0 := hX1.c0
          have hXc1 := hX1.c1
          have hXc2 := hX1.c2
          have q0 := hRo.c0
          have q1 := hRo.c1
          have q2 := hRo.c2
          have q3 := hRo.frozen 0
          have q4 := hRo.frozen 1
          have q5 := hRo.frozen 2
          go_wp2
          have hR6 := ((hRo.set_ 0 (.slice F1 s.length f1)).set_ 1 (.slice F2 s.length f2)).set_ 2 (.slice PA s.length pc2)
          have hbw6 : Below w.heap.size w (((wr.setCell ⟨w.heap.size + 1, 0, none⟩ (.slice F1 s.length f1)).setCell ⟨w.heap.size + 1, 1, none⟩ (.slice F2 s.length f2)).setCell ⟨w.heap.size + 1, 2, none⟩ (.slice PA s.length pc2)) := ((hbwr.setCell (by simp) _).setCell (by simp) _).setCell (by simp) _
          have hcb : ∀ b, wz.heap.size ≤ b → (((wr.setCell ⟨w.heap.size + 1, 0, none⟩ (.slice F1 s.length f1)).setCell ⟨w.heap.size + 1, 1, none⟩ (.slice F2 s.length f2)).setCell ⟨w.heap.size + 1, 2, none⟩ (.slice PA s.length pc2)).heap[b]? = wr.heap[b]? := fun b hb => by
            rw [Below.heap_setCell _ _ _ _ (by simp; omega), Below.heap_setCell _ _ _ _ (by simp; omega), Below.heap_setCell _ _ _ _ (by simp; omega)]
          have hsz : (((wr.setCell ⟨w.heap.size + 1, 0, none⟩ (.slice F1 s.length f1)).setCell ⟨w.heap.size + 1, 1, none⟩ (.slice F2 s.length f2)).setCell ⟨w.heap.size + 1, 2, none⟩ (.slice PA s.length pc2)).heap.size = wr.heap.size := by simp
          have hop6 := hopp.heapFrom hcb
          generalize ((wr.setCell ⟨w.heap.size + 1, 0, none⟩ (.slice F1 s.length f1)).setCell ⟨w.heap.size + 1, 1, none⟩ (.slice F2 s.length f2)).setCell ⟨w.heap.size + 1, 2, none⟩ (.slice PA s.length pc2) = w6 at *
          have p0 := hR6.c0
          have p1 := hR6.c1
          have p2 := hR6.c2
          refine bodyPost_ret (v := .tuple #[.agg #[.slice F1 s.length f1, .slice F2 s.length f2, .slice PA s.length pc2], .bool true]) (by simp [results, Try.results39, go_sem, p0, p1, p2]) rfl ?_
          exact .mk' (hop6.mono (by omega) (by omega)) hbw6

end Go.Proofs.Ytmkmghjmfaoobaa
