/- The walks of Turned, both ways. No condition. Printed by gen_turned.py. -/
import Derived.Test.YtpnophmanpfejaaPkB
import Derived.BigRegion
namespace Go.Proofs.Ytpnophmanpfejaa
set_option linter.unusedSimpArgs false
set_option linter.unusedVariables false
open Go.RowKit

def turnL (l : List Int) : List Int := l.map fun x => 1 - x
@[simp] theorem length_turnL (l : List Int) : (turnL l).length = l.length := by simp [turnL]
theorem ix_turnL {l : List Int} {k : Nat} (h : k < l.length) : ix (turnL l) k = 1 - ix l k := by simp [ix, turnL, h]
def turnA (a : ArenaD) : ArenaD := if arenaOkB a then ⟨turnL a.owner, a.next⟩ else ⟨[], []⟩
theorem turnA_len (a : ArenaD) (h : bulkA a ≤ 1048576) : bulkA (turnA a) ≤ 1048576 := by
  unfold turnA
  split
  · simpa [bulkA] using h
  · simp [bulkA, sizeR]
theorem sizeR_le {ll : List (List Int)} {k : Nat} (hk : k < ll.length) : (rx ll k).length ≤ sizeR ll := len_le_sizeR hk

set_option maxRecDepth 100000 in
set_option maxHeartbeats 2000000 in
theorem Turned_any (v : Value) (a : ArenaD) (w : World) (hv : IsArena w v a) :
    Calls Try.prog 135 #[v] w (RetArena w (turnA a)) := by
  obtain ⟨o, n, rfl, hbw, hB, _⟩ := arena_box hv
  obtain ⟨ho, hn⟩ := hv.parts
  have hR : Arr ((w.alloc (.cells #[o, n] 30)).alloc (.cells #[.slice none 0 0, .slice none 0 0] 30)) (w.heap.size + 1) 30 [.slice none 0 0, .slice none 0 0] := by
    simpa using Arr.new (w.alloc (.cells #[o, n] 30)) 30 [.slice none 0 0, .slice none 0 0]
  replace hB := hB.alloc (.cells #[.slice none 0 0, .slice none 0 0] 30)
  replace hbw := hbw.alloc hbw.size (.cells #[.slice none 0 0, .slice none 0 0] 30)
  cases hE : arenaOkB a
  · have hres : turnA a = ⟨[], []⟩ := by unfold turnA; rw [hE]; rfl
    rw [hres]; clear hres
    go_enter Try.func135, Try.ntmps135
    have hBz := hB.lt
    have hBc0 := hB.c0
    have hBc1 := hB.c1
    have hRz := hR.lt
    have hRc0 := hR.c0
    have hRc1 := hR.c1
    go_wp2_with fail
    refine (ArenaOk_any _ a _ (hv.kept (Kept.of hbw))).mono ?_
    rintro e w1 ⟨rfl, hb1⟩
    clear hBc0 hBc1 hRc0 hRc1 hBz hRz
    replace hB := hB.below hb1 hB.lt
    replace hR := hR.below hb1 hR.lt
    replace hbw := Below.up hbw hb1
    have hb1s := hb1.size
    clear hb1
    have hBz := hB.lt
    have hBc0 := hB.c0
    have hBc1 := hB.c1
    have hRz := hR.lt
    have hRc0 := hR.c0
    have hRc1 := hR.c1
    have hRf0 := hR.frozen 0
    have hRf1 := hR.frozen 1
    go_wp2
    have hR6 := (hR.set_ 0 (.slice none 0 0)).set_ 1 (.slice none 0 0)
    have hbw6 : Below w.heap.size w ((w1.setCell ⟨w.heap.size + 1, 0, none⟩ (.slice none 0 0)).setCell ⟨w.heap.size + 1, 1, none⟩ (.slice none 0 0)) := (hbw.setCell (by simp) _).setCell (by simp) _
    generalize (w1.setCell ⟨w.heap.size + 1, 0, none⟩ (.slice none 0 0)).setCell ⟨w.heap.size + 1, 1, none⟩ (.slice none 0 0) = w6 at *
    have q0 := hR6.c0
    have q1 := hR6.c1
    refine bodyPost_ret (v := .agg #[.slice none 0 0, .slice none 0 0]) (by simp [results, Try.results135, go_sem, q0, q1]) rfl ?_
    exact .mk' ⟨_, _, [], rfl, ⟨OwnInts.nil _ _, fun b hb => by simp [Value.ownBlock] at hb⟩, nil_rows _ _ _, fun b hb => by simp [Value.ownBlock] at hb⟩ hbw6
  · have hres : turnA a = ⟨turnL a.owner, a.next⟩ := by unfold turnA; rw [hE]; rfl
    rw [hres]; clear hres
    have hok := arenaOkB_iff.1 hE
    have hle := hok.le
    have hlen := Lib.hid hok.len
    have hpos := hok.pos
    go_enter Try.func135, Try.ntmps135
    have hBz := hB.lt
    have hBc0 := hB.c0
    have hBc1 := hB.c1
    have hRz := hR.lt
    have hRc0 := hR.c0
    have hRc1 := hR.c1
    go_wp2_with fail
    refine (ArenaOk_any _ a _ (hv.kept (Kept.of hbw))).mono ?_
    rintro e w1 ⟨rfl, hb1⟩
    clear hBc0 hBc1 hRc0 hRc1 hBz hRz
    replace hB := hB.below hb1 hB.lt
    replace hR := hR.below hb1 hR.lt
    replace hbw := Below.up hbw hb1
    have hb1s := hb1.size
    clear hb1
    have hBz := hB.lt
    have hBc0 := hB.c0
    have hBc1 := hB.c1
    have hRz := hR.lt
    have hRc0 := hR.c0
    have hRc1 := hR.c1
    go_wp2_with fail
    refine (copyArena_any _ a _ (hv.kept (Kept.of hbw)) (by omega) (by rw [hlen.out]; omega) (fun k hk => by have := (hok.deg (v := k) (by rw [← hlen.out]; exact hk)).2; omega)).mono ?_
    rintro e w3 ⟨u3, rfl, hu3, hb3⟩
    obtain ⟨o', n', vs, rfl, hoi, hrw, hne⟩ := hu3
    have hRl := hR.lt
    clear hBc0 hBc1 hRc0 hRc1 hBz hRz
    replace hB := hB.below hb3 hB.lt
    replace hR := hR.below hb3 hR.lt
    replace hbw := Below.up hbw hb3
    have hb3s := hb3.size
    clear hb3
    have hBz := hB.lt
    have hBc0 := hB.c0
    have hBc1 := hB.c1
    have hRz := hR.lt
    have hRc0 := hR.c0
    have hRc1 := hR.c1
    obtain ⟨N, nc, en, _⟩ := hrw.rows.form
    subst en
    rcases hoi.1.form with ⟨_, hnil⟩ | ⟨g, cap, eo, hg0, hg1, hcap, hcm⟩
    · rw [hnil] at hpos; simp at hpos
    · subst eo
      have hX0 : Arr (w3.alloc (.cells #[.slice (some ⟨g, 0, none⟩) a.owner.length cap, .slice N a.next.length nc] 30)) w3.heap.size 30 [.slice (some ⟨g, 0, none⟩) a.owner.length cap, .slice N a.next.length nc] := Arr.new _ _ _
      have hbn := (Below.refl w3.heap.size w3).alloc (Nat.le_refl _) (.cells #[.slice (some ⟨g, 0, none⟩) a.owner.length cap, .slice N a.next.length nc] 30)
      have hgw : w.heap.size + 1 < g := by omega
      replace hoi := hoi.below hbn
      replace hrw := hrw.kept (Only.of_below (B := w3.heap.size) (C := w3.heap.size) hbn) (.inl (Nat.le_refl _))
      go_wp2
      clear hBc0 hBc1 hRc0 hRc1 hBz hRz
      replace hB := hB.below hbn hB.lt
      replace hR := hR.below hbn hR.lt
      replace hbw := Below.up hbw hbn
      have hbns := hbn.size
      clear hbn
      have hBz := hB.lt
      have hBc0 := hB.c0
      have hBc1 := hB.c1
      have hRz := hR.lt
      have hRc0 := hR.c0
      have hRc1 := hR.c1
      clear hBc0 hBc1 hRc0 hRc1 hBz hRz
      generalize w3.alloc (.cells #[.slice (some ⟨g, 0, none⟩) a.owner.length cap, .slice N a.next.length nc] 30) = w4 at *
      have hw4 := hX0.lt
      go_loopw [14] (fun i wr => ∃ (k : Nat) (m : List Int), k ≤ a.owner.length ∧ i = .int .i64 k ∧ OwnInts wr w1.heap.size (.slice (some ⟨g, 0, none⟩) m.length cap) m ∧ m.length = a.owner.length ∧ (∀ j, j < a.owner.length → ix m j = if j < k then 1 - ix a.owner j else ix a.owner j) ∧ Chg (fun b => b = g) w4 wr) (fun i _ => a.owner.length - (intOf i).toNat)
      case atStart => exact ⟨0, a.owner, Nat.zero_le _, rfl, hoi.1, rfl, fun j hj => by rw [if_neg (by omega)], Chg.refl _ _⟩
      case round =>
        obtain ⟨k, m, hk, rfl, hom, hml, hmx, hch⟩ := hrel
        have Hml := Lib.hid hml
        have Hmx := Lib.hid hmx
        rw [hml] at hom
        clear hml hmx
        have hX := (hch.block w3.heap.size hw4 (by omega)).trans hX0
        replace hX : Arr wr w3.heap.size _ _ := hX
        have hXc0 := hX.c0
        by_cases hlt : k < a.owner.length
        · have hc1 := hom.cell (k := k) (by rw [Hml.out]; exact hlt)
          rw [Hmx.out k hlt, if_neg (by omega)] at hc1
          have hom' : OwnInts wr w1.heap.size (.slice (some ⟨g, 0, none⟩) m.length cap) m := by rw [Hml.out]; exact hom
          have hf1 := hom'.frozen k
          have hst := hom'.set_ k (1 - ix a.owner k)
          obtain ⟨hx0, hx1⟩ := hok.owner hlt
          have hlt' : (k : Int) < a.owner.length := by omega
          clear hom hom'
          go_wp2
          go_region
          all_goals
            go_wp2
            refine ⟨⟨k + 1, m.set k (1 - ix a.owner k), by omega, by go_num, by have h := OwnInts.drew hst.1; simpa using h, by simpa using Hml.out, fun j hj => ?_, hch.trans (Chg.drew ((Chg.of_grown hst.2).mono fun b hb => (Option.some.inj hb).symm))⟩, by simp [intOf]; omega⟩
            have := Hml.out
            rw [ix_set (by omega), Hmx.out j hj]
            by_cases ej : j = k
            · subst ej; rw [if_pos rfl, if_pos (by omega)]
            · rw [if_neg ej]
              by_cases ek : j < k
              · rw [if_pos ek, if_pos (by omega)]
              · rw [if_neg ek, if_neg (by omega)]
        · obtain rfl : k = a.owner.length := by omega
          have hmm : m = turnL a.owner := int_range_ext (by simpa using Hml.out) fun j hj => by
            rw [length_turnL] at hj
            rw [ix_turnL hj, Hmx.out j hj, if_pos hj]
          subst hmm
          have hXc1 := hX.c1
          replace hR := (hch.block (w.heap.size + 1) hR.lt (by omega)).trans hR
          replace hR : Arr wr (w.heap.size + 1) _ _ := hR
          have hRc0 := hR.c0
          have hRc1 := hR.c1
          have hRf0 := hR.frozen 0
          have hRf1 := hR.frozen 1
          have hrw5 := hrw.chg hch (fun b hb e => by rw [e] at hb; exact owns_ne hrw.own hoi.1 row_type_ne hb rfl) (fun j hj b hb e => by rw [e] at hb; exact hne g rfl j hj hb)
          go_wp2
          have hR6 := (hR.set_ 0 (.slice (some ⟨g, 0, none⟩) a.owner.length cap)).set_ 1 (.slice N a.next.length nc)
          have hbw5 : Below w.heap.size w wr := hbw.trans ⟨hch.os, hch.tape, hch.output, hch.size, fun b hb => hch.block b (by have := hbw.size; omega) (by omega)⟩
          have hbw6 : Below w.heap.size w ((wr.setCell ⟨w.heap.size + 1, 0, none⟩ (.slice (some ⟨g, 0, none⟩) a.owner.length cap)).setCell ⟨w.heap.size + 1, 1, none⟩ (.slice N a.next.length nc)) := (hbw5.setCell (by simp) _).setCell (by simp) _
          have hcb : ∀ b, w.heap.size + 2 ≤ b → ((wr.setCell ⟨w.heap.size + 1, 0, none⟩ (.slice (some ⟨g, 0, none⟩) a.owner.length cap)).setCell ⟨w.heap.size + 1, 1, none⟩ (.slice N a.next.length nc)).heap[b]? = wr.heap[b]? := fun b hb => by
            rw [Below.heap_setCell _ _ _ _ (by simp; omega), Below.heap_setCell _ _ _ _ (by simp; omega)]
          have hsz : ((wr.setCell ⟨w.heap.size + 1, 0, none⟩ (.slice (some ⟨g, 0, none⟩) a.owner.length cap)).setCell ⟨w.heap.size + 1, 1, none⟩ (.slice N a.next.length nc)).heap.size = wr.heap.size := by simp
          generalize (wr.setCell ⟨w.heap.size + 1, 0, none⟩ (.slice (some ⟨g, 0, none⟩) a.owner.length cap)).setCell ⟨w.heap.size + 1, 1, none⟩ (.slice N a.next.length nc) = w6 at *
          have q0 := hR6.c0
          have q1 := hR6.c1
          have hsz4 := hch.size
          have ho6 : OI w6 w.heap.size w6.heap.size (.slice (some ⟨g, 0, none⟩) a.owner.length cap) (turnL a.owner) := OI.mono (C := w3.heap.size) (B := w1.heap.size) (OI.heap (w := wr) ⟨hom, hoi.2⟩ fun b hb => hcb b (by simp [Value.ownBlock] at hb; omega)) (by omega) (by omega)
          have hr6 : RowsV w6 w.heap.size w6.heap.size (.slice N a.next.length nc) vs a.next := (hrw5.heap (fun b hb => hcb b (by have := (hrw5.own.lt b hb).1; omega)) fun k hk b hb => hcb b (by have := ((hrw5.row k hk).1.lt b hb).1; omega)).mono (by omega) (by omega)
          refine bodyPost_ret (v := .agg #[.slice (some ⟨g, 0, none⟩) a.owner.length cap, .slice N a.next.length nc]) (by simp [results, Try.results135, go_sem, q0, q1]) rfl ?_
          exact .mk' ⟨_, _, vs, rfl, ho6, hr6, hne⟩ hbw6

set_option maxRecDepth 100000 in
set_option maxHeartbeats 2000000 in
theorem specTurned_any (v : Value) (a : ArenaD) (w : World) (hv : IsArena w v a) :
    Calls Try.prog 80 #[v] w (RetArena w (turnA a)) := by
  obtain ⟨o, n, rfl, hbw, hB, _⟩ := arena_box hv
  obtain ⟨ho, hn⟩ := hv.parts
  have hR : Arr ((w.alloc (.cells #[o, n] 30)).alloc (.cells #[.slice none 0 0, .slice none 0 0] 30)) (w.heap.size + 1) 30 [.slice none 0 0, .slice none 0 0] := by
    simpa using Arr.new (w.alloc (.cells #[o, n] 30)) 30 [.slice none 0 0, .slice none 0 0]
  replace hB := hB.alloc (.cells #[.slice none 0 0, .slice none 0 0] 30)
  replace hbw := hbw.alloc hbw.size (.cells #[.slice none 0 0, .slice none 0 0] 30)
  cases hE : arenaOkB a
  · have hres : turnA a = ⟨[], []⟩ := by unfold turnA; rw [hE]; rfl
    rw [hres]; clear hres
    go_enter Try.func80, Try.ntmps80
    have hBz := hB.lt
    have hBc0 := hB.c0
    have hBc1 := hB.c1
    have hRz := hR.lt
    have hRc0 := hR.c0
    have hRc1 := hR.c1
    go_wp2_with fail
    refine (specArenaOk_any _ a _ (hv.kept (Kept.of hbw))).mono ?_
    rintro e w1 ⟨rfl, hb1⟩
    clear hBc0 hBc1 hRc0 hRc1 hBz hRz
    replace hB := hB.below hb1 hB.lt
    replace hR := hR.below hb1 hR.lt
    replace hbw := Below.up hbw hb1
    have hb1s := hb1.size
    clear hb1
    have hBz := hB.lt
    have hBc0 := hB.c0
    have hBc1 := hB.c1
    have hRz := hR.lt
    have hRc0 := hR.c0
    have hRc1 := hR.c1
    have hRf0 := hR.frozen 0
    have hRf1 := hR.frozen 1
    go_wp2
    have hR6 := (hR.set_ 0 (.slice none 0 0)).set_ 1 (.slice none 0 0)
    have hbw6 : Below w.heap.size w ((w1.setCell ⟨w.heap.size + 1, 0, none⟩ (.slice none 0 0)).setCell ⟨w.heap.size + 1, 1, none⟩ (.slice none 0 0)) := (hbw.setCell (by simp) _).setCell (by simp) _
    generalize (w1.setCell ⟨w.heap.size + 1, 0, none⟩ (.slice none 0 0)).setCell ⟨w.heap.size + 1, 1, none⟩ (.slice none 0 0) = w6 at *
    have q0 := hR6.c0
    have q1 := hR6.c1
    refine bodyPost_ret (v := .agg #[.slice none 0 0, .slice none 0 0]) (by simp [results, Try.results80, go_sem, q0, q1]) rfl ?_
    exact .mk' ⟨_, _, [], rfl, ⟨OwnInts.nil _ _, fun b hb => by simp [Value.ownBlock] at hb⟩, nil_rows _ _ _, fun b hb => by simp [Value.ownBlock] at hb⟩ hbw6
  · have hres : turnA a = ⟨turnL a.owner, a.next⟩ := by unfold turnA; rw [hE]; rfl
    rw [hres]; clear hres
    have hok := arenaOkB_iff.1 hE
    have hle := hok.le
    have hlen := Lib.hid hok.len
    have hpos := hok.pos
    go_enter Try.func80, Try.ntmps80
    have hBz := hB.lt
    have hBc0 := hB.c0
    have hBc1 := hB.c1
    have hRz := hR.lt
    have hRc0 := hR.c0
    have hRc1 := hR.c1
    go_wp2_with fail
    refine (specArenaOk_any _ a _ (hv.kept (Kept.of hbw))).mono ?_
    rintro e w1 ⟨rfl, hb1⟩
    clear hBc0 hBc1 hRc0 hRc1 hBz hRz
    replace hB := hB.below hb1 hB.lt
    replace hR := hR.below hb1 hR.lt
    replace hbw := Below.up hbw hb1
    have hb1s := hb1.size
    clear hb1
    have hBz := hB.lt
    have hBc0 := hB.c0
    have hBc1 := hB.c1
    have hRz := hR.lt
    have hRc0 := hR.c0
    have hRc1 := hR.c1
    go_wp2_with fail
    refine (l1CopyArena_any _ a _ (hv.kept (Kept.of hbw)) (by omega) (by rw [hlen.out]; omega) (fun k hk => by have := (hok.deg (v := k) (by rw [← hlen.out]; exact hk)).2; omega)).mono ?_
    rintro e w3 ⟨u3, rfl, hu3, hb3⟩
    obtain ⟨o', n', vs, rfl, hoi, hrw, hne⟩ := hu3
    have hRl := hR.lt
    clear hBc0 hBc1 hRc0 hRc1 hBz hRz
    replace hB := hB.below hb3 hB.lt
    replace hR := hR.below hb3 hR.lt
    replace hbw := Below.up hbw hb3
    have hb3s := hb3.size
    clear hb3
    have hBz := hB.lt
    have hBc0 := hB.c0
    have hBc1 := hB.c1
    have hRz := hR.lt
    have hRc0 := hR.c0
    have hRc1 := hR.c1
    obtain ⟨N, nc, en, _⟩ := hrw.rows.form
    subst en
    rcases hoi.1.form with ⟨_, hnil⟩ | ⟨g, cap, eo, hg0, hg1, hcap, hcm⟩
    · rw [hnil] at hpos; simp at hpos
    · subst eo
      have hX0 : Arr (w3.alloc (.cells #[.slice (some ⟨g, 0, none⟩) a.owner.length cap, .slice N a.next.length nc] 30)) w3.heap.size 30 [.slice (some ⟨g, 0, none⟩) a.owner.length cap, .slice N a.next.length nc] := Arr.new _ _ _
      have hbn := (Below.refl w3.heap.size w3).alloc (Nat.le_refl _) (.cells #[.slice (some ⟨g, 0, none⟩) a.owner.length cap, .slice N a.next.length nc] 30)
      have hgw : w.heap.size + 1 < g := by omega
      replace hoi := hoi.below hbn
      replace hrw := hrw.kept (Only.of_below (B := w3.heap.size) (C := w3.heap.size) hbn) (.inl (Nat.le_refl _))
      go_wp2
      clear hBc0 hBc1 hRc0 hRc1 hBz hRz
      replace hB := hB.below hbn hB.lt
      replace hR := hR.below hbn hR.lt
      replace hbw := Below.up hbw hbn
      have hbns := hbn.size
      clear hbn
      have hBz := hB.lt
      have hBc0 := hB.c0
      have hBc1 := hB.c1
      have hRz := hR.lt
      have hRc0 := hR.c0
      have hRc1 := hR.c1
      clear hBc0 hBc1 hRc0 hRc1 hBz hRz
      generalize w3.alloc (.cells #[.slice (some ⟨g, 0, none⟩) a.owner.length cap, .slice N a.next.length nc] 30) = w4 at *
      have hw4 := hX0.lt
      go_loopw [4] (fun i wr => ∃ (k : Nat) (m : List Int), k ≤ a.owner.length ∧ i = .int .i64 k ∧ OwnInts wr w1.heap.size (.slice (some ⟨g, 0, none⟩) m.length cap) m ∧ m.length = a.owner.length ∧ (∀ j, j < a.owner.length → ix m j = if j < k then 1 - ix a.owner j else ix a.owner j) ∧ Chg (fun b => b = g) w4 wr) (fun i _ => a.owner.length - (intOf i).toNat)
      case atStart => exact ⟨0, a.owner, Nat.zero_le _, rfl, hoi.1, rfl, fun j hj => by rw [if_neg (by omega)], Chg.refl _ _⟩
      case round =>
        obtain ⟨k, m, hk, rfl, hom, hml, hmx, hch⟩ := hrel
        have Hml := Lib.hid hml
        have Hmx := Lib.hid hmx
        rw [hml] at hom
        clear hml hmx
        have hX := (hch.block w3.heap.size hw4 (by omega)).trans hX0
        replace hX : Arr wr w3.heap.size _ _ := hX
        have hXc0 := hX.c0
        by_cases hlt : k < a.owner.length
        · have hc1 := hom.cell (k := k) (by rw [Hml.out]; exact hlt)
          rw [Hmx.out k hlt, if_neg (by omega)] at hc1
          have hom' : OwnInts wr w1.heap.size (.slice (some ⟨g, 0, none⟩) m.length cap) m := by rw [Hml.out]; exact hom
          have hf1 := hom'.frozen k
          have hst := hom'.set_ k (1 - ix a.owner k)
          obtain ⟨hx0, hx1⟩ := hok.owner hlt
          have hlt' : (k : Int) < a.owner.length := by omega
          clear hom hom'
          go_wp2
          go_region
          all_goals
            go_wp2
            refine ⟨⟨k + 1, m.set k (1 - ix a.owner k), by omega, by go_num, by have h := OwnInts.drew hst.1; simpa using h, by simpa using Hml.out, fun j hj => ?_, hch.trans (Chg.drew ((Chg.of_grown hst.2).mono fun b hb => (Option.some.inj hb).symm))⟩, by simp [intOf]; omega⟩
            have := Hml.out
            rw [ix_set (by omega), Hmx.out j hj]
            by_cases ej : j = k
            · subst ej; rw [if_pos rfl, if_pos (by omega)]
            · rw [if_neg ej]
              by_cases ek : j < k
              · rw [if_pos ek, if_pos (by omega)]
              · rw [if_neg ek, if_neg (by omega)]
        · obtain rfl : k = a.owner.length := by omega
          have hmm : m = turnL a.owner := int_range_ext (by simpa using Hml.out) fun j hj => by
            rw [length_turnL] at hj
            rw [ix_turnL hj, Hmx.out j hj, if_pos hj]
          subst hmm
          have hXc1 := hX.c1
          replace hR := (hch.block (w.heap.size + 1) hR.lt (by omega)).trans hR
          replace hR : Arr wr (w.heap.size + 1) _ _ := hR
          have hRc0 := hR.c0
          have hRc1 := hR.c1
          have hRf0 := hR.frozen 0
          have hRf1 := hR.frozen 1
          have hrw5 := hrw.chg hch (fun b hb e => by rw [e] at hb; exact owns_ne hrw.own hoi.1 row_type_ne hb rfl) (fun j hj b hb e => by rw [e] at hb; exact hne g rfl j hj hb)
          go_wp2
          have hR6 := (hR.set_ 0 (.slice (some ⟨g, 0, none⟩) a.owner.length cap)).set_ 1 (.slice N a.next.length nc)
          have hbw5 : Below w.heap.size w wr := hbw.trans ⟨hch.os, hch.tape, hch.output, hch.size, fun b hb => hch.block b (by have := hbw.size; omega) (by omega)⟩
          have hbw6 : Below w.heap.size w ((wr.setCell ⟨w.heap.size + 1, 0, none⟩ (.slice (some ⟨g, 0, none⟩) a.owner.length cap)).setCell ⟨w.heap.size + 1, 1, none⟩ (.slice N a.next.length nc)) := (hbw5.setCell (by simp) _).setCell (by simp) _
          have hcb : ∀ b, w.heap.size + 2 ≤ b → ((wr.setCell ⟨w.heap.size + 1, 0, none⟩ (.slice (some ⟨g, 0, none⟩) a.owner.length cap)).setCell ⟨w.heap.size + 1, 1, none⟩ (.slice N a.next.length nc)).heap[b]? = wr.heap[b]? := fun b hb => by
            rw [Below.heap_setCell _ _ _ _ (by simp; omega), Below.heap_setCell _ _ _ _ (by simp; omega)]
          have hsz : ((wr.setCell ⟨w.heap.size + 1, 0, none⟩ (.slice (some ⟨g, 0, none⟩) a.owner.length cap)).setCell ⟨w.heap.size + 1, 1, none⟩ (.slice N a.next.length nc)).heap.size = wr.heap.size := by simp
          generalize (wr.setCell ⟨w.heap.size + 1, 0, none⟩ (.slice (some ⟨g, 0, none⟩) a.owner.length cap)).setCell ⟨w.heap.size + 1, 1, none⟩ (.slice N a.next.length nc) = w6 at *
          have q0 := hR6.c0
          have q1 := hR6.c1
          have hsz4 := hch.size
          have ho6 : OI w6 w.heap.size w6.heap.size (.slice (some ⟨g, 0, none⟩) a.owner.length cap) (turnL a.owner) := OI.mono (C := w3.heap.size) (B := w1.heap.size) (OI.heap (w := wr) ⟨hom, hoi.2⟩ fun b hb => hcb b (by simp [Value.ownBlock] at hb; omega)) (by omega) (by omega)
          have hr6 : RowsV w6 w.heap.size w6.heap.size (.slice N a.next.length nc) vs a.next := (hrw5.heap (fun b hb => hcb b (by have := (hrw5.own.lt b hb).1; omega)) fun k hk b hb => hcb b (by have := ((hrw5.row k hk).1.lt b hb).1; omega)).mono (by omega) (by omega)
          refine bodyPost_ret (v := .agg #[.slice (some ⟨g, 0, none⟩) a.owner.length cap, .slice N a.next.length nc]) (by simp [results, Try.results80, go_sem, q0, q1]) rfl ?_
          exact .mk' ⟨_, _, vs, rfl, ho6, hr6, hne⟩ hbw6

end Go.Proofs.Ytpnophmanpfejaa
