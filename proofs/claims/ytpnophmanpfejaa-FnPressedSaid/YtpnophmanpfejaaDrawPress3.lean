/- The walk of DrawPressed: a small parity game with wide priorities. Printed by gen_draw3.py. -/
import Derived.Test.YtpnophmanpfejaaDrawPress2
namespace Go.Proofs.Ytpnophmanpfejaa
set_option linter.unusedSimpArgs false
set_option linter.unusedVariables false
open Go.RowKit

theorem OwnInts.set_n {w : World} {B g cap m : Nat} {l : List Int} (h : OwnInts w B (.slice (some ⟨g, 0, none⟩) m cap) l) (hl : l.length = m) (k : Nat) (x : Int) : OwnInts (w.setCell ⟨g, k, none⟩ (.int .i64 x)) B (.slice (some ⟨g, 0, none⟩) m cap) (l.set k x) ∧ w.grownBy (w.setCell ⟨g, k, none⟩ (.int .i64 x)) (some g) := by
  subst hl
  exact OwnInts.set_ h k x
theorem OwnInts.frozen_n {w : World} {B g cap m : Nat} {l : List Int} (h : OwnInts w B (.slice (some ⟨g, 0, none⟩) m cap) l) (hl : l.length = m) (k : Nat) : w.frozen? ⟨g, k, none⟩ = false := by
  subst hl
  exact OwnInts.frozen h k
set_option maxRecDepth 100000 in
set_option maxHeartbeats 8000000 in
theorem DrawPressed_any (v : Value) (n : Nat) (w : World) (hb : Bytes w v n) (hn : n ≤ 4096) :
    Calls Try.prog 64 #[v] w fun e w' => ∃ u g, e = .returned u ∧ IsParity w' u g ∧ BigA g.arena ∧ g.prio.length ≤ 9 ∧ Below w.heap.size w w' := by
  obtain ⟨BA, bc, rfl, hbl, hbm⟩ := hb.form
  have hR0 := Arr.new w 32 [.slice none 0 0, .slice none 0 0, .slice none 0 0]
  have hbn := (Below.refl w.heap.size w).alloc (Nat.le_refl _) (.cells #[.slice none 0 0, .slice none 0 0, .slice none 0 0] 32)
  have hb0 := hb.kept (Kept.of hbn)
  have hRs : w.heap.size < (w.alloc (.cells #[.slice none 0 0, .slice none 0 0, .slice none 0 0] 32)).heap.size := by simp
  obtain ⟨R, hR⟩ : ∃ R, w.heap.size = R := ⟨_, rfl⟩
  go_enter Try.func64, Try.ntmps64
  go_wp2_with fail
  rw [hR] at hR0 hbn hRs
  generalize w.alloc (.cells #[.slice none 0 0, .slice none 0 0, .slice none 0 0] 32) = w0 at *
  refine (l1New_any _ n _ hb0 hn).mono ?_
  rintro e w1 ⟨C, rfl, hc, hC, hb1⟩
  have hCR : R < C := by omega
  have hR1 := hR0.below hb1 hRs
  have hCl := hc.lt
  go_wp2_with fail
  refine (l4DrawAny_any C _ n _ hc).mono ?_
  rintro e w2 ⟨u, g, rfl, hop, hbig, hl1, hl2, hd2⟩
  obtain ⟨o, nn, pp, vs, rfl, ho, hr, hp, h4, h5, h6⟩ := hop
  obtain ⟨A, ac, rfl, _⟩ := ho.1.ints.form
  obtain ⟨A', ac', rfl⟩ := hr.form
  obtain ⟨D, d, rfl, hD1, hD2⟩ := own_form hp.1 rfl (by omega)
  have hR2 : Arr w2 R 32 [.slice none 0 0, .slice none 0 0, .slice none 0 0] := (hd2.2.block R hR1.lt (by omega)).trans hR1
  have hX0 := Arr.new w2 32 [.slice A g.arena.owner.length ac, (.slice A' g.arena.next.length ac'), .slice (some ⟨D, 0, none⟩) g.prio.length d]
  have hbX := (Below.refl w2.heap.size w2).alloc (Nat.le_refl _) (.cells #[.slice A g.arena.owner.length ac, (.slice A' g.arena.next.length ac'), .slice (some ⟨D, 0, none⟩) g.prio.length d] 32)
  have hR3 := hR2.below hbX hR2.lt
  have ho3 := ho.below hbX
  have hp3 := hp.below hbX
  have hr3 := hr.kept (Only.of_below (B := w2.heap.size) (C := w2.heap.size) hbX) (.inl (Nat.le_refl _))
  have hd3 := hd2.below hbX
  have hs2 := hd2.2.size
  obtain ⟨X, hX⟩ : ∃ X, w2.heap.size = X := ⟨_, rfl⟩
  have hX3 := hX0
  have hRw1 := hR1.lt
  clear ho hp hr hR2 hbX hd2 hR1 hR0 hX0 hb0
  go_wp2_with fail
  rw [hX] at hX3 ho3 hp3 hr3 hD2
  have hRX : w1.heap.size ≤ X := by omega
  clear hX hs2
  generalize w2.alloc (.cells #[.slice A g.arena.owner.length ac, (.slice A' g.arena.next.length ac'), .slice (some ⟨D, 0, none⟩) g.prio.length d] 32) = w3 at *
  go_loopw [5] (fun i wx => ∃ (k : Nat) (l : List Int), k ≤ g.prio.length ∧ i = .int .i64 k ∧ Hid (l.length = g.prio.length) ∧ Arr wx X 32 [.slice A g.arena.owner.length ac, (.slice A' g.arena.next.length ac'), .slice (some ⟨D, 0, none⟩) g.prio.length d] ∧ Arr wx R 32 [.slice none 0 0, .slice none 0 0, .slice none 0 0] ∧ OI wx w1.heap.size X (.slice A g.arena.owner.length ac) g.arena.owner ∧ RowsV wx w1.heap.size X (.slice A' g.arena.next.length ac') vs g.arena.next ∧ OI wx w1.heap.size X (.slice (some ⟨D, 0, none⟩) g.prio.length d) l ∧ Drawn w1 wx C (.slice BA n bc) n) (fun i _ => g.prio.length - (intOf i).toNat)
  case atStart => exact ⟨0, _, Nat.zero_le _, rfl, Lib.hid rfl, hX3, hR3, ho3, hr3, hp3, hd3⟩
  case round =>
    clear hX3 hR3 ho3 hr3 hp3 hd3
    obtain ⟨k, l, hk, rfl, Hl, hX, hRw, ho, hr, hp, hd⟩ := hrel
    obtain ⟨wo, rfl⟩ : ∃ wo : World, wo = wr := ⟨_, rfl⟩
    have hXl := hX.lt
    have hRl := hRw.lt
    have q0 := hX.c2
    by_cases hlt : k < g.prio.length
    · have hlt2 : (k : Int) < g.prio.length := by omega
      have hlt3 : k < l.length := by rw [Hl.out]; exact hlt
      have hcd : Cur wo.drew C (.slice BA n bc) n := hd.1.drew
      have q1 := OwnInts.cell hp.1 hlt3
      go_wp2_with fail
      go_region_law (first | (go_simp; go_at_call 114; refine (l1Below_any C _ n 5 _ hcd).mono ?_; rintro e w8 ⟨y, rfl, hy0, _, hy1, hd8⟩; have hy2 := hy1 (by omega); have hd8' : Drawn wo w8 C (.slice BA n bc) n := ⟨hd8.1, ⟨hd8.2.os, hd8.2.tape, hd8.2.output, hd8.2.size, hd8.2.block⟩⟩; have hX8 : Arr w8 X 32 [.slice A g.arena.owner.length ac, (.slice A' g.arena.next.length ac'), .slice (some ⟨D, 0, none⟩) g.prio.length d] := (hd8'.2.block X hX.lt (by omega)).trans hX; have hp8 := hp.chg hd8'.2 (fun b hb e => by have := (hp.1.lt b hb).1; omega); have q2 := hX8.c2; have q3 := OwnInts.cell hp8.1 hlt3; have q4 := OwnInts.frozen_n hp8.1 Hl.out k))
      all_goals
        go_wp2
        have hR8 : Arr w8 R 32 [.slice none 0 0, .slice none 0 0, .slice none 0 0] := (hd8'.2.block R hRw.lt (by omega)).trans hRw
        have ho8 := ho.chg hd8'.2 (fun b hb e => by have := (ho.1.lt b hb).1; omega)
        have hr8 := hr.chg hd8'.2 (fun b hb e => by have := (hr.own.lt b hb).1; omega) (fun j hj b hb e => by have := ((hr.row j hj).1.lt b hb).1; omega)
        have hDX : D < X := hD2
        clear q0 q1 q2 q3 q4
        refine ⟨⟨k + 1, _, by omega, by go_num, ?_, hX8.far (by simp; omega) _, hR8.far (by simp; omega) _, ho8.chg (Chg.of_grown (OwnInts.set_n hp8.1 Hl.out k _).2) (fun b hb e => by injection e with e; rw [← e] at hb; exact h5 D rfl hb), hr8.chg (Chg.of_grown (OwnInts.set_n hp8.1 Hl.out k _).2) (fun b hb e => by injection e with e; rw [← e] at hb; exact owns_ne hr8.own hp8.1 row_type_ne hb rfl) (fun j' hj' b hb e => by injection e with e; rw [← e] at hb; exact h6 D rfl j' hj' hb), ⟨(OwnInts.set_n hp8.1 Hl.out k _).1, hp8.2⟩, (hd.trans hd8').setCell hc (by show w1.heap.size ≤ D; omega) _⟩, by simp [intOf]; omega⟩
        exact Lib.hid (by rw [List.length_set, Hl.out])
    · obtain rfl : k = g.prio.length := by omega
      have hlt2 : ¬ ((g.prio.length : Nat) : Int) < g.prio.length := by omega
      have q2 := hX.c0
      have q3 := hX.c1
      have p8 := hRw.c0
      have p9 := hRw.c1
      have p7 := hRw.c2
      have p2 := hRw.frozen 0
      have p3 := hRw.frozen 1
      have p4 := hRw.frozen 2
      go_wp2
      have hR6 := ((hRw.set_ 0 (.slice A g.arena.owner.length ac)).set_ 1 (.slice A' g.arena.next.length ac')).set_ 2 (.slice (some ⟨D, 0, none⟩) g.prio.length d)
      have hop : OP wo w1.heap.size X (.agg #[.slice A g.arena.owner.length ac, (.slice A' g.arena.next.length ac'), .slice (some ⟨D, 0, none⟩) g.prio.length d]) ⟨g.arena, l⟩ := ⟨_, _, _, vs, rfl, ho, hr, hp, h4, h5, h6⟩
      have hcb : ∀ b, R + 1 ≤ b → (((wo.setCell ⟨R, 0, none⟩ (.slice A g.arena.owner.length ac)).setCell ⟨R, 1, none⟩ ((.slice A' g.arena.next.length ac'))).setCell ⟨R, 2, none⟩ (.slice (some ⟨D, 0, none⟩) g.prio.length d)).heap[b]? = wo.heap[b]? := fun b hb => by
        rw [Below.heap_setCell _ _ _ _ (by simp; omega), Below.heap_setCell _ _ _ _ (by simp; omega), Below.heap_setCell _ _ _ _ (by simp; omega)]
      have hop2 := (hop.heapFrom (fun b hb => hcb b (by omega))).parity
      have hbe : Below w.heap.size w wo := by
        rw [hR]
        have h := Below.drawn (C := C) (by rw [hR]; exact hbn.trans (hb1.mono (by omega))) (by omega) hd.2
        rwa [hR] at h
      subst hR
      have hbz : Below w.heap.size w (((wo.setCell ⟨w.heap.size, 0, none⟩ (.slice A g.arena.owner.length ac)).setCell ⟨w.heap.size, 1, none⟩ ((.slice A' g.arena.next.length ac'))).setCell ⟨w.heap.size, 2, none⟩ (.slice (some ⟨D, 0, none⟩) g.prio.length d)) := ((hbe.setCell (p := ⟨w.heap.size, 0, none⟩) (Nat.le_refl _) _).setCell (p := ⟨w.heap.size, 1, none⟩) (Nat.le_refl _) _).setCell (p := ⟨w.heap.size, 2, none⟩) (Nat.le_refl _) _
      clear hcb hop
      generalize (((wo.setCell ⟨w.heap.size, 0, none⟩ (.slice A g.arena.owner.length ac)).setCell ⟨w.heap.size, 1, none⟩ ((.slice A' g.arena.next.length ac'))).setCell ⟨w.heap.size, 2, none⟩ (.slice (some ⟨D, 0, none⟩) g.prio.length d)) = wZ at *
      have p0 := hR6.c0
      have p1 := hR6.c1
      have p5 := hR6.c2
      refine bodyPost_ret (v := .agg #[.slice A g.arena.owner.length ac, (.slice A' g.arena.next.length ac'), .slice (some ⟨D, 0, none⟩) g.prio.length d]) (by simp [results, Try.results64, go_sem, p0, p1, p5]) rfl ?_
      first | exact ⟨_, rfl, ⟨g.arena, l⟩, hop2, hbig, by show l.length ≤ 9; rw [Hl.out]; exact hl2, hbz⟩ | exact ⟨_, ⟨g.arena, l⟩, rfl, hop2, hbig, by show l.length ≤ 9; rw [Hl.out]; exact hl2, hbz⟩
end Go.Proofs.Ytpnophmanpfejaa
