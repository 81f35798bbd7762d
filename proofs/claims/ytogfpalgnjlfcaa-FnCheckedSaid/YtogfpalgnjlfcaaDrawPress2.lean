/- The walk of l4DrawAny: a small parity game, bent sometimes. Printed by gen_draw2.py. -/
import Derived.Test.YtogfpalgnjlfcaaDrawPress
namespace Go.Proofs.Ytogfpalgnjlfcaa
set_option linter.unusedSimpArgs false
set_option linter.unusedVariables false
open Go.RowKit

set_option maxRecDepth 100000 in
set_option maxHeartbeats 8000000 in
theorem l4DrawAny_any (C : Nat) (v : Value) (n : Nat) (w : World) (hc : Cur w C v n) :
    Calls Try.prog 100 #[.pointer (some ⟨C, 0, none⟩)] w fun e w' => ∃ u g, e = .returned u ∧ OP w' w.heap.size w'.heap.size u g ∧ BigA g.arena ∧ 1 ≤ g.prio.length ∧ g.prio.length ≤ 9 ∧ Drawn w w' C v n := by
  have hR0 := Arr.new w 32 [.slice none 0 0, .slice none 0 0, .slice none 0 0]
  have hbn := (Below.refl w.heap.size w).alloc (Nat.le_refl _) (.cells #[.slice none 0 0, .slice none 0 0, .slice none 0 0] 32)
  have hCl := hc.lt
  have hR0l : w.heap.size + 1 ≤ (w.alloc (.cells #[.slice none 0 0, .slice none 0 0, .slice none 0 0] 32)).heap.size := by simp
  obtain ⟨R, hR⟩ : ∃ R, w.heap.size = R := ⟨_, rfl⟩
  go_enter Try.func100, Try.ntmps100
  go_wp2_with fail
  rw [hR] at hR0 hR0l hCl
  have hdw := Drawn.below (.refl hc) hbn
  generalize w.alloc (.cells #[.slice none 0 0, .slice none 0 0, .slice none 0 0] 32) = w0 at *
  refine (l4Draw_any C v n _ hdw.1).mono ?_
  rintro e w1 ⟨u, g, rfl, hop, hbig, hl1, hl2, hd1⟩
  obtain ⟨o, nn, pp, vs, rfl, ho, hr, hp, h4, h5, h6⟩ := hop
  obtain ⟨A, ac, rfl, _⟩ := ho.1.ints.form
  obtain ⟨A', ac', rfl⟩ := hr.form
  obtain ⟨D, d, rfl, _, _⟩ := own_form hp.1 rfl (by omega)
  have hR1 : Arr w1 R 32 [.slice none 0 0, .slice none 0 0, .slice none 0 0] := (hd1.2.block R hR0.lt (by omega)).trans hR0
  have hX0 := Arr.new w1 32 [.slice A g.arena.owner.length ac, (.slice A' g.arena.next.length ac'), .slice (some ⟨D, 0, none⟩) g.prio.length d]
  have hbX := (Below.refl w1.heap.size w1).alloc (Nat.le_refl _) (.cells #[.slice A g.arena.owner.length ac, (.slice A' g.arena.next.length ac'), .slice (some ⟨D, 0, none⟩) g.prio.length d] 32)
  have hX2 := hX0
  have hR2 := hR1.below hbX hR1.lt
  have ho2 := (ho.below hbX).mono hR0l (Nat.le_refl _)
  have hp2 := (hp.below hbX).mono hR0l (Nat.le_refl _)
  have hr2 := (hr.kept (Only.of_below (B := w1.heap.size) (C := w1.heap.size) hbX) (.inl (Nat.le_refl _))).mono hR0l (Nat.le_refl _)
  have hd2 := (hdw.trans hd1).below hbX
  have hs1 := hd1.2.size
  obtain ⟨X, hX⟩ : ∃ X, w1.heap.size = X := ⟨_, rfl⟩
  have hRX : R < X := by omega
  clear ho hr hp hR1 hbX hd1 hdw hR0 hbn hX0
  go_wp2_with fail
  rw [hX] at hX2 ho2 hp2 hr2
  clear hX
  generalize w1.alloc (.cells #[.slice A g.arena.owner.length ac, (.slice A' g.arena.next.length ac'), .slice (some ⟨D, 0, none⟩) g.prio.length d] 32) = w2 at *
  refine (l1Once_any C v n 8 _ hd2.1).mono ?_
  rintro e w3 ⟨b, rfl, hdd3⟩
  have hd3 := hd2.trans hdd3
  have hCR : C < R := hCl
  have hX3 : Arr w3 X 32 [.slice A g.arena.owner.length ac, (.slice A' g.arena.next.length ac'), .slice (some ⟨D, 0, none⟩) g.prio.length d] := (hdd3.2.block X hX2.lt (by omega)).trans hX2
  have hR3 : Arr w3 R 32 [.slice none 0 0, .slice none 0 0, .slice none 0 0] := (hdd3.2.block R hR2.lt (by omega)).trans hR2
  have ho3 := ho2.chg hdd3.2 (fun b hb e => by have := (ho2.1.lt b hb).1; omega)
  have hp3 := hp2.chg hdd3.2 (fun b hb e => by have := (hp2.1.lt b hb).1; omega)
  have hr3 := hr2.chg hdd3.2 (fun b hb e => by have := (hr2.own.lt b hb).1; omega) (fun j hj b hb e => by have := ((hr2.row j hj).1.lt b hb).1; omega)
  clear hX2 hR2 ho2 hr2 hp2
  clear hdd3 hd2
  cases b
  · skip
    have hXf := hX3
    have hRf := hR3
    have hXl := hX3.lt
    have hop : OP w3 (R + 1) X (.agg #[.slice A g.arena.owner.length ac, (.slice A' g.arena.next.length ac'), .slice (some ⟨D, 0, none⟩) g.prio.length d]) g := ⟨_, _, _, vs, rfl, ho3, hr3, hp3, h4, h5, h6⟩
    have hdw := hd3
    have hbigf := hbig
    have hl1f := hl1
    have hl2f : g.prio.length ≤ 9 := by omega
    have hXc0 := hXf.c0
    have hXc1 := hXf.c1
    have hXc2 := hXf.c2
    have p8 := hRf.c0
    have p9 := hRf.c1
    have p7 := hRf.c2
    have p2 := hRf.frozen 0
    have p3 := hRf.frozen 1
    have p4 := hRf.frozen 2
    have hRl := hRf.lt
    go_wp2
    have hR6 := ((hRf.set_ 0 (.slice A g.arena.owner.length ac)).set_ 1 ((.slice A' g.arena.next.length ac'))).set_ 2 (.slice (some ⟨D, 0, none⟩) g.prio.length d)
    have hd6 : Drawn w (((w3.setCell ⟨R, 0, none⟩ (.slice A g.arena.owner.length ac)).setCell ⟨R, 1, none⟩ ((.slice A' g.arena.next.length ac'))).setCell ⟨R, 2, none⟩ (.slice (some ⟨D, 0, none⟩) g.prio.length d)) C v n := ((hdw.setCell hc (p := ⟨R, 0, none⟩) (by show w.heap.size ≤ R; omega) _).setCell hc (p := ⟨R, 1, none⟩) (by show w.heap.size ≤ R; omega) _).setCell hc (p := ⟨R, 2, none⟩) (by show w.heap.size ≤ R; omega) _
    have hcb : ∀ b, R + 1 ≤ b → (((w3.setCell ⟨R, 0, none⟩ (.slice A g.arena.owner.length ac)).setCell ⟨R, 1, none⟩ ((.slice A' g.arena.next.length ac'))).setCell ⟨R, 2, none⟩ (.slice (some ⟨D, 0, none⟩) g.prio.length d)).heap[b]? = w3.heap[b]? := fun b hb => by
      rw [Below.heap_setCell _ _ _ _ (by simp; omega), Below.heap_setCell _ _ _ _ (by simp; omega), Below.heap_setCell _ _ _ _ (by simp; omega)]
    have hsz : (((w3.setCell ⟨R, 0, none⟩ (.slice A g.arena.owner.length ac)).setCell ⟨R, 1, none⟩ ((.slice A' g.arena.next.length ac'))).setCell ⟨R, 2, none⟩ (.slice (some ⟨D, 0, none⟩) g.prio.length d)).heap.size = w3.heap.size := by simp
    have hop2 := hop.heapFrom hcb
    generalize (((w3.setCell ⟨R, 0, none⟩ (.slice A g.arena.owner.length ac)).setCell ⟨R, 1, none⟩ ((.slice A' g.arena.next.length ac'))).setCell ⟨R, 2, none⟩ (.slice (some ⟨D, 0, none⟩) g.prio.length d)) = wZ at *
    have p0 := hR6.c0
    have p1 := hR6.c1
    have p5 := hR6.c2
    refine bodyPost_ret (v := .agg #[.slice A g.arena.owner.length ac, (.slice A' g.arena.next.length ac'), .slice (some ⟨D, 0, none⟩) g.prio.length d]) (by simp [results, Try.results100, go_sem, p0, p1, p5]) rfl ?_
    first | exact ⟨_, rfl, g, hop2.mono (by omega) (by omega), hbigf, hl1f, hl2f, hd6⟩ | exact ⟨_, g, rfl, hop2.mono (by omega) (by omega), hbigf, hl1f, hl2f, hd6⟩
  · go_wp2_with fail
    refine (l1Below_any C v n 3 _ hd3.1).mono ?_
    rintro e w5 ⟨x, rfl, hx0, _, hx1, hdd5⟩
    have hx2 := hx1 (by omega)
    have hd5 := hd3.trans hdd5
    have hX5 : Arr w5 X 32 [.slice A g.arena.owner.length ac, (.slice A' g.arena.next.length ac'), .slice (some ⟨D, 0, none⟩) g.prio.length d] := (hdd5.2.block X hX3.lt (by omega)).trans hX3
    have hR5 : Arr w5 R 32 [.slice none 0 0, .slice none 0 0, .slice none 0 0] := (hdd5.2.block R hR3.lt (by omega)).trans hR3
    have ho5 := ho3.chg hdd5.2 (fun b hb e => by have := (ho3.1.lt b hb).1; omega)
    have hp5 := hp3.chg hdd5.2 (fun b hb e => by have := (hp3.1.lt b hb).1; omega)
    have hr5 := hr3.chg hdd5.2 (fun b hb e => by have := (hr3.own.lt b hb).1; omega) (fun j hj b hb e => by have := ((hr3.row j hj).1.lt b hb).1; omega)
    clear hX3 hR3 ho3 hr3 hp3
    clear hdd5 hd3 hx1
    have hxx : x = 0 ∨ x = 1 ∨ x = 2 := by omega
    have hX5l := hX5.lt
    have hl0 : (0 : Int) < g.prio.length := by omega
    have hl00 : 0 < g.prio.length := by omega
    clear hx0 hx2
    have hDR : R + 1 ≤ D ∧ D < X := ⟨(hp5.1.lt D rfl).1, hp5.2 D rfl⟩
    rcases hxx with rfl | rfl | rfl
    · have hcd : Cur w5.drew C v n := hd5.1.drew
      have q0 := hX5.c2
      go_wp2_with fail
      go_region_law (first | (go_simp; go_at_call 110; refine (l1Num_any C v n 40 _ hcd (by omega) (by omega)).mono ?_; rintro e w8 ⟨x, rfl, hx0, hx1, hd8⟩; have hd8' : Drawn w5 w8 C v n := ⟨hd8.1, ⟨hd8.2.os, hd8.2.tape, hd8.2.output, hd8.2.size, hd8.2.block⟩⟩; have hX8 : Arr w8 X 32 [.slice A g.arena.owner.length ac, (.slice A' g.arena.next.length ac'), .slice (some ⟨D, 0, none⟩) g.prio.length d] := (hd8'.2.block X hX5.lt (by omega)).trans hX5; have hp8 := hp5.chg hd8'.2 (fun b hb e => by have := (hp5.1.lt b hb).1; omega); have q1 := hX8.c2; have q2 := OwnInts.cell hp8.1 (k := 0) (by omega); have q3 := OwnInts.frozen hp8.1 0))
      all_goals
        have hR8 : Arr w8 R 32 [.slice none 0 0, .slice none 0 0, .slice none 0 0] := (hd8'.2.block R hR5.lt (by omega)).trans hR5
        have ho8 := ho5.chg hd8'.2 (fun b hb e => by have := (ho5.1.lt b hb).1; omega)
        have hr8 := hr5.chg hd8'.2 (fun b hb e => by have := (hr5.own.lt b hb).1; omega) (fun j hj b hb e => by have := ((hr5.row j hj).1.lt b hb).1; omega)
        have hst := OwnInts.set_ hp8.1 0 x
        have hXf : Arr (w8.setCell ⟨D, 0, none⟩ (.int .i64 x)) X _ _ := hX8.far (by simp; omega) _
        have hRf : Arr (w8.setCell ⟨D, 0, none⟩ (.int .i64 x)) R _ _ := hR8.far (by simp; omega) _
        have hpf : OI (w8.setCell ⟨D, 0, none⟩ (.int .i64 x)) (R + 1) X (.slice (some ⟨D, 0, none⟩) g.prio.length d) (g.prio.set 0 x) := ⟨hst.1, hp8.2⟩
        have hof := ho8.chg (Chg.of_grown hst.2) (fun b hb e => by injection e with e; rw [← e] at hb; exact h5 D rfl hb)
        have hrf := hr8.chg (Chg.of_grown hst.2) (fun b hb e => by injection e with e; rw [← e] at hb; exact owns_ne hr8.own hp8.1 row_type_ne hb rfl) (fun j' hj' b hb e => by injection e with e; rw [← e] at hb; exact h6 D rfl j' hj' hb)
        have hop : OP (w8.setCell ⟨D, 0, none⟩ (.int .i64 x)) (R + 1) X (.agg #[.slice A g.arena.owner.length ac, (.slice A' g.arena.next.length ac'), .slice (some ⟨D, 0, none⟩) g.prio.length d]) ⟨g.arena, g.prio.set 0 x⟩ := ⟨_, _, _, vs, rfl, hof, hrf, hpf, h4, h5, h6⟩
        have hdw : Drawn w (w8.setCell ⟨D, 0, none⟩ (.int .i64 x)) C v n := (hd5.trans hd8').setCell hc (by show w.heap.size ≤ D; omega) _
        have hXl := hXf.lt
        have hbigf := hbig
        have hl1f : 1 ≤ (g.prio.set 0 x).length := by rw [List.length_set]; omega
        have hl2f : (g.prio.set 0 x).length ≤ 9 := by rw [List.length_set]; omega
        clear q0 q1 q2 q3 hcd hof hrf hpf
        generalize (w8.setCell ⟨D, 0, none⟩ (.int .i64 x)) = wF at *
        have hXc0 := hXf.c0
        have hXc1 := hXf.c1
        have hXc2 := hXf.c2
        have p8 := hRf.c0
        have p9 := hRf.c1
        have p7 := hRf.c2
        have p2 := hRf.frozen 0
        have p3 := hRf.frozen 1
        have p4 := hRf.frozen 2
        have hRl := hRf.lt
        go_wp2
        have hR6 := ((hRf.set_ 0 (.slice A g.arena.owner.length ac)).set_ 1 ((.slice A' g.arena.next.length ac'))).set_ 2 (.slice (some ⟨D, 0, none⟩) g.prio.length d)
        have hd6 : Drawn w (((wF.setCell ⟨R, 0, none⟩ (.slice A g.arena.owner.length ac)).setCell ⟨R, 1, none⟩ ((.slice A' g.arena.next.length ac'))).setCell ⟨R, 2, none⟩ (.slice (some ⟨D, 0, none⟩) g.prio.length d)) C v n := ((hdw.setCell hc (p := ⟨R, 0, none⟩) (by show w.heap.size ≤ R; omega) _).setCell hc (p := ⟨R, 1, none⟩) (by show w.heap.size ≤ R; omega) _).setCell hc (p := ⟨R, 2, none⟩) (by show w.heap.size ≤ R; omega) _
        have hcb : ∀ b, R + 1 ≤ b → (((wF.setCell ⟨R, 0, none⟩ (.slice A g.arena.owner.length ac)).setCell ⟨R, 1, none⟩ ((.slice A' g.arena.next.length ac'))).setCell ⟨R, 2, none⟩ (.slice (some ⟨D, 0, none⟩) g.prio.length d)).heap[b]? = wF.heap[b]? := fun b hb => by
          rw [Below.heap_setCell _ _ _ _ (by simp; omega), Below.heap_setCell _ _ _ _ (by simp; omega), Below.heap_setCell _ _ _ _ (by simp; omega)]
        have hsz : (((wF.setCell ⟨R, 0, none⟩ (.slice A g.arena.owner.length ac)).setCell ⟨R, 1, none⟩ ((.slice A' g.arena.next.length ac'))).setCell ⟨R, 2, none⟩ (.slice (some ⟨D, 0, none⟩) g.prio.length d)).heap.size = wF.heap.size := by simp
        have hop2 := hop.heapFrom hcb
        generalize (((wF.setCell ⟨R, 0, none⟩ (.slice A g.arena.owner.length ac)).setCell ⟨R, 1, none⟩ ((.slice A' g.arena.next.length ac'))).setCell ⟨R, 2, none⟩ (.slice (some ⟨D, 0, none⟩) g.prio.length d)) = wZ at *
        have p0 := hR6.c0
        have p1 := hR6.c1
        have p5 := hR6.c2
        refine bodyPost_ret (v := .agg #[.slice A g.arena.owner.length ac, (.slice A' g.arena.next.length ac'), .slice (some ⟨D, 0, none⟩) g.prio.length d]) (by simp [results, Try.results100, go_sem, p0, p1, p5]) rfl ?_
        first | exact ⟨_, rfl, ⟨g.arena, g.prio.set 0 x⟩, hop2.mono (by omega) (by omega), hbigf, hl1f, hl2f, hd6⟩ | exact ⟨_, ⟨g.arena, g.prio.set 0 x⟩, rfl, hop2.mono (by omega) (by omega), hbigf, hl1f, hl2f, hd6⟩
    · have q0 := hX5.c2
      go_wp2_with (at_builtin; refine append_int w5 rfl (.tmp 20) (.tmp 21) rfl (R + 1) (.slice (some ⟨D, 0, none⟩) g.prio.length d) g.prio rfl hp5.1 1 rfl (by omega) (by omega) ?_; intro v7 w7 ho7 hb7 hg7 hd7; obtain ⟨P1, c7, e7, _⟩ := ho7.ints.form; rw [List.length_append, List.length_singleton] at e7; subst e7; have hX7 : Arr w7 X 32 [.slice A g.arena.owner.length ac, (.slice A' g.arena.next.length ac'), .slice (some ⟨D, 0, none⟩) g.prio.length d] := hX5.kept' hg7 (fun e => by have e2 : X = D := Option.some.inj e; omega); have q5 := hX7.c2; have q6 := hX7.frozen 2; have hXf := hX7.set_ 2 (.slice P1 (g.prio.length + 1) c7); have hXc0 := hXf.c0; have hXc1 := hXf.c1; have hXc2 := hXf.c2; have hRf : Arr (w7.setCell ⟨X, 2, none⟩ (.slice P1 (g.prio.length + 1) c7)) R 32 [.slice none 0 0, .slice none 0 0, .slice none 0 0] := Arr.far (hR5.kept' hg7 (fun e => by have e2 : R = D := Option.some.inj e; omega)) (by simp; omega) _; have p8 := hRf.c0; have p9 := hRf.c1; have p7 := hRf.c2; have p2 := hRf.frozen 0; have p3 := hRf.frozen 1; have p4 := hRf.frozen 2)
      have h7s := hg7.size
      have hob : ∀ b, (.slice P1 (g.prio.length + 1) c7 : Value).ownBlock = some b → b = D ∨ b = w5.heap.size + 1 := fun b hb => by
        rcases hd7 with e | e
        · rw [e] at hb; exact .inl (Option.some.inj hb).symm
        · rw [e] at hb; exact .inr (Option.some.inj hb).symm
      have ho7' := ho5.chg (Chg.of_grown hg7) (fun b hb e => by have e2 : D = b := Option.some.inj e; rw [← e2] at hb; exact h5 D rfl hb)
      have hr7' := hr5.chg (Chg.of_grown hg7) (fun b hb e => by have e2 : D = b := Option.some.inj e; rw [← e2] at hb; exact owns_ne hr5.own hp5.1 row_type_ne hb rfl) (fun j' hj' b hb e => by have e2 : D = b := Option.some.inj e; rw [← e2] at hb; exact h6 D rfl j' hj' hb)
      have hof := (ho7'.heap (w' := (w7.setCell ⟨X, 2, none⟩ (.slice P1 (g.prio.length + 1) c7))) fun b hb => Below.heap_setCell _ _ _ _ (by have := ho5.2 b hb; simp; omega)).mono (Nat.le_refl _) (show X ≤ w7.heap.size by omega)
      have hrf := (hr7'.heap (w' := (w7.setCell ⟨X, 2, none⟩ (.slice P1 (g.prio.length + 1) c7))) (fun b hb => Below.heap_setCell _ _ _ _ (by have := hr5.lt b hb; simp; omega)) (fun j hj b hb => Below.heap_setCell _ _ _ _ (by have := (hr5.row j hj).2 b hb; simp; omega))).mono (Nat.le_refl _) (show X ≤ w7.heap.size by omega)
      have hpf : OI (w7.setCell ⟨X, 2, none⟩ (.slice P1 (g.prio.length + 1) c7)) (R + 1) w7.heap.size (.slice P1 (g.prio.length + 1) c7) (g.prio ++ [1]) := OI.heap (w := w7) ⟨ho7, fun b hb => (ho7.lt b hb).2⟩ (fun b hb => Below.heap_setCell _ _ _ _ (by have := hob b hb; simp; omega))
      have hop : OP (w7.setCell ⟨X, 2, none⟩ (.slice P1 (g.prio.length + 1) c7)) (R + 1) w7.heap.size (.agg #[.slice A g.arena.owner.length ac, (.slice A' g.arena.next.length ac'), .slice P1 (g.prio.length + 1) c7]) ⟨g.arena, g.prio ++ [1]⟩ := ⟨_, _, _, vs, rfl, hof, hrf, hpf, h4, fun b hb e => by
        rcases hob b hb with rfl | rfl
        · exact h5 _ rfl e
        · have := ho5.2 _ e; omega, fun b hb k hk e => by
        rcases hob b hb with rfl | rfl
        · exact h6 _ rfl k hk e
        · have := (hr5.row k hk).2 _ e; omega⟩
      have hdw : Drawn w (w7.setCell ⟨X, 2, none⟩ (.slice P1 (g.prio.length + 1) c7)) C v n := (hd5.grown hc hg7 fun r hr => by have e2 : D = r := Option.some.inj hr; omega).setCell hc (by show w.heap.size ≤ X; omega) _
      have hXl := hXf.lt
      have hwl : w7.heap.size ≤ (w7.setCell ⟨X, 2, none⟩ (.slice P1 (g.prio.length + 1) c7)).heap.size := by simp
      have hbigf := hbig
      have hl1f : 1 ≤ (g.prio ++ [1]).length := by simp
      have hl2f : (g.prio ++ [1]).length ≤ 9 := by simp; omega
      have hR6 := ((hRf.set_ 0 (.slice A g.arena.owner.length ac)).set_ 1 ((.slice A' g.arena.next.length ac'))).set_ 2 (.slice P1 (g.prio.length + 1) c7)
      have hd6 : Drawn w ((((w7.setCell ⟨X, 2, none⟩ (.slice P1 (g.prio.length + 1) c7)).setCell ⟨R, 0, none⟩ (.slice A g.arena.owner.length ac)).setCell ⟨R, 1, none⟩ ((.slice A' g.arena.next.length ac'))).setCell ⟨R, 2, none⟩ (.slice P1 (g.prio.length + 1) c7)) C v n := ((hdw.setCell hc (p := ⟨R, 0, none⟩) (by show w.heap.size ≤ R; omega) _).setCell hc (p := ⟨R, 1, none⟩) (by show w.heap.size ≤ R; omega) _).setCell hc (p := ⟨R, 2, none⟩) (by show w.heap.size ≤ R; omega) _
      have hcb : ∀ b, R + 1 ≤ b → ((((w7.setCell ⟨X, 2, none⟩ (.slice P1 (g.prio.length + 1) c7)).setCell ⟨R, 0, none⟩ (.slice A g.arena.owner.length ac)).setCell ⟨R, 1, none⟩ ((.slice A' g.arena.next.length ac'))).setCell ⟨R, 2, none⟩ (.slice P1 (g.prio.length + 1) c7)).heap[b]? = (w7.setCell ⟨X, 2, none⟩ (.slice P1 (g.prio.length + 1) c7)).heap[b]? := fun b hb => by
        rw [Below.heap_setCell _ _ _ _ (by simp; omega), Below.heap_setCell _ _ _ _ (by simp; omega), Below.heap_setCell _ _ _ _ (by simp; omega)]
      have hsz : ((((w7.setCell ⟨X, 2, none⟩ (.slice P1 (g.prio.length + 1) c7)).setCell ⟨R, 0, none⟩ (.slice A g.arena.owner.length ac)).setCell ⟨R, 1, none⟩ ((.slice A' g.arena.next.length ac'))).setCell ⟨R, 2, none⟩ (.slice P1 (g.prio.length + 1) c7)).heap.size = (w7.setCell ⟨X, 2, none⟩ (.slice P1 (g.prio.length + 1) c7)).heap.size := by simp
      have hop2 := hop.heapFrom hcb
      generalize ((((w7.setCell ⟨X, 2, none⟩ (.slice P1 (g.prio.length + 1) c7)).setCell ⟨R, 0, none⟩ (.slice A g.arena.owner.length ac)).setCell ⟨R, 1, none⟩ ((.slice A' g.arena.next.length ac'))).setCell ⟨R, 2, none⟩ (.slice P1 (g.prio.length + 1) c7)) = wZ at *
      have p0 := hR6.c0
      have p1 := hR6.c1
      have p5 := hR6.c2
      refine bodyPost_ret (v := .agg #[.slice A g.arena.owner.length ac, (.slice A' g.arena.next.length ac'), .slice P1 (g.prio.length + 1) c7]) (by simp [results, Try.results100, go_sem, p0, p1, p5]) rfl ?_
      first | exact ⟨_, rfl, ⟨g.arena, g.prio ++ [1]⟩, hop2.mono (by omega) (by omega), hbigf, hl1f, hl2f, hd6⟩ | exact ⟨_, ⟨g.arena, g.prio ++ [1]⟩, rfl, hop2.mono (by omega) (by omega), hbigf, hl1f, hl2f, hd6⟩
    · go_wp2_with fail
      refine (l1DrawAny_any C v n _ hd5.1).mono ?_
      rintro e w6 ⟨ua, a2, rfl, hoa2, hbigf, hdd6⟩
      have hd6' := hd5.trans hdd6
      have hX6 : Arr w6 X 32 [.slice A g.arena.owner.length ac, (.slice A' g.arena.next.length ac'), .slice (some ⟨D, 0, none⟩) g.prio.length d] := (hdd6.2.block X hX5.lt (by omega)).trans hX5
      have hR6 : Arr w6 R 32 [.slice none 0 0, .slice none 0 0, .slice none 0 0] := (hdd6.2.block R hR5.lt (by omega)).trans hR5
      have ho6 := ho5.chg hdd6.2 (fun b hb e => by have := (ho5.1.lt b hb).1; omega)
      have hp6 := hp5.chg hdd6.2 (fun b hb e => by have := (hp5.1.lt b hb).1; omega)
      have hr6 := hr5.chg hdd6.2 (fun b hb e => by have := (hr5.own.lt b hb).1; omega) (fun j hj b hb e => by have := ((hr5.row j hj).1.lt b hb).1; omega)
      clear hX5 hR5 ho5 hr5 hp5
      obtain ⟨A2, ac2, A2', ac2', rfl⟩ := hoa2.form
      have hs6 := hdd6.2.size
      have hX6l := hX6.lt
      have hXf := (hX6.set_ 0 (.slice A2 a2.owner.length ac2)).set_ 1 (.slice A2' a2.next.length ac2')
      have hRf : Arr ((w6.setCell ⟨X, 0, none⟩ (.slice A2 a2.owner.length ac2)).setCell ⟨X, 1, none⟩ (.slice A2' a2.next.length ac2')) R 32 [.slice none 0 0, .slice none 0 0, .slice none 0 0] := (hR6.far (by simp; omega) _).far (by simp; omega) _
      have q0 := hX6.c0
      have q1 := hX6.c1
      have q2 := hX6.frozen 0
      have q3 := hX6.frozen 1
      have hpf : OI ((w6.setCell ⟨X, 0, none⟩ (.slice A2 a2.owner.length ac2)).setCell ⟨X, 1, none⟩ (.slice A2' a2.next.length ac2')) (R + 1) w6.heap.size (.slice (some ⟨D, 0, none⟩) g.prio.length d) g.prio := (hp6.heap fun b hb => by
        have := hp6.2 b hb
        rw [Below.heap_setCell _ _ _ _ (by simp; omega), Below.heap_setCell _ _ _ _ (by simp; omega)]).mono (Nat.le_refl _) (by omega)
      have hop : OP ((w6.setCell ⟨X, 0, none⟩ (.slice A2 a2.owner.length ac2)).setCell ⟨X, 1, none⟩ (.slice A2' a2.next.length ac2')) (R + 1) w6.heap.size (.agg #[.slice A2 a2.owner.length ac2, (.slice A2' a2.next.length ac2'), .slice (some ⟨D, 0, none⟩) g.prio.length d]) ⟨a2, g.prio⟩ := OP.join' (B1 := w5.heap.size) (C1 := w6.heap.size) ((hoa2.farC (.inl (by show X < _; omega)) _).farC (.inl (by show X < _; omega)) _) hpf (fun b hb => by have e2 : D = b := Option.some.inj hb; omega) (by omega) (Nat.le_refl _)
      have hdw : Drawn w ((w6.setCell ⟨X, 0, none⟩ (.slice A2 a2.owner.length ac2)).setCell ⟨X, 1, none⟩ (.slice A2' a2.next.length ac2')) C v n := (hd6'.setCell hc (p := ⟨X, 0, none⟩) (by show w.heap.size ≤ X; omega) _).setCell hc (p := ⟨X, 1, none⟩) (by show w.heap.size ≤ X; omega) _
      have hwl : w6.heap.size ≤ ((w6.setCell ⟨X, 0, none⟩ (.slice A2 a2.owner.length ac2)).setCell ⟨X, 1, none⟩ (.slice A2' a2.next.length ac2')).heap.size := by simp
      have hl1f := hl1
      have hl2f : g.prio.length ≤ 9 := by omega
      clear hoa2
      have hXc0 := hXf.c0
      have hXc1 := hXf.c1
      have hXc2 := hXf.c2
      have p8 := hRf.c0
      have p9 := hRf.c1
      have p7 := hRf.c2
      have p2 := hRf.frozen 0
      have p3 := hRf.frozen 1
      have p4 := hRf.frozen 2
      have hRl := hRf.lt
      go_wp2
      have hR6 := ((hRf.set_ 0 (.slice A2 a2.owner.length ac2)).set_ 1 ((.slice A2' a2.next.length ac2'))).set_ 2 (.slice (some ⟨D, 0, none⟩) g.prio.length d)
      have hd6 : Drawn w (((((w6.setCell ⟨X, 0, none⟩ (.slice A2 a2.owner.length ac2)).setCell ⟨X, 1, none⟩ (.slice A2' a2.next.length ac2')).setCell ⟨R, 0, none⟩ (.slice A2 a2.owner.length ac2)).setCell ⟨R, 1, none⟩ ((.slice A2' a2.next.length ac2'))).setCell ⟨R, 2, none⟩ (.slice (some ⟨D, 0, none⟩) g.prio.length d)) C v n := ((hdw.setCell hc (p := ⟨R, 0, none⟩) (by show w.heap.size ≤ R; omega) _).setCell hc (p := ⟨R, 1, none⟩) (by show w.heap.size ≤ R; omega) _).setCell hc (p := ⟨R, 2, none⟩) (by show w.heap.size ≤ R; omega) _
      have hcb : ∀ b, R + 1 ≤ b → (((((w6.setCell ⟨X, 0, none⟩ (.slice A2 a2.owner.length ac2)).setCell ⟨X, 1, none⟩ (.slice A2' a2.next.length ac2')).setCell ⟨R, 0, none⟩ (.slice A2 a2.owner.length ac2)).setCell ⟨R, 1, none⟩ ((.slice A2' a2.next.length ac2'))).setCell ⟨R, 2, none⟩ (.slice (some ⟨D, 0, none⟩) g.prio.length d)).heap[b]? = ((w6.setCell ⟨X, 0, none⟩ (.slice A2 a2.owner.length ac2)).setCell ⟨X, 1, none⟩ (.slice A2' a2.next.length ac2')).heap[b]? := fun b hb => by
        rw [Below.heap_setCell _ _ _ _ (by simp; omega), Below.heap_setCell _ _ _ _ (by simp; omega), Below.heap_setCell _ _ _ _ (by simp; omega)]
      have hsz : (((((w6.setCell ⟨X, 0, none⟩ (.slice A2 a2.owner.length ac2)).setCell ⟨X, 1, none⟩ (.slice A2' a2.next.length ac2')).setCell ⟨R, 0, none⟩ (.slice A2 a2.owner.length ac2)).setCell ⟨R, 1, none⟩ ((.slice A2' a2.next.length ac2'))).setCell ⟨R, 2, none⟩ (.slice (some ⟨D, 0, none⟩) g.prio.length d)).heap.size = ((w6.setCell ⟨X, 0, none⟩ (.slice A2 a2.owner.length ac2)).setCell ⟨X, 1, none⟩ (.slice A2' a2.next.length ac2')).heap.size := by simp
      have hop2 := hop.heapFrom hcb
      generalize (((((w6.setCell ⟨X, 0, none⟩ (.slice A2 a2.owner.length ac2)).setCell ⟨X, 1, none⟩ (.slice A2' a2.next.length ac2')).setCell ⟨R, 0, none⟩ (.slice A2 a2.owner.length ac2)).setCell ⟨R, 1, none⟩ ((.slice A2' a2.next.length ac2'))).setCell ⟨R, 2, none⟩ (.slice (some ⟨D, 0, none⟩) g.prio.length d)) = wZ at *
      have p0 := hR6.c0
      have p1 := hR6.c1
      have p5 := hR6.c2
      refine bodyPost_ret (v := .agg #[.slice A2 a2.owner.length ac2, (.slice A2' a2.next.length ac2'), .slice (some ⟨D, 0, none⟩) g.prio.length d]) (by simp [results, Try.results100, go_sem, p0, p1, p5]) rfl ?_
      first | exact ⟨_, rfl, ⟨a2, g.prio⟩, hop2.mono (by omega) (by omega), hbigf, hl1f, hl2f, hd6⟩ | exact ⟨_, ⟨a2, g.prio⟩, rfl, hop2.mono (by omega) (by omega), hbigf, hl1f, hl2f, hd6⟩
end Go.Proofs.Ytogfpalgnjlfcaa
