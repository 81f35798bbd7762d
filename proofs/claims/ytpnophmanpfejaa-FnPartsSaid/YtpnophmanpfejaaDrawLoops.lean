/- The walk of DrawLoopsOf: an arena and a set. -/
import Derived.Test.YtpnophmanpfejaaDrawReach
import Derived.Test.YtpnophmanpfejaaPkB
namespace Go.Proofs.Ytpnophmanpfejaa
set_option linter.unusedSimpArgs false
set_option linter.unusedVariables false
open Go.RowKit

set_option maxRecDepth 100000 in
set_option maxHeartbeats 8000000 in
theorem DrawLoopsOf_any (v : Value) (n : Nat) (w : World) (hb : Bytes w v n) (hn : n ≤ 4096) :
    Calls Try.prog 68 #[v] w fun e w' => ∃ ua u a l, e = .returned (.tuple #[ua, u]) ∧ IsArena w' ua a ∧ BigA a ∧ Ints w' u l ∧ l.length ≤ 300 ∧ Below w.heap.size w w' := by
  obtain ⟨BA, bc, rfl, hbl, hbm⟩ := hb.form
  have hR0 := Arr.new w 30 [.slice none 0 0, .slice none 0 0]
  have hbn := (Below.refl w.heap.size w).alloc (Nat.le_refl _) (.cells #[.slice none 0 0, .slice none 0 0] 30)
  have hb0 := hb.kept (Kept.of hbn)
  have hRs : w.heap.size < (w.alloc (.cells #[.slice none 0 0, .slice none 0 0] 30)).heap.size := by simp
  obtain ⟨R, hR⟩ : ∃ R, w.heap.size = R := ⟨_, rfl⟩
  go_enter Try.func68, Try.ntmps68
  go_wp2_with fail
  rw [hR] at hR0 hbn hRs
  generalize w.alloc (.cells #[.slice none 0 0, .slice none 0 0] 30) = w0 at *
  refine (l1New_any _ n _ hb0 hn).mono ?_
  rintro e w1 ⟨C, rfl, hc, hC, hb1⟩
  have hCR : R < C := by omega
  have hR1 := hR0.below hb1 hRs
  have hCl := hc.lt
  go_wp2_with fail
  refine (l1DrawAny_any C _ n _ hc).mono ?_
  rintro e w2 ⟨ua, a, rfl, hoa, hbig, hd2⟩
  obtain ⟨A, ac, A', ac', rfl⟩ := hoa.form
  have hR2 : Arr w2 R 30 [.slice none 0 0, .slice none 0 0] := (hd2.2.block R hR1.lt (by omega)).trans hR1
  have hX0 := Arr.new w2 30 [.slice A a.owner.length ac, .slice A' a.next.length ac']
  have hbX := (Below.refl w2.heap.size w2).alloc (Nat.le_refl _) (.cells #[.slice A a.owner.length ac, .slice A' a.next.length ac'] 30)
  have hR3 := hR2.below hbX hR2.lt
  have ho3 := hoa.below hbX
  have hd3 := hd2.below hbX
  have hs2 := hd2.2.size
  obtain ⟨X, hX⟩ : ∃ X, w2.heap.size = X := ⟨_, rfl⟩
  have hCX : C < X := by omega
  clear hoa hR2 hbX hd2 hR1 hR0 hb0
  go_wp2_with fail
  rw [hX] at hX0 ho3
  generalize w2.alloc (.cells #[.slice A a.owner.length ac, .slice A' a.next.length ac'] 30) = w3 at *
  refine (l1Once_any C _ n 3 _ hd3.1).mono ?_
  rintro e w4 ⟨b, rfl, hdd⟩
  have hX4 : Arr w4 X 30 [.slice A a.owner.length ac, .slice A' a.next.length ac'] := (hdd.2.block X hX0.lt (by omega)).trans hX0
  have hR4 : Arr w4 R 30 [.slice none 0 0, .slice none 0 0] := (hdd.2.block R hR3.lt (by omega)).trans hR3
  have ho4 := ho3.chgC hdd.2 hCl
  have hd4 := hd3.trans hdd
  clear hX0 hR3 ho3 hdd hd3
  have hX4l := hX4.lt
  have hR4l := hR4.lt
  have hcd : Cur w4.drew C _ n := hd4.1.drew
  have hal := hbig.owner
  have q0 := hX4.c0
  have q1 := hX4.c1
  have hR5 : R < w1.heap.size := by omega
  cases b
  · go_wp2_with fail
    go_region_law (first | (go_simp; go_at_call 115; refine (l1DrawSet_any C _ n a.owner.length _ hcd (by omega)).mono ?_; rintro e w8 ⟨u, l, rfl, hown, hll, hne, hd8⟩; have hd8' : Drawn w4 w8 C _ n := ⟨hd8.1, ⟨hd8.2.os, hd8.2.tape, hd8.2.output, hd8.2.size, hd8.2.block⟩⟩; have hX8 : Arr w8 X 30 _ := (hd8'.2.block X hX4.lt (by omega)).trans hX4; have hR8 : Arr w8 R 30 _ := (hd8'.2.block R hR4.lt (by omega)).trans hR4; have q2 := hX8.c0; have q3 := hX8.c1; have p8 := hR8.c0; have p9 := hR8.c1; have p2 := hR8.frozen 0; have p3 := hR8.frozen 1))
    all_goals
      go_wp2
      have ho8 := ho4.chgC hd8'.2 hCl
      have hd8 := hd4.trans hd8'
      have hbe8 : Below w.heap.size w w8 := by
        rw [hR]
        have h := Below.drawn (C := C) (by rw [hR]; exact hbn.trans (hb1.mono (by omega))) (by omega) hd8.2
        rwa [hR] at h
      clear hbn hb1
      have hR9 := (hR8.set_ 0 (.slice A a.owner.length ac)).set_ 1 (.slice A' a.next.length ac')
      have hch : ∀ b, R + 1 ≤ b → ((w8.setCell ⟨R, 0, none⟩ (.slice A a.owner.length ac)).setCell ⟨R, 1, none⟩ (.slice A' a.next.length ac')).heap[b]? = w8.heap[b]? := fun b hb => by
        rw [Below.heap_setCell _ _ _ _ (by simp; omega), Below.heap_setCell _ _ _ _ (by simp; omega)]
      have hoa := ho8.heapFrom (fun b hb => hch b (by omega))
      have hown9 := hown.heap (fun b hb => hch b (by have h1 := (hown.lt b hb).1; have h2 : w4.heap.size ≤ b := h1; omega))
      subst hR
      have hbz : Below w.heap.size w ((w8.setCell ⟨w.heap.size, 0, none⟩ (.slice A a.owner.length ac)).setCell ⟨w.heap.size, 1, none⟩ (.slice A' a.next.length ac')) := (hbe8.setCell (p := ⟨w.heap.size, 0, none⟩) (Nat.le_refl _) _).setCell (p := ⟨w.heap.size, 1, none⟩) (Nat.le_refl _) _
      generalize ((w8.setCell ⟨w.heap.size, 0, none⟩ (.slice A a.owner.length ac)).setCell ⟨w.heap.size, 1, none⟩ (.slice A' a.next.length ac')) = wZ at *
      have p0 := hR9.c0
      have p1 := hR9.c1
      clear q0 q1 q2 q3 p8 p9 p2 p3 hch
      refine bodyPost_ret (v := .tuple #[.agg #[.slice A a.owner.length ac, .slice A' a.next.length ac'], u]) (by simp [results, Try.results68, go_sem, p0, p1]) rfl ?_
      first | exact ⟨_, _, rfl, a, _, hoa.arena, hbig, hown9.ints, by first | omega | simp, hbz⟩ | exact ⟨_, _, a, _, rfl, hoa.arena, hbig, hown9.ints, by first | omega | simp, hbz⟩
  · go_wp2_with fail
    go_region_law (first | (go_simp; go_at_call 126; refine (specAllOf_any (a.owner.length : Int) _).mono ?_; rintro e w8 ⟨u, rfl, hown, hb8⟩; have hb8' : Below w4.heap.size w4 w8 := ⟨hb8.os, hb8.tape, hb8.output, hb8.size, hb8.block⟩; have hX8 : Arr w8 X 30 _ := hX4.below hb8' hX4.lt; have hR8 : Arr w8 R 30 _ := hR4.below hb8' hR4.lt; have q2 := hX8.c0; have q3 := hX8.c1; have p8 := hR8.c0; have p9 := hR8.c1; have p2 := hR8.frozen 0; have p3 := hR8.frozen 1))
    all_goals
      go_wp2
      have ho8 := ho4.below hb8'
      have hbe4 : Below w.heap.size w w4 := by
        rw [hR]
        have h := Below.drawn (C := C) (by rw [hR]; exact hbn.trans (hb1.mono (by omega))) (by omega) hd4.2
        rwa [hR] at h
      have hbe8 : Below w.heap.size w w8 := Below.up hbe4 hb8'
      have hal2 : (allL (a.owner.length : Int)).length ≤ 300 := by unfold allL; split <;> simp <;> omega
      clear hbn hb1
      have hR9 := (hR8.set_ 0 (.slice A a.owner.length ac)).set_ 1 (.slice A' a.next.length ac')
      have hch : ∀ b, R + 1 ≤ b → ((w8.setCell ⟨R, 0, none⟩ (.slice A a.owner.length ac)).setCell ⟨R, 1, none⟩ (.slice A' a.next.length ac')).heap[b]? = w8.heap[b]? := fun b hb => by
        rw [Below.heap_setCell _ _ _ _ (by simp; omega), Below.heap_setCell _ _ _ _ (by simp; omega)]
      have hoa := ho8.heapFrom (fun b hb => hch b (by omega))
      have hown9 := (OI.of hown).heap (fun b hb => hch b (by have h1 := (hown.lt b hb).1; have h2 : w4.heap.size ≤ b := h1; omega))
      subst hR
      have hbz : Below w.heap.size w ((w8.setCell ⟨w.heap.size, 0, none⟩ (.slice A a.owner.length ac)).setCell ⟨w.heap.size, 1, none⟩ (.slice A' a.next.length ac')) := (hbe8.setCell (p := ⟨w.heap.size, 0, none⟩) (Nat.le_refl _) _).setCell (p := ⟨w.heap.size, 1, none⟩) (Nat.le_refl _) _
      generalize ((w8.setCell ⟨w.heap.size, 0, none⟩ (.slice A a.owner.length ac)).setCell ⟨w.heap.size, 1, none⟩ (.slice A' a.next.length ac')) = wZ at *
      have p0 := hR9.c0
      have p1 := hR9.c1
      clear q0 q1 q2 q3 p8 p9 p2 p3 hch
      refine bodyPost_ret (v := .tuple #[.agg #[.slice A a.owner.length ac, .slice A' a.next.length ac'], u]) (by simp [results, Try.results68, go_sem, p0, p1]) rfl ?_
      first | exact ⟨_, _, rfl, a, _, hoa.arena, hbig, hown9.ints, by first | omega | simp, hbz⟩ | exact ⟨_, _, a, _, rfl, hoa.arena, hbig, hown9.ints, by first | omega | simp, hbz⟩
end Go.Proofs.Ytpnophmanpfejaa
