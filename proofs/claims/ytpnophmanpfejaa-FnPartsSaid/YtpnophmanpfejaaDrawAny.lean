/- The walk of l1DrawAny: a small arena, bent sometimes. Printed by gen_draw.py. -/
import Derived.Test.YtpnophmanpfejaaDrawWalks
import Derived.Test.YtpnophmanpfejaaPrevPlain
namespace Go.Proofs.Ytpnophmanpfejaa
set_option linter.unusedSimpArgs false
set_option linter.unusedVariables false
open Go.RowKit

/-- An arena of some size. -/
structure BigA (a : ArenaD) : Prop where
  owner : a.owner.length ≤ 257
  next : a.next.length ≤ 257
  deg : ∀ k, k < a.next.length → (rx a.next k).length ≤ 17
theorem below_drwD {B : Nat} {a w : World} (h : Below B a w) : Below B a w.drew := ⟨h.os, h.tape, h.output, h.size, h.block⟩
theorem own_form {w : World} {B n : Nat} {v : Value} {l : List Int} (h : OwnInts w B v l) (hl : l.length = n) (hn : 0 < n) : ∃ g cap, v = .slice (some ⟨g, 0, none⟩) n cap ∧ B ≤ g ∧ g < w.heap.size := by
  rcases OwnInts.form h with ⟨_, h2⟩ | ⟨g, cap, h1, h2, h3, _⟩
  · rw [h2] at hl; simp at hl; omega
  · exact ⟨g, cap, by rw [h1, hl], h2, h3⟩
theorem rx_set_le {l2 : List (List Int)} {row : List Int} {m j : Nat} (h : ∀ k, k < l2.length → (rx l2 k).length ≤ m) (hr : row.length ≤ m) (hj : j < l2.length) : ∀ k, k < (l2.set j row).length → (rx (l2.set j row) k).length ≤ m := fun k hk => by
  rw [List.length_set] at hk
  rw [rx_set hj]
  split
  · exact hr
  · exact h k hk
set_option maxRecDepth 100000 in
set_option maxHeartbeats 16000000 in
theorem l1DrawAny_any (C : Nat) (v : Value) (n : Nat) (w : World) (hc : Cur w C v n) :
    Calls Try.prog 112 #[.pointer (some ⟨C, 0, none⟩)] w fun e w' => ∃ u a, e = .returned u ∧ OA w' w.heap.size w'.heap.size u a ∧ BigA a ∧ Drawn w w' C v n := by
  have hR0 := Arr.new w 30 [.slice none 0 0, .slice none 0 0]
  have hbn := (Below.refl w.heap.size w).alloc (Nat.le_refl _) (.cells #[.slice none 0 0, .slice none 0 0] 30)
  have hCl := hc.lt
  have hR0l : w.heap.size + 1 ≤ (w.alloc (.cells #[.slice none 0 0, .slice none 0 0] 30)).heap.size := by simp
  go_enter Try.func112, Try.ntmps112
  go_wp2_with fail
  generalize w.alloc (.cells #[.slice none 0 0, .slice none 0 0] 30) = w0 at *
  refine (l1Draw_any C v n _ (hc.below hbn)).mono ?_
  rintro e w1 ⟨u1, ⟨l1, l2⟩, rfl, hoa, hsm, hd1⟩
  obtain ⟨o, nx, vs, rfl, ho, hr, hdis⟩ := hoa
  obtain ⟨hs1, hs2, hs3, hs4⟩ := hsm
  simp only at hs1 hs2 hs3 hs4 hdis ho hr
  have Hdg := Lib.hid hs4
  clear hs4
  have Hs3 := Lib.hid hs3
  have hs5 : 1 ≤ l2.length := by omega
  have hs6 : l2.length ≤ 8 := by omega
  clear hs3
  obtain ⟨g, cap, rfl, hg0, hg1⟩ := own_form ho.1 rfl (by omega)
  obtain ⟨G, ncap, rfl⟩ : ∃ G ncap, nx = .slice (some ⟨G, 0, none⟩) l2.length ncap := by
    rcases hr.own.2 with ⟨_, h⟩ | ⟨G, ncap, cur, h, _⟩
    · omega
    · exact ⟨G, ncap, h⟩
  have hX0 := Arr.new w1 30 [.slice (some ⟨g, 0, none⟩) l1.length cap, .slice (some ⟨G, 0, none⟩) l2.length ncap]
  have hbX := (Below.refl w1.heap.size w1).alloc (Nat.le_refl _) (.cells #[.slice (some ⟨g, 0, none⟩) l1.length cap, .slice (some ⟨G, 0, none⟩) l2.length ncap] 30)
  have hR1 : Arr w1 w.heap.size 30 [.slice none 0 0, .slice none 0 0] := (hd1.2.block w.heap.size hR0.lt (by omega)).trans hR0
  have hR2 := hR1.below hbX hR1.lt
  have ho2 := (ho.below hbX).mono hR0l (Nat.le_refl _)
  have hr2 := (hr.kept (Only.of_below (B := w1.heap.size) (C := w1.heap.size) hbX) (.inl (Nat.le_refl _))).mono hR0l (Nat.le_refl _)
  have hd2 := ((Drawn.below (.refl hc) hbn).trans hd1).below hbX
  have hRX := hR1.lt
  obtain ⟨R, hR⟩ : ∃ R, w.heap.size = R := ⟨_, rfl⟩
  obtain ⟨X, hX⟩ : ∃ X, w1.heap.size = X := ⟨_, rfl⟩
  clear ho hr hR0 hR1 hbn hd1 hg0 hg1 hR0l
  go_wp2_with fail
  rw [hX] at hX0 ho2 hr2 hRX
  rw [hR] at hR2 ho2 hr2 hRX
  clear hX
  have hX2 := hX0
  clear hX0
  generalize w1.alloc (.cells #[.slice (some ⟨g, 0, none⟩) l1.length cap, .slice (some ⟨G, 0, none⟩) l2.length ncap] 30) = w2 at *
  refine (l1Once_any C v n 6 _ hd2.1).mono ?_
  rintro e w3 ⟨b, rfl, hdd3⟩
  have hd3 := hd2.trans hdd3
  have hX3 : Arr w3 X 30 [.slice (some ⟨g, 0, none⟩) l1.length cap, .slice (some ⟨G, 0, none⟩) l2.length ncap] := (hdd3.2.block X hX2.lt (by omega)).trans hX2
  have hR3 : Arr w3 R 30 [.slice none 0 0, .slice none 0 0] := (hdd3.2.block R hR2.lt (by omega)).trans hR2
  have ho3 := ho2.chg hdd3.2 (fun b hb e => by have := (ho2.1.lt b hb).1; omega)
  have hr3 := hr2.chg hdd3.2 (fun b hb e => by have := (hr2.own.lt b hb).1; omega) (fun j hj b hb e => by have := ((hr2.row j hj).1.lt b hb).1; omega)
  clear hX2 hR2 ho2 hr2
  clear hdd3 hd2 hbX
  cases b
  · skip
    have hXf := hX3
    have hRf := hR3
    have hof := ho3
    have hrf := hr3
    have hdf := hdis
    have hdw := hd3
    have hCC : X ≤ w3.heap.size := Nat.le_of_lt hX3.lt
    obtain ⟨CC, hCe⟩ : ∃ CC, CC = X := ⟨_, rfl⟩
    rw [← hCe] at hof hrf
    have hXc0 := hXf.c0
    have hXc1 := hXf.c1
    have p8 := hRf.c0
    have p9 := hRf.c1
    have p2 := hRf.frozen 0
    have p3 := hRf.frozen 1
    have hRl := hRf.lt
    go_wp2
    have hR6 := (hRf.set_ 0 (.slice (some ⟨g, 0, none⟩) l1.length cap)).set_ 1 (.slice (some ⟨G, 0, none⟩) l2.length ncap)
    have hd6 : Drawn w ((w3.setCell ⟨R, 0, none⟩ (.slice (some ⟨g, 0, none⟩) l1.length cap)).setCell ⟨R, 1, none⟩ (.slice (some ⟨G, 0, none⟩) l2.length ncap)) C v n := (hdw.setCell hc (p := ⟨R, 0, none⟩) (by show w.heap.size ≤ R; omega) _).setCell hc (p := ⟨R, 1, none⟩) (by show w.heap.size ≤ R; omega) _
    have hcb : ∀ b, R + 1 ≤ b → ((w3.setCell ⟨R, 0, none⟩ (.slice (some ⟨g, 0, none⟩) l1.length cap)).setCell ⟨R, 1, none⟩ (.slice (some ⟨G, 0, none⟩) l2.length ncap)).heap[b]? = w3.heap[b]? := fun b hb => by
      rw [Below.heap_setCell _ _ _ _ (by simp; omega), Below.heap_setCell _ _ _ _ (by simp; omega)]
    have hsz : ((w3.setCell ⟨R, 0, none⟩ (.slice (some ⟨g, 0, none⟩) l1.length cap)).setCell ⟨R, 1, none⟩ (.slice (some ⟨G, 0, none⟩) l2.length ncap)).heap.size = w3.heap.size := by simp
    have hoa : OA _ (R + 1) CC (.agg #[.slice (some ⟨g, 0, none⟩) l1.length cap, .slice (some ⟨G, 0, none⟩) l2.length ncap]) ⟨l1, l2⟩ := OA.heapFrom ⟨_, _, _, rfl, hof, hrf, hdf⟩ hcb
    generalize (w3.setCell ⟨R, 0, none⟩ (.slice (some ⟨g, 0, none⟩) l1.length cap)).setCell ⟨R, 1, none⟩ (.slice (some ⟨G, 0, none⟩) l2.length ncap) = wZ at *
    have p0 := hR6.c0
    have p1 := hR6.c1
    refine bodyPost_ret (v := .agg #[.slice (some ⟨g, 0, none⟩) l1.length cap, .slice (some ⟨G, 0, none⟩) l2.length ncap]) (by simp [results, Try.results112, go_sem, p0, p1]) rfl ?_
    have hbig : BigA ⟨l1, l2⟩ := ⟨by show l1.length ≤ 257; omega, by show l2.length ≤ 257; omega, fun k hk => Nat.le_trans (Hdg.out k hk) (by omega)⟩
    first | exact ⟨_, rfl, ⟨l1, l2⟩, hoa.mono (by omega) (by omega), hbig, hd6⟩ | exact ⟨_, ⟨l1, l2⟩, rfl, hoa.mono (by omega) (by omega), hbig, hd6⟩
  · have q0 := hX3.c0
    go_wp2_with fail
    refine (l1Below_any C v n (l1.length : Int) _ hd3.1).mono ?_
    rintro e w4 ⟨jx, rfl, hj0, _, hj1, hdd4⟩
    have hj2 := hj1 (by omega)
    obtain ⟨j, rfl⟩ : ∃ j : Nat, jx = (j : Int) := ⟨jx.toNat, by omega⟩
    have hjl : j < l1.length := by omega
    have hjn : j < l2.length := by rw [Hs3.out]; exact hjl
    have hd4 := hd3.trans hdd4
    have hX4 : Arr w4 X 30 [.slice (some ⟨g, 0, none⟩) l1.length cap, .slice (some ⟨G, 0, none⟩) l2.length ncap] := (hdd4.2.block X hX3.lt (by omega)).trans hX3
    have hR4 : Arr w4 R 30 [.slice none 0 0, .slice none 0 0] := (hdd4.2.block R hR3.lt (by omega)).trans hR3
    have ho4 := ho3.chg hdd4.2 (fun b hb e => by have := (ho3.1.lt b hb).1; omega)
    have hr4 := hr3.chg hdd4.2 (fun b hb e => by have := (hr3.own.lt b hb).1; omega) (fun j hj b hb e => by have := ((hr3.row j hj).1.lt b hb).1; omega)
    clear hX3 hR3 ho3 hr3
    clear q0 hdd4 hd3 hj0 hj1
    go_wp2_with fail
    refine (l1Below_any C v n 6 _ hd4.1).mono ?_
    rintro e w5 ⟨x, rfl, hx0, _, hx1, hdd5⟩
    have hx2 := hx1 (by omega)
    have hd5 := hd4.trans hdd5
    have hX5 : Arr w5 X 30 [.slice (some ⟨g, 0, none⟩) l1.length cap, .slice (some ⟨G, 0, none⟩) l2.length ncap] := (hdd5.2.block X hX4.lt (by omega)).trans hX4
    have hR5 : Arr w5 R 30 [.slice none 0 0, .slice none 0 0] := (hdd5.2.block R hR4.lt (by omega)).trans hR4
    have ho5 := ho4.chg hdd5.2 (fun b hb e => by have := (ho4.1.lt b hb).1; omega)
    have hr5 := hr4.chg hdd5.2 (fun b hb e => by have := (hr4.own.lt b hb).1; omega) (fun j hj b hb e => by have := ((hr4.row j hj).1.lt b hb).1; omega)
    clear hX4 hR4 ho4 hr4
    clear hdd5 hd4 hx1
    have hxx : x = 0 ∨ x = 1 ∨ x = 2 ∨ x = 3 ∨ x = 4 ∨ x = 5 := by omega
    have hjn2 : (j : Int) < l2.length := by omega
    have hX5l := hX5.lt
    clear hx0 hx2
    rcases hxx with rfl | rfl | rfl | rfl | rfl | rfl
    · have hcd : Cur w5.drew C v n := hd5.1.drew
      have q0 := hX5.c0
      go_wp2_with fail
      go_region_law (first | (go_simp; go_at_call 151; refine (l1From_any C v n (-1) 2 _ hcd (by omega) (by omega)).mono ?_; rintro e w8 ⟨x, rfl, hx0, hx1, hx2, hd8⟩; have hd8' : Drawn w5 w8 C v n := ⟨hd8.1, ⟨hd8.2.os, hd8.2.tape, hd8.2.output, hd8.2.size, hd8.2.block⟩⟩; have hX8 : Arr w8 X 30 [.slice (some ⟨g, 0, none⟩) l1.length cap, .slice (some ⟨G, 0, none⟩) l2.length ncap] := (hd8'.2.block X hX5.lt (by omega)).trans hX5; have ho8 := ho5.chg hd8'.2 (fun b hb e => by have := (ho5.1.lt b hb).1; omega); have q1 := hX8.c0; have q2 := OwnInts.cell ho8.1 hjl; have q3 := OwnInts.frozen ho8.1 j))
      all_goals
        have hR8 : Arr w8 R 30 [.slice none 0 0, .slice none 0 0] := (hd8'.2.block R hR5.lt (by omega)).trans hR5
        have hr8 := hr5.chg hd8'.2 (fun b hb e => by have := (hr5.own.lt b hb).1; omega) (fun j hj b hb e => by have := ((hr5.row j hj).1.lt b hb).1; omega)
        have hst := OwnInts.set_ ho8.1 j x
        have hgR : R + 1 ≤ g ∧ g < X := ⟨(ho8.1.lt g rfl).1, ho8.2 g rfl⟩
        have hXf : Arr (w8.setCell ⟨g, j, none⟩ (.int .i64 x)) X _ _ := hX8.far (by simp; omega) _
        have hRf : Arr (w8.setCell ⟨g, j, none⟩ (.int .i64 x)) R _ _ := hR8.far (by simp; omega) _
        have hof : OI (w8.setCell ⟨g, j, none⟩ (.int .i64 x)) (R + 1) X (.slice (some ⟨g, 0, none⟩) l1.length cap) (l1.set j x) := ⟨hst.1, ho8.2⟩
        have hrf := hr8.chg (Chg.of_grown hst.2) (fun b hb e => by injection e with e; rw [← e] at hb; exact owns_ne hr8.own ho8.1 row_type_ne hb rfl) (fun j' hj' b hb e => by injection e with e; rw [← e] at hb; exact hdis g rfl j' hj' hb)
        have hdf := hdis
        have hdw : Drawn w (w8.setCell ⟨g, j, none⟩ (.int .i64 x)) C v n := (hd5.trans hd8').setCell hc (by show w.heap.size ≤ g; omega) _
        have hCC : X ≤ (w8.setCell ⟨g, j, none⟩ (.int .i64 x)).heap.size := Nat.le_of_lt hXf.lt
        obtain ⟨CC, hCe⟩ : ∃ CC, CC = X := ⟨_, rfl⟩
        rw [← hCe] at hof hrf
        generalize w8.setCell ⟨g, j, none⟩ (.int .i64 x) = wF at *
        clear q0 q1 q2 q3 hcd
        have hXc0 := hXf.c0
        have hXc1 := hXf.c1
        have p8 := hRf.c0
        have p9 := hRf.c1
        have p2 := hRf.frozen 0
        have p3 := hRf.frozen 1
        have hRl := hRf.lt
        go_wp2
        have hR6 := (hRf.set_ 0 (.slice (some ⟨g, 0, none⟩) l1.length cap)).set_ 1 (.slice (some ⟨G, 0, none⟩) l2.length ncap)
        have hd6 : Drawn w ((wF.setCell ⟨R, 0, none⟩ (.slice (some ⟨g, 0, none⟩) l1.length cap)).setCell ⟨R, 1, none⟩ (.slice (some ⟨G, 0, none⟩) l2.length ncap)) C v n := (hdw.setCell hc (p := ⟨R, 0, none⟩) (by show w.heap.size ≤ R; omega) _).setCell hc (p := ⟨R, 1, none⟩) (by show w.heap.size ≤ R; omega) _
        have hcb : ∀ b, R + 1 ≤ b → ((wF.setCell ⟨R, 0, none⟩ (.slice (some ⟨g, 0, none⟩) l1.length cap)).setCell ⟨R, 1, none⟩ (.slice (some ⟨G, 0, none⟩) l2.length ncap)).heap[b]? = wF.heap[b]? := fun b hb => by
          rw [Below.heap_setCell _ _ _ _ (by simp; omega), Below.heap_setCell _ _ _ _ (by simp; omega)]
        have hsz : ((wF.setCell ⟨R, 0, none⟩ (.slice (some ⟨g, 0, none⟩) l1.length cap)).setCell ⟨R, 1, none⟩ (.slice (some ⟨G, 0, none⟩) l2.length ncap)).heap.size = wF.heap.size := by simp
        have hoa : OA _ (R + 1) CC (.agg #[.slice (some ⟨g, 0, none⟩) l1.length cap, .slice (some ⟨G, 0, none⟩) l2.length ncap]) ⟨(l1.set j x), l2⟩ := OA.heapFrom ⟨_, _, _, rfl, hof, hrf, hdf⟩ hcb
        generalize (wF.setCell ⟨R, 0, none⟩ (.slice (some ⟨g, 0, none⟩) l1.length cap)).setCell ⟨R, 1, none⟩ (.slice (some ⟨G, 0, none⟩) l2.length ncap) = wZ at *
        have p0 := hR6.c0
        have p1 := hR6.c1
        refine bodyPost_ret (v := .agg #[.slice (some ⟨g, 0, none⟩) l1.length cap, .slice (some ⟨G, 0, none⟩) l2.length ncap]) (by simp [results, Try.results112, go_sem, p0, p1]) rfl ?_
        have hbig : BigA ⟨(l1.set j x), l2⟩ := ⟨by show (l1.set j x).length ≤ 257; rw [List.length_set]; omega, by show l2.length ≤ 257; omega, fun k hk => Nat.le_trans (Hdg.out k hk) (by omega)⟩
        first | exact ⟨_, rfl, ⟨(l1.set j x), l2⟩, hoa.mono (by omega) (by omega), hbig, hd6⟩ | exact ⟨_, ⟨(l1.set j x), l2⟩, rfl, hoa.mono (by omega) (by omega), hbig, hd6⟩
    · have hcd : Cur w5.drew C v n := hd5.1.drew
      have q0 := hX5.c1
      obtain ⟨adx, ex, q2⟩ := (SlF.of_own hr5.own).at_ hjn
      cases ex
      rw [add_head] at q2
      have hgX : g < X := ho5.2 g rfl
      have hGX : G < X := hr5.lt G rfl
      have hGb := hr5.own.lt G rfl
      have hrj := hr5.row j hjn
      have hrl := Hdg.out j hjn
      go_wp2_with fail
      go_region_law (first | (go_simp; go_at_call 152; refine (l1Num_any C v n 256 _ hcd (by omega) (by omega)).mono ?_; rintro e w8 ⟨x, rfl, hx0, hx1, hd8⟩; have hd8' : Drawn w5 w8 C v n := ⟨hd8.1, ⟨hd8.2.os, hd8.2.tape, hd8.2.output, hd8.2.size, hd8.2.block⟩⟩; have hs8 := hd8'.2.size; have hr8 := hr5.chg hd8'.2 (fun b hb e => by have := (hr5.own.lt b hb).1; omega) (fun j hj b hb e => by have := ((hr5.row j hj).1.lt b hb).1; omega); have hR8l : R + 1 ≤ w8.heap.size := (by omega); have hX8 : Arr w8 X 30 _ := (hd8'.2.block X hX5.lt (by omega)).trans hX5; have q5 := hX8.c1; have q6 := (hX8.alloc (.cells #[.int .i64 x] 2)).c1; obtain ⟨adx8, ex8, q3⟩ := (SlF.of_own hr8.own).at_ hjn; cases ex8; rw [add_head] at q3; obtain ⟨adx9, ex9, q4⟩ := (SlF.of_own (hr8.own.alloc (.cells #[.int .i64 x] 2))).at_ hjn; cases ex9; rw [add_head] at q4) | (refine step_append_int w8 rfl (.tmp 34) (.tmp 37) rfl (R + 1) (vx vs j) (rx l2 j) rfl (hr8.row j hjn).1 x rfl (by omega) hR8l ?_; intro v7 w7 ho7 hg7 hd7; obtain ⟨O7, c7, e7, _⟩ := ho7.ints.form; rw [List.length_append, List.length_singleton] at e7; subst e7; obtain ⟨ady, ey, q7⟩ := (SlF.of_own (owns_heap (w' := w7) hr8.own fun b hb => hg7.block b (hr8.own.lt b hb).2 fun e => owns_ne hr8.own (hr8.row j hjn).1 row_type_ne hb e.symm)).at_ hjn; cases ey; rw [add_head] at q7; have q8 : w7.frozen? ⟨G, j, none⟩ = false := (owns_heap (w' := w7) hr8.own fun b hb => hg7.block b (hr8.own.lt b hb).2 fun e => owns_ne hr8.own (hr8.row j hjn).1 row_type_ne hb e.symm).frozenAt j; have hX7 : Arr w7 X 30 _ := Arr.kept' (w := w8) hX8 hg7 (fun e => by have := hrj.2 X e.symm; omega); have q9 := hX7.c1))
      all_goals
        clear q0 q2 q3 q4 q5 q6 q7 q8 q9
        have h7s := hg7.size
        have hob : ∀ b, (Value.slice O7 ((rx l2 j).length + 1) c7).ownBlock = some b → (vx vs j).ownBlock = some b ∨ b = w8.heap.size + 1 := fun b hb => by
          rcases hd7 with e | e
          · rw [e] at hb; exact .inl hb
          · rw [e] at hb; exact .inr (Option.some.inj hb).symm
        have hrB : ∀ k, k < l2.length → ∀ b, (vx vs k).ownBlock = some b → R + 1 ≤ b ∧ b < X := fun k hk b hb => ⟨((hr5.row k hk).1.lt b hb).1, (hr5.row k hk).2 b hb⟩
        have hR8 := (hd8'.2.block R hR5.lt (by omega)).trans hR5
        have hR7 : Arr w7 R 30 _ := Arr.kept' (w := w8) hR8 hg7 (fun e => by have := hrB j hjn R e.symm; omega)
        have ho8 := ho5.chg hd8'.2 (fun b hb e => by have := (ho5.1.lt b hb).1; omega)
        have ho7' := ho8.chg (Chg.of_grown hg7) (fun b hb e => hdis b hb j hjn e)
        have hXf : Arr (w7.setCell ⟨G, j, none⟩ (.slice O7 ((rx l2 j).length + 1) c7)) X _ _ := hX7.far (by simp; omega) _
        have hRf : Arr (w7.setCell ⟨G, j, none⟩ (.slice O7 ((rx l2 j).length + 1) c7)) R _ _ := hR7.far (by simp; omega) _
        have hrf := RowsV.grow (y := .slice O7 ((rx l2 j).length + 1) c7) (C' := w7.heap.size) hr8 rfl hjn hg7 ho7 (hd7.imp id fun e => ⟨_, e, by omega⟩) (by omega) (Nat.le_refl _)
        have hof := (ho7'.heap (w' := (w7.setCell ⟨G, j, none⟩ (.slice O7 ((rx l2 j).length + 1) c7))) fun b hb => Below.heap_setCell _ _ _ _ (fun e => owns_ne hr5.own ho5.1 row_type_ne rfl (by have e2 : b = G := e; rw [e2] at hb; exact hb))).mono (Nat.le_refl _) (show X ≤ w7.heap.size by omega)
        have hdf : ∀ b, (Value.slice (some ⟨g, 0, none⟩) l1.length cap).ownBlock = some b → ∀ k, k < (l2.set j (rx l2 j ++ [x])).length → (vx (vs.set j (.slice O7 ((rx l2 j).length + 1) c7)) k).ownBlock ≠ some b := fun b hb k hk e => by
          rw [List.length_set] at hk
          rw [vx_set (by have := hr5.len; omega)] at e
          split at e
          · have h2 : g = b := Option.some.inj hb
            rcases hob b e with h | h
            · exact hdis b hb j hjn h
            · omega
          · exact hdis b hb k hk e
        have hdw : Drawn w (w7.setCell ⟨G, j, none⟩ (.slice O7 ((rx l2 j).length + 1) c7)) C v n := ((hd5.trans hd8').grown hc hg7 fun r hr => by have := hrB j hjn r hr; omega).setCell hc (by show w.heap.size ≤ G; omega) _
        have hCC : w7.heap.size ≤ (w7.setCell ⟨G, j, none⟩ (.slice O7 ((rx l2 j).length + 1) c7)).heap.size := by simp
        have hRCC : R + 1 ≤ w7.heap.size := by omega
        obtain ⟨CC, hCe⟩ : ∃ CC, CC = w7.heap.size := ⟨_, rfl⟩
        rw [← hCe] at hof hrf hCC hRCC
        clear hCe
        have hrw : (rx l2 j ++ [x]).length ≤ 17 := by simp; omega
        generalize (w7.setCell ⟨G, j, none⟩ (.slice O7 ((rx l2 j).length + 1) c7)) = wF at *
        have hXc0 := hXf.c0
        have hXc1 := hXf.c1
        have p8 := hRf.c0
        have p9 := hRf.c1
        have p2 := hRf.frozen 0
        have p3 := hRf.frozen 1
        have hRl := hRf.lt
        go_wp2
        have hR6 := (hRf.set_ 0 (.slice (some ⟨g, 0, none⟩) l1.length cap)).set_ 1 (.slice (some ⟨G, 0, none⟩) l2.length ncap)
        have hd6 : Drawn w ((wF.setCell ⟨R, 0, none⟩ (.slice (some ⟨g, 0, none⟩) l1.length cap)).setCell ⟨R, 1, none⟩ (.slice (some ⟨G, 0, none⟩) l2.length ncap)) C v n := (hdw.setCell hc (p := ⟨R, 0, none⟩) (by show w.heap.size ≤ R; omega) _).setCell hc (p := ⟨R, 1, none⟩) (by show w.heap.size ≤ R; omega) _
        have hcb : ∀ b, R + 1 ≤ b → ((wF.setCell ⟨R, 0, none⟩ (.slice (some ⟨g, 0, none⟩) l1.length cap)).setCell ⟨R, 1, none⟩ (.slice (some ⟨G, 0, none⟩) l2.length ncap)).heap[b]? = wF.heap[b]? := fun b hb => by
          rw [Below.heap_setCell _ _ _ _ (by simp; omega), Below.heap_setCell _ _ _ _ (by simp; omega)]
        have hsz : ((wF.setCell ⟨R, 0, none⟩ (.slice (some ⟨g, 0, none⟩) l1.length cap)).setCell ⟨R, 1, none⟩ (.slice (some ⟨G, 0, none⟩) l2.length ncap)).heap.size = wF.heap.size := by simp
        have hoa : OA _ (R + 1) CC (.agg #[.slice (some ⟨g, 0, none⟩) l1.length cap, .slice (some ⟨G, 0, none⟩) l2.length ncap]) ⟨l1, (l2.set j (rx l2 j ++ [x]))⟩ := OA.heapFrom ⟨_, _, _, rfl, hof, hrf, hdf⟩ hcb
        generalize (wF.setCell ⟨R, 0, none⟩ (.slice (some ⟨g, 0, none⟩) l1.length cap)).setCell ⟨R, 1, none⟩ (.slice (some ⟨G, 0, none⟩) l2.length ncap) = wZ at *
        have p0 := hR6.c0
        have p1 := hR6.c1
        refine bodyPost_ret (v := .agg #[.slice (some ⟨g, 0, none⟩) l1.length cap, .slice (some ⟨G, 0, none⟩) l2.length ncap]) (by simp [results, Try.results112, go_sem, p0, p1]) rfl ?_
        have hbig : BigA ⟨l1, (l2.set j (rx l2 j ++ [x]))⟩ := ⟨by show l1.length ≤ 257; omega, by show (l2.set j _).length ≤ 257; rw [List.length_set]; omega, rx_set_le (fun k hk => Nat.le_trans (Hdg.out k hk) (by omega)) hrw hjn⟩
        first | exact ⟨_, rfl, ⟨l1, (l2.set j (rx l2 j ++ [x]))⟩, hoa.mono (by omega) (by omega), hbig, hd6⟩ | exact ⟨_, ⟨l1, (l2.set j (rx l2 j ++ [x]))⟩, rfl, hoa.mono (by omega) (by omega), hbig, hd6⟩
    · have hbe := (Below.refl w5.heap.size w5).alloc (Nat.le_refl _) (.cells #[] 2)
      have hN0 : OwnInts (w5.alloc (.cells #[] 2)) w5.heap.size (.slice (some ⟨w5.heap.size, 0, none⟩) 0 0) [] := (new_ints w5).1
      have hX9 := hX5.below hbe hX5.lt
      have hR9 := hR5.below hbe hR5.lt
      have ho9 := (ho5.kept (Only.of_below (B := w5.heap.size) (C := w5.heap.size) hbe) (.inl (Nat.le_of_lt hX5l))).mono (Nat.le_refl _) (show X ≤ (w5.alloc (.cells #[] 2)).heap.size from Nat.le_of_lt hX9.lt)
      have hr9 := (hr5.kept (Only.of_below (B := w5.heap.size) (C := w5.heap.size) hbe) (.inl (Nat.le_of_lt hX5l))).mono (Nat.le_refl _) (show X ≤ (w5.alloc (.cells #[] 2)).heap.size from Nat.le_of_lt hX9.lt)
      have hrl : ∀ j', j' < l2.length → ∀ b, (vx vs j').ownBlock = some b → b < X := fun j' hj' b hb => (hr5.row j' hj').2 b hb
      have hd9 := hd5.below hbe
      have q0 := hX5.c1
      have q00 := hX9.c1
      have q1 : (w5.alloc (.cells #[] 2)).frozen? ⟨G, j, none⟩ = false := hr9.own.frozenAt j
      obtain ⟨adx, ex, q2⟩ := (SlF.of_own hr9.own).at_ hjn
      cases ex
      rw [add_head] at q2
      have hGb := hr9.own.lt G rfl
      have hGX : G < X := hr5.lt G rfl
      have hgX : g < X := ho5.2 g rfl
      have hNx : OI (w5.alloc (.cells #[] 2)) (R + 1) (w5.alloc (.cells #[] 2)).heap.size (.slice (some ⟨w5.heap.size, 0, none⟩) 0 0) [] := (OI.of hN0).mono (by omega) (Nat.le_refl _)
      have hrp := RowsV.put hr9 rfl hjn hNx (fun j' hj' b hb e => by have h1 := hrl j' hj' b hb; have h2 := (hN0.lt b e).1; omega)
      have hXf : Arr ((w5.alloc (.cells #[] 2)).setCell ⟨G, j, none⟩ (.slice (some ⟨w5.heap.size, 0, none⟩) 0 0)) X _ _ := hX9.far (by simp; omega) _
      have hRf : Arr ((w5.alloc (.cells #[] 2)).setCell ⟨G, j, none⟩ (.slice (some ⟨w5.heap.size, 0, none⟩) 0 0)) R _ _ := hR9.far (by simp; omega) _
      have hof := ho9.heap (w' := (w5.alloc (.cells #[] 2)).setCell ⟨G, j, none⟩ (.slice (some ⟨w5.heap.size, 0, none⟩) 0 0)) fun b hb => Below.heap_setCell _ _ _ _ (fun e => owns_ne hr9.own ho9.1 row_type_ne rfl (by have e2 : b = G := e; rw [e2] at hb; exact hb))
      have hdf : ∀ b, (Value.slice (some ⟨g, 0, none⟩) l1.length cap).ownBlock = some b → ∀ k, k < (l2.set j []).length → (vx (vs.set j (.slice (some ⟨w5.heap.size, 0, none⟩) 0 0)) k).ownBlock ≠ some b := fun b hb k hk e => by
        rw [List.length_set] at hk
        rw [vx_set (by have := hr9.len; omega)] at e
        split at e
        · have h1 := (hN0.lt b e).1
          have h2 : g = b := Option.some.inj hb
          omega
        · exact hdis b hb k hk e
      have hrf : RowsV _ (R + 1) _ (.slice (some ⟨G, 0, none⟩) l2.length ncap) (vs.set j (.slice (some ⟨w5.heap.size, 0, none⟩) 0 0)) (l2.set j []) := hrp
      have hdw : Drawn w ((w5.alloc (.cells #[] 2)).setCell ⟨G, j, none⟩ (.slice (some ⟨w5.heap.size, 0, none⟩) 0 0)) C v n := hd9.setCell hc (by show w.heap.size ≤ G; omega) _
      have hCC : (w5.alloc (.cells #[] 2)).heap.size ≤ ((w5.alloc (.cells #[] 2)).setCell ⟨G, j, none⟩ (.slice (some ⟨w5.heap.size, 0, none⟩) 0 0)).heap.size := by simp
      have hRCC : R + 1 ≤ (w5.alloc (.cells #[] 2)).heap.size := by omega
      obtain ⟨CC, hCe⟩ : ∃ CC, CC = (w5.alloc (.cells #[] 2)).heap.size := ⟨_, rfl⟩
      rw [← hCe] at hof hrf hCC hRCC
      have hXc0 := hXf.c0
      have hXc1 := hXf.c1
      have p8 := hRf.c0
      have p9 := hRf.c1
      have p2 := hRf.frozen 0
      have p3 := hRf.frozen 1
      have hRl := hRf.lt
      go_wp2
      have hR6 := (hRf.set_ 0 (.slice (some ⟨g, 0, none⟩) l1.length cap)).set_ 1 (.slice (some ⟨G, 0, none⟩) l2.length ncap)
      have hd6 : Drawn w ((((w5.alloc (.cells #[] 2)).setCell ⟨G, j, none⟩ (.slice (some ⟨w5.heap.size, 0, none⟩) 0 0)).setCell ⟨R, 0, none⟩ (.slice (some ⟨g, 0, none⟩) l1.length cap)).setCell ⟨R, 1, none⟩ (.slice (some ⟨G, 0, none⟩) l2.length ncap)) C v n := (hdw.setCell hc (p := ⟨R, 0, none⟩) (by show w.heap.size ≤ R; omega) _).setCell hc (p := ⟨R, 1, none⟩) (by show w.heap.size ≤ R; omega) _
      have hcb : ∀ b, R + 1 ≤ b → ((((w5.alloc (.cells #[] 2)).setCell ⟨G, j, none⟩ (.slice (some ⟨w5.heap.size, 0, none⟩) 0 0)).setCell ⟨R, 0, none⟩ (.slice (some ⟨g, 0, none⟩) l1.length cap)).setCell ⟨R, 1, none⟩ (.slice (some ⟨G, 0, none⟩) l2.length ncap)).heap[b]? = ((w5.alloc (.cells #[] 2)).setCell ⟨G, j, none⟩ (.slice (some ⟨w5.heap.size, 0, none⟩) 0 0)).heap[b]? := fun b hb => by
        rw [Below.heap_setCell _ _ _ _ (by simp; omega), Below.heap_setCell _ _ _ _ (by simp; omega)]
      have hsz : ((((w5.alloc (.cells #[] 2)).setCell ⟨G, j, none⟩ (.slice (some ⟨w5.heap.size, 0, none⟩) 0 0)).setCell ⟨R, 0, none⟩ (.slice (some ⟨g, 0, none⟩) l1.length cap)).setCell ⟨R, 1, none⟩ (.slice (some ⟨G, 0, none⟩) l2.length ncap)).heap.size = ((w5.alloc (.cells #[] 2)).setCell ⟨G, j, none⟩ (.slice (some ⟨w5.heap.size, 0, none⟩) 0 0)).heap.size := by simp
      have hoa : OA _ (R + 1) CC (.agg #[.slice (some ⟨g, 0, none⟩) l1.length cap, .slice (some ⟨G, 0, none⟩) l2.length ncap]) ⟨l1, (l2.set j [])⟩ := OA.heapFrom ⟨_, _, _, rfl, hof, hrf, hdf⟩ hcb
      generalize (((w5.alloc (.cells #[] 2)).setCell ⟨G, j, none⟩ (.slice (some ⟨w5.heap.size, 0, none⟩) 0 0)).setCell ⟨R, 0, none⟩ (.slice (some ⟨g, 0, none⟩) l1.length cap)).setCell ⟨R, 1, none⟩ (.slice (some ⟨G, 0, none⟩) l2.length ncap) = wZ at *
      have p0 := hR6.c0
      have p1 := hR6.c1
      refine bodyPost_ret (v := .agg #[.slice (some ⟨g, 0, none⟩) l1.length cap, .slice (some ⟨G, 0, none⟩) l2.length ncap]) (by simp [results, Try.results112, go_sem, p0, p1]) rfl ?_
      have hbig : BigA ⟨l1, (l2.set j [])⟩ := ⟨by show l1.length ≤ 257; omega, by show (l2.set j []).length ≤ 257; rw [List.length_set]; omega, rx_set_le (fun k hk => Nat.le_trans (Hdg.out k hk) (by omega)) (by simp) hjn⟩
      first | exact ⟨_, rfl, ⟨l1, (l2.set j [])⟩, hoa.mono (by omega) (by omega), hbig, hd6⟩ | exact ⟨_, ⟨l1, (l2.set j [])⟩, rfl, hoa.mono (by omega) (by omega), hbig, hd6⟩
    · have q0 := hX5.c0
      have hgR : R + 1 ≤ g ∧ g < X := ⟨(ho5.1.lt g rfl).1, ho5.2 g rfl⟩
      have hwX := hX5.lt
      go_wp2_with (at_builtin; (refine append_int w5 rfl (.tmp 50) (.tmp 51) rfl (R + 1) (.slice (some ⟨g, 0, none⟩) l1.length cap) l1 rfl ho5.1 0 rfl (by omega) (by omega) ?_; intro v7 w7 ho7 hb7 hg7 hd7; obtain ⟨O7, c7, e7, _⟩ := ho7.ints.form; rw [List.length_append, List.length_singleton] at e7; subst e7; have hX7 : Arr w7 X 30 _ := hX5.kept' hg7 (fun e => by have e2 : X = g := Option.some.inj e; omega); have q5 := hX7.c0; have q6 := hX7.frozen 0; have hXf := hX7.set_ 0 (.slice O7 (l1.length + 1) c7); have hXc0 := hXf.c0; have hXc1 := hXf.c1; have hRf : Arr (w7.setCell ⟨X, 0, none⟩ (.slice O7 (l1.length + 1) c7)) R 30 _ := Arr.far (hR5.kept' hg7 (fun e => by have e2 : R = g := Option.some.inj e; omega)) (by simp; omega) _; have p8 := hRf.c0; have p9 := hRf.c1; have p2 := hRf.frozen 0; have p3 := hRf.frozen 1))
      have h7s := hg7.size
      have hob : ∀ b, (Value.slice O7 (l1.length + 1) c7).ownBlock = some b → b = g ∨ b = w5.heap.size + 1 := fun b hb => by
        rcases hd7 with e | e
        · rw [e] at hb; exact .inl (Option.some.inj hb).symm
        · rw [e] at hb; exact .inr (Option.some.inj hb).symm
      have hr7 : RowsV w7 (R + 1) w7.heap.size (.slice (some ⟨G, 0, none⟩) l2.length ncap) vs l2 := (hr5.heap (fun b hb => hg7.block b (hr5.own.lt b hb).2 fun e => owns_ne ho5.1 hr5.own (fun e => row_type_ne e.symm) e.symm hb)
        (fun j hj b hb => hg7.block b ((hr5.row j hj).1.lt b hb).2 fun e => hdis b e.symm j hj hb)).mono (Nat.le_refl _) (by omega)
      have hrf := hr7.heap (w' := (w7.setCell ⟨X, 0, none⟩ (.slice O7 (l1.length + 1) c7))) (fun b hb => Below.heap_setCell _ _ _ _ (by have := hr5.lt b hb; simp; omega)) (fun j hj b hb => Below.heap_setCell _ _ _ _ (by have := (hr5.row j hj).2 b hb; simp; omega))
      have hof : OI (w7.setCell ⟨X, 0, none⟩ (.slice O7 (l1.length + 1) c7)) (R + 1) w7.heap.size (.slice O7 (l1.length + 1) c7) (l1 ++ [0]) := OI.heap (w := w7) ⟨ho7, fun b hb => (ho7.lt b hb).2⟩ (fun b hb => Below.heap_setCell _ _ _ _ (by have := hob b hb; simp; omega))
      have hdf : ∀ b, (Value.slice O7 (l1.length + 1) c7).ownBlock = some b → ∀ k, k < l2.length → (vx vs k).ownBlock ≠ some b := fun b hb k hk e => by
        rcases hob b hb with rfl | rfl
        · exact hdis b rfl k hk e
        · have := (hr5.row k hk).2 _ e; omega
      have hdw : Drawn w (w7.setCell ⟨X, 0, none⟩ (.slice O7 (l1.length + 1) c7)) C v n := (hd5.grown hc hg7 fun r hr => by have e2 : g = r := Option.some.inj hr; omega).setCell hc (by show w.heap.size ≤ X; omega) _
      have hCC : w7.heap.size ≤ (w7.setCell ⟨X, 0, none⟩ (.slice O7 (l1.length + 1) c7)).heap.size := by simp
      have hRCC : R + 1 ≤ w7.heap.size := by omega
      obtain ⟨CC, hCe⟩ : ∃ CC, CC = w7.heap.size := ⟨_, rfl⟩
      rw [← hCe] at hof hrf hCC hRCC
      clear hCe
      have hR6 := (hRf.set_ 0 (.slice O7 (l1.length + 1) c7)).set_ 1 (.slice (some ⟨G, 0, none⟩) l2.length ncap)
      have hd6 : Drawn w (((w7.setCell ⟨X, 0, none⟩ (.slice O7 (l1.length + 1) c7)).setCell ⟨R, 0, none⟩ (.slice O7 (l1.length + 1) c7)).setCell ⟨R, 1, none⟩ (.slice (some ⟨G, 0, none⟩) l2.length ncap)) C v n := (hdw.setCell hc (p := ⟨R, 0, none⟩) (by show w.heap.size ≤ R; omega) _).setCell hc (p := ⟨R, 1, none⟩) (by show w.heap.size ≤ R; omega) _
      have hcb : ∀ b, R + 1 ≤ b → (((w7.setCell ⟨X, 0, none⟩ (.slice O7 (l1.length + 1) c7)).setCell ⟨R, 0, none⟩ (.slice O7 (l1.length + 1) c7)).setCell ⟨R, 1, none⟩ (.slice (some ⟨G, 0, none⟩) l2.length ncap)).heap[b]? = (w7.setCell ⟨X, 0, none⟩ (.slice O7 (l1.length + 1) c7)).heap[b]? := fun b hb => by
        rw [Below.heap_setCell _ _ _ _ (by simp; omega), Below.heap_setCell _ _ _ _ (by simp; omega)]
      have hsz : (((w7.setCell ⟨X, 0, none⟩ (.slice O7 (l1.length + 1) c7)).setCell ⟨R, 0, none⟩ (.slice O7 (l1.length + 1) c7)).setCell ⟨R, 1, none⟩ (.slice (some ⟨G, 0, none⟩) l2.length ncap)).heap.size = (w7.setCell ⟨X, 0, none⟩ (.slice O7 (l1.length + 1) c7)).heap.size := by simp
      have hoa : OA _ (R + 1) CC (.agg #[.slice O7 (l1.length + 1) c7, .slice (some ⟨G, 0, none⟩) l2.length ncap]) ⟨(l1 ++ [0]), l2⟩ := OA.heapFrom ⟨_, _, _, rfl, hof, hrf, hdf⟩ hcb
      generalize ((w7.setCell ⟨X, 0, none⟩ (.slice O7 (l1.length + 1) c7)).setCell ⟨R, 0, none⟩ (.slice O7 (l1.length + 1) c7)).setCell ⟨R, 1, none⟩ (.slice (some ⟨G, 0, none⟩) l2.length ncap) = wZ at *
      have p0 := hR6.c0
      have p1 := hR6.c1
      refine bodyPost_ret (v := .agg #[.slice O7 (l1.length + 1) c7, .slice (some ⟨G, 0, none⟩) l2.length ncap]) (by simp [results, Try.results112, go_sem, p0, p1]) rfl ?_
      have hbig : BigA ⟨(l1 ++ [0]), l2⟩ := ⟨by show (l1 ++ [0]).length ≤ 257; simp; omega, by show l2.length ≤ 257; omega, fun k hk => Nat.le_trans (Hdg.out k hk) (by omega)⟩
      first | exact ⟨_, rfl, ⟨(l1 ++ [0]), l2⟩, hoa.mono (by omega) (by omega), hbig, hd6⟩ | exact ⟨_, ⟨(l1 ++ [0]), l2⟩, rfl, hoa.mono (by omega) (by omega), hbig, hd6⟩
    · have hX6 := (hX5.set_ 0 (.slice none 0 0)).set_ 1 (.slice none 0 0)
      have q0 := hX5.c0
      have q1 := hX5.c1
      have q2 := hX5.frozen 0
      have q3 := hX5.frozen 1
      have hdX : Drawn w ((w5.setCell ⟨X, 0, none⟩ (.slice none 0 0)).setCell ⟨X, 1, none⟩ (.slice none 0 0)) C v n := (hd5.setCell hc (p := ⟨X, 0, none⟩) (by show w.heap.size ≤ X; omega) _).setCell hc (p := ⟨X, 1, none⟩) (by show w.heap.size ≤ X; omega) _
      have hRX6 : Arr ((w5.setCell ⟨X, 0, none⟩ (.slice none 0 0)).setCell ⟨X, 1, none⟩ (.slice none 0 0)) R 30 [.slice none 0 0, .slice none 0 0] := (hR5.far (by simp; omega) _).far (by simp; omega) _
      have hgw : Grow ((w5.setCell ⟨X, 0, none⟩ (.slice none 0 0)).setCell ⟨X, 1, none⟩ (.slice none 0 0)) X (.slice none 0 0) (.slice none 0 0) [] [] [] := ⟨hX6, OwnInts.nil _ _, nil_rows _ _ _, fun b hb => by simp [Value.ownBlock] at hb⟩
      have hCX : C < X := by omega
      go_wp2_with fail
      clear q0 q1 q2 q3
      generalize (w5.setCell ⟨X, 0, none⟩ (.slice none 0 0)).setCell ⟨X, 1, none⟩ (.slice none 0 0) = w6 at *
      clear hX5 hR5 hX6 ho5 hr5 hdis hd5 hX5l
      go_loopw [5] (fun i wx => ∃ (k : Nat) (ov nv : Value) (vs : List Value) (l1 : List Int) (l2 : List (List Int)), k ≤ 257 ∧ i = .int .i64 k ∧ Grow wx X ov nv vs l1 l2 ∧ Hid (l1.length = k) ∧ Hid (l2.length = k) ∧ Hid (∀ j, j < l2.length → (rx l2 j).length ≤ 3) ∧ Drawn w wx C v n ∧ Arr wx R 30 [.slice none 0 0, .slice none 0 0]) (fun i _ => 257 - (intOf i).toNat)
      case atStart => exact ⟨0, _, _, [], [], [], by omega, rfl, hgw, Lib.hid rfl, Lib.hid rfl, Lib.hid (fun j hj => by cases hj), hdX, hRX6⟩
      case round =>
        clear hgw hdX hRX6 Hdg Hs3
        obtain ⟨k, ov, nv, vs, l1, l2, hk, rfl, hG, Hl1, Hl2, Hr, hd, hRw⟩ := hrel
        obtain ⟨wo, rfl⟩ : ∃ wo : World, wo = wr := ⟨_, rfl⟩
        go_wp2_with fail
        refine (l1Below_any C v n 2 _ hd.1).mono ?_
        rintro e wp ⟨y, rfl, hy0, _, hy1, hdp⟩
        have hy2 := hy1 (by omega)
        replace hG := hG.chg hCX hdp.2
        replace hd := hd.trans hdp
        replace hRw : Arr wp R 30 [.slice none 0 0, .slice none 0 0] := (hdp.2.block R hRw.lt (by omega)).trans hRw
        clear hdp hy1
        have hRl := hRw.lt
        have hwX := hG.box.lt
        by_cases hlt : (k : Int) < 256 + y
        · have q0 := hG.box.c0
          have hl1 := Hl1
          have hl2 := Hl2
          go_wp2_with (at_builtin; first | (refine append_int wp rfl (.tmp 65) (.tmp 68) rfl (X + 1) ov l1 rfl hG.own ((k : Int) % 2) rfl (by rw [hl1.out]; omega) (by omega) ?_; intro v7 w7 ho7 hb7 hg7 hd7; obtain ⟨O7, c7, e7, _⟩ := ho7.ints.form; rw [List.length_append, List.length_singleton, hl1.out] at e7; subst e7; have hX7 : Arr w7 X 30 _ := hG.box.kept' hg7 (fun e => by have := (hG.own.lt _ e.symm).1; omega); have q5 := hX7.c0; have q6 := hX7.frozen 0; have hG8 := hG.own1 ho7 hg7 hd7; have hG9 := hG8.below ((Below.refl _ _).alloc (Nat.le_refl _) (.cells #[.int .i64 ((k : Int) / 2)] 2)); have q7 := hG8.box.c1; have q8 := hG9.box.c1; have q9 := (hG9.box.alloc (.cells #[.slice (some ⟨w7.heap.size, 0, none⟩) 1 1] 22)).c1; have hH9 : ((w7.setCell ⟨X, 0, none⟩ (.slice O7 (k + 1) c7)).alloc (.cells #[.int .i64 ((k : Int) / 2)] 2)).heap.size = w7.heap.size + 1 := (by simp); have h7l : X < w7.heap.size := hX7.lt) | (refine append_oneH elem_rows ((w7.setCell ⟨X, 0, none⟩ (.slice O7 (k + 1) c7)).alloc (.cells #[.int .i64 ((k : Int) / 2)] 2)) rfl (.tmp 72) (.tmp 76) rfl (X + 1) nv _ vs rfl hG9.rows.own (.slice (some ⟨w7.heap.size, 0, none⟩) 1 1) rfl (w7.heap.size + 1) hH9 rfl (by rw [hl2.out]; omega) (by omega) ?_; intro v9 w9 ho9 hg9 hd9; obtain ⟨A9, c9, e9, _⟩ := SlF.of_own ho9; rw [hl2.out] at e9; subst e9; have hX9 : Arr w9 X 30 [.slice O7 (k + 1) c7, nv] := hG9.box.kept' hg9 (fun e => by have := (hG9.rows.own.lt _ e.symm).1; omega); have p5 := hX9.c1; have p6 := hX9.frozen 1))
          have h7s := hg7.size
          have h9s := hg9.size
          have h8s : (w7.setCell ⟨X, 0, none⟩ (.slice O7 (k + 1) c7)).heap.size = w7.heap.size := by simp
          have hN9 : OwnInts ((w7.setCell ⟨X, 0, none⟩ (.slice O7 (k + 1) c7)).alloc (.cells #[.int .i64 ((k : Int) / 2)] 2)) w7.heap.size (.slice (some ⟨w7.heap.size, 0, none⟩) 1 1) [(k : Int) / 2] := by
            have h := (ione_new (w7.setCell ⟨X, 0, none⟩ (.slice O7 (k + 1) c7)) ((k : Int) / 2)).own (B := w7.heap.size) (by simp) (by simp)
            simpa using h
          have hG10 := hG9.row1 (row := [(k : Int) / 2]) ((OI.of hN9).mono (by omega) (Nat.le_refl _)) (fun b hb => by
            have hbe : w7.heap.size = b := Option.some.inj hb
            exact ⟨fun e => by have := (hG8.own.lt b e).2; omega, fun j' hj' e => by have := (hG8.row_lt hj' e).2; omega⟩) ho9 hg9
          have hd10 := (((((hd.grown hc hg7 fun r hr => by have := (hG.own.lt r hr).1; omega).setCell hc (p := ⟨X, 0, none⟩) (by show w.heap.size ≤ X; omega) (.slice O7 (k + 1) c7)).below ((Below.refl _ _).alloc (Nat.le_refl _) (.cells #[.int .i64 ((k : Int) / 2)] 2))).grown hc hg9 fun r hr => by have := (hG9.rows.own.lt r hr).1; omega).setCell hc (p := ⟨X, 1, none⟩) (by show w.heap.size ≤ X; omega) (.slice A9 (k + 1) c9))
          have hRn : Arr (w9.setCell ⟨X, 1, none⟩ (.slice A9 (k + 1) c9)) R 30 [.slice none 0 0, .slice none 0 0] := ((((hRw.kept' hg7 (fun e => by have := (hG.own.lt _ e.symm).1; omega)).far (by simp; omega) _).alloc (.cells #[.int .i64 ((k : Int) / 2)] 2)).kept' hg9 (fun e => by have := (hG9.rows.own.lt _ e.symm).1; omega)).far (by simp; omega) _
          have hrr := rx_snoc_le Hr.out (row := [(k : Int) / 2]) (by simp)
          exact ⟨⟨k + 1, _, _, _, _, _, by omega, by go_num, hG10, Lib.hid (by rw [List.length_append, List.length_singleton, hl1.out]), Lib.hid (by rw [List.length_append, List.length_singleton, hl2.out]), Lib.hid hrr, hd10, hRn⟩, by simp [intOf]; omega⟩
        · obtain ⟨O, oc, N, nc, e1, e2⟩ := hG.forms
          subst e1
          subst e2
          have hXf := hG.box
          have hRf := hRw
          have hof : OI wp (R + 1) wp.heap.size _ l1 := (OI.of hG.own).mono (by omega) (Nat.le_refl _)
          have hrf : RowsV wp (R + 1) wp.heap.size _ vs l2 := hG.rows.mono (by omega) (Nat.le_refl _)
          have hdf := hG.dis
          have hdw := hd
          obtain ⟨CC, hCe⟩ : ∃ CC, CC = wp.heap.size := ⟨_, rfl⟩
          have hCC : CC ≤ wp.heap.size := by omega
          rw [← hCe] at hof hrf
          clear hCe
          have hXc0 := hXf.c0
          have hXc1 := hXf.c1
          have p8 := hRf.c0
          have p9 := hRf.c1
          have p2 := hRf.frozen 0
          have p3 := hRf.frozen 1
          have hRl := hRf.lt
          go_wp2
          have hR6 := (hRf.set_ 0 (.slice O l1.length oc)).set_ 1 (.slice N l2.length nc)
          have hd6 : Drawn w ((wp.setCell ⟨R, 0, none⟩ (.slice O l1.length oc)).setCell ⟨R, 1, none⟩ (.slice N l2.length nc)) C v n := (hdw.setCell hc (p := ⟨R, 0, none⟩) (by show w.heap.size ≤ R; omega) _).setCell hc (p := ⟨R, 1, none⟩) (by show w.heap.size ≤ R; omega) _
          have hcb : ∀ b, R + 1 ≤ b → ((wp.setCell ⟨R, 0, none⟩ (.slice O l1.length oc)).setCell ⟨R, 1, none⟩ (.slice N l2.length nc)).heap[b]? = wp.heap[b]? := fun b hb => by
            rw [Below.heap_setCell _ _ _ _ (by simp; omega), Below.heap_setCell _ _ _ _ (by simp; omega)]
          have hsz : ((wp.setCell ⟨R, 0, none⟩ (.slice O l1.length oc)).setCell ⟨R, 1, none⟩ (.slice N l2.length nc)).heap.size = wp.heap.size := by simp
          have hoa : OA _ (R + 1) CC (.agg #[.slice O l1.length oc, .slice N l2.length nc]) ⟨l1, l2⟩ := OA.heapFrom ⟨_, _, _, rfl, hof, hrf, hdf⟩ hcb
          generalize (wp.setCell ⟨R, 0, none⟩ (.slice O l1.length oc)).setCell ⟨R, 1, none⟩ (.slice N l2.length nc) = wZ at *
          have p0 := hR6.c0
          have p1 := hR6.c1
          refine bodyPost_ret (v := .agg #[.slice O l1.length oc, .slice N l2.length nc]) (by simp [results, Try.results112, go_sem, p0, p1]) rfl ?_
          have hbig : BigA ⟨l1, l2⟩ := ⟨by show l1.length ≤ 257; rw [Hl1.out]; omega, by show l2.length ≤ 257; rw [Hl2.out]; omega, fun k hk => Nat.le_trans (Hr.out k hk) (by omega)⟩
          first | exact ⟨_, rfl, ⟨l1, l2⟩, hoa.mono (by omega) (by omega), hbig, hd6⟩ | exact ⟨_, ⟨l1, l2⟩, rfl, hoa.mono (by omega) (by omega), hbig, hd6⟩
    · have hbe := (Below.refl w5.heap.size w5).alloc (Nat.le_refl _) (.cells (zeros (.int .i64 0) 17).toArray 2)
      have hN0 : OwnInts (w5.alloc (.cells (zeros (.int .i64 0) 17).toArray 2)) w5.heap.size (.slice (some ⟨w5.heap.size, 0, none⟩) 17 17) (List.replicate 17 0) := by have h := (IArr.new w5 17).own (B := w5.heap.size) (Nat.le_refl _) (by simp); simpa using h
      have hX9 := hX5.below hbe hX5.lt
      have hR9 := hR5.below hbe hR5.lt
      have ho9 := (ho5.kept (Only.of_below (B := w5.heap.size) (C := w5.heap.size) hbe) (.inl (Nat.le_of_lt hX5l))).mono (Nat.le_refl _) (show X ≤ (w5.alloc (.cells (zeros (.int .i64 0) 17).toArray 2)).heap.size from Nat.le_of_lt hX9.lt)
      have hr9 := (hr5.kept (Only.of_below (B := w5.heap.size) (C := w5.heap.size) hbe) (.inl (Nat.le_of_lt hX5l))).mono (Nat.le_refl _) (show X ≤ (w5.alloc (.cells (zeros (.int .i64 0) 17).toArray 2)).heap.size from Nat.le_of_lt hX9.lt)
      have hrl : ∀ j', j' < l2.length → ∀ b, (vx vs j').ownBlock = some b → b < X := fun j' hj' b hb => (hr5.row j' hj').2 b hb
      have hd9 := hd5.below hbe
      have q0 := hX5.c1
      have q00 := hX9.c1
      have q1 : (w5.alloc (.cells (zeros (.int .i64 0) 17).toArray 2)).frozen? ⟨G, j, none⟩ = false := hr9.own.frozenAt j
      obtain ⟨adx, ex, q2⟩ := (SlF.of_own hr9.own).at_ hjn
      cases ex
      rw [add_head] at q2
      have hGb := hr9.own.lt G rfl
      have hGX : G < X := hr5.lt G rfl
      have hgX : g < X := ho5.2 g rfl
      have hmk : ∀ w : World, (Instr.makeSlice 22 (.int .i64 17) (.int .i64 17)).run Try.prog w = .ok (.slice (some ⟨w.heap.size, 0, none⟩) 17 17) (w.alloc (.cells (zeros (.int .i64 0) 17).toArray 2)) := fun w => make_one elem_int64 17 (by omega) w
      have hNdr : w5.drew.heap.size = w5.heap.size := rfl
      go_wp2_with fail
      go_region
      all_goals
        clear q0 q00 q1 q2
        have hNx : OI (w5.alloc (.cells (zeros (.int .i64 0) 17).toArray 2)) (R + 1) (w5.alloc (.cells (zeros (.int .i64 0) 17).toArray 2)).heap.size (.slice (some ⟨w5.heap.size, 0, none⟩) 17 17) (List.replicate 17 0) := (OI.of hN0).mono (by omega) (Nat.le_refl _)
        have hrp := RowsV.put hr9 rfl hjn hNx (fun j' hj' b hb e => by have h1 := hrl j' hj' b hb; have h2 := (hN0.lt b e).1; omega)
        have hXf : Arr ((w5.alloc (.cells (zeros (.int .i64 0) 17).toArray 2)).setCell ⟨G, j, none⟩ (.slice (some ⟨w5.heap.size, 0, none⟩) 17 17)) X _ _ := hX9.far (by simp; omega) _
        have hRf : Arr ((w5.alloc (.cells (zeros (.int .i64 0) 17).toArray 2)).setCell ⟨G, j, none⟩ (.slice (some ⟨w5.heap.size, 0, none⟩) 17 17)) R _ _ := hR9.far (by simp; omega) _
        have hof := ho9.heap (w' := (w5.alloc (.cells (zeros (.int .i64 0) 17).toArray 2)).setCell ⟨G, j, none⟩ (.slice (some ⟨w5.heap.size, 0, none⟩) 17 17)) fun b hb => Below.heap_setCell _ _ _ _ (fun e => owns_ne hr9.own ho9.1 row_type_ne rfl (by have e2 : b = G := e; rw [e2] at hb; exact hb))
        have hdf : ∀ b, (Value.slice (some ⟨g, 0, none⟩) l1.length cap).ownBlock = some b → ∀ k, k < (l2.set j (List.replicate 17 0)).length → (vx (vs.set j (.slice (some ⟨w5.heap.size, 0, none⟩) 17 17)) k).ownBlock ≠ some b := fun b hb k hk e => by
          rw [List.length_set] at hk
          rw [vx_set (by have := hr9.len; omega)] at e
          split at e
          · have h1 := (hN0.lt b e).1
            have h2 : g = b := Option.some.inj hb
            omega
          · exact hdis b hb k hk e
        have hrf : RowsV _ (R + 1) _ (.slice (some ⟨G, 0, none⟩) l2.length ncap) (vs.set j (.slice (some ⟨w5.heap.size, 0, none⟩) 17 17)) (l2.set j (List.replicate 17 0)) := hrp
        have hdw : Drawn w ((w5.alloc (.cells (zeros (.int .i64 0) 17).toArray 2)).setCell ⟨G, j, none⟩ (.slice (some ⟨w5.heap.size, 0, none⟩) 17 17)) C v n := hd9.setCell hc (by show w.heap.size ≤ G; omega) _
        have hCC : (w5.alloc (.cells (zeros (.int .i64 0) 17).toArray 2)).heap.size ≤ ((w5.alloc (.cells (zeros (.int .i64 0) 17).toArray 2)).setCell ⟨G, j, none⟩ (.slice (some ⟨w5.heap.size, 0, none⟩) 17 17)).heap.size := by simp
        have hRCC : R + 1 ≤ (w5.alloc (.cells (zeros (.int .i64 0) 17).toArray 2)).heap.size := by omega
        obtain ⟨CC, hCe⟩ : ∃ CC, CC = (w5.alloc (.cells (zeros (.int .i64 0) 17).toArray 2)).heap.size := ⟨_, rfl⟩
        rw [← hCe] at hof hrf hCC hRCC
        generalize (w5.alloc (.cells (zeros (.int .i64 0) 17).toArray 2)).setCell ⟨G, j, none⟩ (.slice (some ⟨w5.heap.size, 0, none⟩) 17 17) = wF at *
        clear hCe
        have hbd : Below wF.heap.size wF wF.drew := below_drwD (Below.refl _ _)
        replace hXf := hXf.below hbd hXf.lt
        replace hRf := hRf.below hbd hRf.lt
        replace hof := hof.heap (w' := wF.drew) (fun _ _ => rfl)
        replace hrf := RowsV.drew hrf
        replace hdw := hdw.below hbd
        replace hCC : CC ≤ wF.drew.heap.size := hCC
        clear hbd
        generalize wF.drew = wG at *
        have hXc0 := hXf.c0
        have hXc1 := hXf.c1
        have p8 := hRf.c0
        have p9 := hRf.c1
        have p2 := hRf.frozen 0
        have p3 := hRf.frozen 1
        have hRl := hRf.lt
        go_wp2
        have hR6 := (hRf.set_ 0 (.slice (some ⟨g, 0, none⟩) l1.length cap)).set_ 1 (.slice (some ⟨G, 0, none⟩) l2.length ncap)
        have hd6 : Drawn w ((wG.setCell ⟨R, 0, none⟩ (.slice (some ⟨g, 0, none⟩) l1.length cap)).setCell ⟨R, 1, none⟩ (.slice (some ⟨G, 0, none⟩) l2.length ncap)) C v n := (hdw.setCell hc (p := ⟨R, 0, none⟩) (by show w.heap.size ≤ R; omega) _).setCell hc (p := ⟨R, 1, none⟩) (by show w.heap.size ≤ R; omega) _
        have hcb : ∀ b, R + 1 ≤ b → ((wG.setCell ⟨R, 0, none⟩ (.slice (some ⟨g, 0, none⟩) l1.length cap)).setCell ⟨R, 1, none⟩ (.slice (some ⟨G, 0, none⟩) l2.length ncap)).heap[b]? = wG.heap[b]? := fun b hb => by
          rw [Below.heap_setCell _ _ _ _ (by simp; omega), Below.heap_setCell _ _ _ _ (by simp; omega)]
        have hsz : ((wG.setCell ⟨R, 0, none⟩ (.slice (some ⟨g, 0, none⟩) l1.length cap)).setCell ⟨R, 1, none⟩ (.slice (some ⟨G, 0, none⟩) l2.length ncap)).heap.size = wG.heap.size := by simp
        have hoa : OA _ (R + 1) CC (.agg #[.slice (some ⟨g, 0, none⟩) l1.length cap, .slice (some ⟨G, 0, none⟩) l2.length ncap]) ⟨l1, (l2.set j (List.replicate 17 0))⟩ := OA.heapFrom ⟨_, _, _, rfl, hof, hrf, hdf⟩ hcb
        generalize (wG.setCell ⟨R, 0, none⟩ (.slice (some ⟨g, 0, none⟩) l1.length cap)).setCell ⟨R, 1, none⟩ (.slice (some ⟨G, 0, none⟩) l2.length ncap) = wZ at *
        have p0 := hR6.c0
        have p1 := hR6.c1
        refine bodyPost_ret (v := .agg #[.slice (some ⟨g, 0, none⟩) l1.length cap, .slice (some ⟨G, 0, none⟩) l2.length ncap]) (by simp [results, Try.results112, go_sem, p0, p1]) rfl ?_
        have hbig : BigA ⟨l1, (l2.set j (List.replicate 17 0))⟩ := ⟨by show l1.length ≤ 257; omega, by show (l2.set j (List.replicate 17 0)).length ≤ 257; rw [List.length_set]; omega, rx_set_le (fun k hk => Nat.le_trans (Hdg.out k hk) (by omega)) (by simp) hjn⟩
        first | exact ⟨_, rfl, ⟨l1, (l2.set j (List.replicate 17 0))⟩, hoa.mono (by omega) (by omega), hbig, hd6⟩ | exact ⟨_, ⟨l1, (l2.set j (List.replicate 17 0))⟩, rfl, hoa.mono (by omega) (by omega), hbig, hd6⟩
end Go.Proofs.Ytpnophmanpfejaa
