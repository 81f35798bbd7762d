/- The walks of l4Draw, l4DrawAny and DrawPressed: a small parity game. -/
import Derived.Test.YtogfpalgnjlfcaaDrawAny
import Derived.Test.YtogfpalgnjlfcaaDrawReach
import Derived.Test.YtogfpalgnjlfcaaOnlyWalks
namespace Go.Proofs.Ytogfpalgnjlfcaa
set_option linter.unusedSimpArgs false
set_option linter.unusedVariables false
open Go.RowKit

theorem OA.grownC {w w' : World} {B C : Nat} {v : Value} {a : ArenaD} {row : Option Nat} (h : OA w B C v a) (hg : w.grownBy w' row) (hne : ∀ r, row = some r → r < B ∨ C ≤ r) : OA w' B C v a := by
  obtain ⟨o, nx, vs, e, ho, hr, hd⟩ := h
  refine ⟨o, nx, vs, e, ho.grown hg hne, hr.heap (fun b hb => hg.block b (hr.own.lt b hb).2 fun e => ?_) (fun j hj b hb => hg.block b ((hr.row j hj).1.lt b hb).2 fun e => ?_), hd⟩
  · have h1 := hne b e.symm; have h2 := (hr.own.lt b hb).1; have h3 := hr.lt b hb; omega
  · have h1 := hne b e.symm; have h2 := ((hr.row j hj).1.lt b hb).1; have h3 := (hr.row j hj).2 b hb; omega
theorem OA.farC {w : World} {B C : Nat} {v : Value} {a : ArenaD} {p : Addr} (h : OA w B C v a) (hp : p.block < B ∨ C ≤ p.block) (u : Value) : OA (w.setCell p u) B C v a := by
  obtain ⟨o, nx, vs, e, ho, hr, hd⟩ := h
  refine ⟨o, nx, vs, e, ho.heap fun b hb => Below.heap_setCell _ _ _ _ ?_, hr.heap (fun b hb => Below.heap_setCell _ _ _ _ ?_) (fun j hj b hb => Below.heap_setCell _ _ _ _ ?_), hd⟩
  · have h2 := (ho.1.lt b hb).1; have h3 := ho.2 b hb; omega
  · have h2 := (hr.own.lt b hb).1; have h3 := hr.lt b hb; omega
  · have h2 := ((hr.row j hj).1.lt b hb).1; have h3 := (hr.row j hj).2 b hb; omega
/-- A small game. -/
structure SmallP (g : ParityD) : Prop where
  arena : BigA g.arena
  pos : 1 ≤ g.prio.length
  le : g.prio.length ≤ 9
theorem SmallA.big {a : ArenaD} (h : SmallA a) : BigA a := ⟨by have := h.le; omega, by have := h.le; have := h.len; omega, fun k hk => by have := h.deg k hk; omega⟩
set_option maxRecDepth 100000 in
set_option maxHeartbeats 8000000 in
theorem l4Draw_any (C : Nat) (v : Value) (n : Nat) (w : World) (hc : Cur w C v n) :
    Calls Try.prog 112 #[.pointer (some ⟨C, 0, none⟩)] w fun e w' => ∃ u g, e = .returned u ∧ OP w' w.heap.size w'.heap.size u g ∧ BigA g.arena ∧ 1 ≤ g.prio.length ∧ g.prio.length ≤ 8 ∧ Drawn w w' C v n := by
  have hR0 := Arr.new w 32 [.slice none 0 0, .slice none 0 0, .slice none 0 0]
  have hbn := (Below.refl w.heap.size w).alloc (Nat.le_refl _) (.cells #[.slice none 0 0, .slice none 0 0, .slice none 0 0] 32)
  have hCl := hc.lt
  have hR0l : w.heap.size + 1 ≤ (w.alloc (.cells #[.slice none 0 0, .slice none 0 0, .slice none 0 0] 32)).heap.size := by simp
  obtain ⟨R, hR⟩ : ∃ R, w.heap.size = R := ⟨_, rfl⟩
  go_enter Try.func112, Try.ntmps112
  go_wp2_with fail
  rw [hR] at hR0 hR0l hCl
  have hdw := Drawn.below (.refl hc) hbn
  generalize w.alloc (.cells #[.slice none 0 0, .slice none 0 0, .slice none 0 0] 32) = w0 at *
  refine (l1Draw_any C v n _ hdw.1).mono ?_
  rintro e w1 ⟨ua, a, rfl, hoa, hsm, hd1⟩
  obtain ⟨A, ac, A', ac', rfl⟩ := hoa.form
  have hbig := hsm.big
  have hsm1 := hsm.pos
  have hsm2 := hsm.le
  clear hsm
  have hR1 : Arr w1 R 32 [.slice none 0 0, .slice none 0 0, .slice none 0 0] := (hd1.2.block R hR0.lt (by omega)).trans hR0
  have hX0 := Arr.new w1 32 [.slice A a.owner.length ac, .slice A' a.next.length ac', .slice none 0 0]
  have hbX := (Below.refl w1.heap.size w1).alloc (Nat.le_refl _) (.cells #[.slice A a.owner.length ac, .slice A' a.next.length ac', .slice none 0 0] 32)
  have hR2 := hR1.below hbX hR1.lt
  have ho2 := (hoa.below hbX).mono hR0l (Nat.le_refl _)
  have hd2 := (hdw.trans hd1).below hbX
  have hs1 := hd1.2.size
  obtain ⟨X, hX⟩ : ∃ X, w1.heap.size = X := ⟨_, rfl⟩
  have hRX : R < X := by omega
  clear hoa hR1 hbX hd1 hdw hR0 hbn
  go_wp2_with fail
  rw [hX] at hX0 ho2
  clear hX
  generalize w1.alloc (.cells #[.slice A a.owner.length ac, .slice A' a.next.length ac', .slice none 0 0] 32) = w2 at *
  refine (l1Below_any C v n 4 _ hd2.1).mono ?_
  rintro e w3 ⟨x, rfl, hx0, _, hx1, hdd⟩
  have hx2 := hx1 (by omega)
  obtain ⟨T, hT⟩ : ∃ T : Int, 3 + x = T := ⟨_, rfl⟩
  have hT1 : 3 ≤ T := by omega
  have hT2 : T ≤ 6 := by omega
  have hCX : C < R := by omega
  have hX3 : Arr w3 X 32 [.slice A a.owner.length ac, .slice A' a.next.length ac', .slice none 0 0] := (hdd.2.block X hX0.lt (by omega)).trans hX0
  have hR3 : Arr w3 R 32 [.slice none 0 0, .slice none 0 0, .slice none 0 0] := (hdd.2.block R hR2.lt (by omega)).trans hR2
  have ho3 := ho2.chgC hdd.2 (by omega)
  have hd3 := hd2.trans hdd
  clear hX0 hR2 ho2 hd2 hdd hx1
  go_wp2_with fail
  clear hT hx0 hx2
  go_loopw [5] (fun i wx => ∃ (k : Nat) (pv : Value) (l : List Int), k ≤ a.owner.length ∧ i = .int .i64 k ∧ Arr wx X 32 [.slice A a.owner.length ac, .slice A' a.next.length ac', pv] ∧ Arr wx R 32 [.slice none 0 0, .slice none 0 0, .slice none 0 0] ∧ OA wx (R + 1) X (.agg #[.slice A a.owner.length ac, .slice A' a.next.length ac']) a ∧ OwnInts wx (X + 1) pv l ∧ Hid (l.length = k) ∧ Drawn w wx C v n) (fun i _ => a.owner.length - (intOf i).toNat)
  case atStart => exact ⟨0, _, [], Nat.zero_le _, rfl, hX3, hR3, ho3, OwnInts.nil _ _, Lib.hid rfl, hd3⟩
  case round =>
    clear hX3 hR3 ho3 hd3
    obtain ⟨k, pv, l, hk, rfl, hX, hRw, ho, hown, Hl, hd⟩ := hrel
    obtain ⟨wo, rfl⟩ : ∃ wo : World, wo = wr := ⟨_, rfl⟩
    have hXl := hX.lt
    have hRl := hRw.lt
    have q0 := hX.c0
    have q1 := hX.c2
    by_cases hlt : k < a.owner.length
    · have hlt2 : (k : Int) < a.owner.length := by omega
      have hcd : Cur wo.drew C v n := hd.1.drew
      go_wp2_with fail
      go_region_law (first | (go_simp; go_at_call 94; refine (l1Below_any C v n T _ hcd).mono ?_; rintro e w3 ⟨y, rfl, hy0, _, hy1, hd3⟩; have hd3' : Drawn wo w3 C v n := ⟨hd3.1, ⟨hd3.2.os, hd3.2.tape, hd3.2.output, hd3.2.size, hd3.2.block⟩⟩; have hX3 : Arr w3 X 32 [.slice A a.owner.length ac, .slice A' a.next.length ac', pv] := (hd3'.2.block X hX.lt (by omega)).trans hX; have q2 := hX3.c2; have q3 := (hX3.alloc (.cells #[.int .i64 y] 2)).c2; have hown3 : OwnInts w3 (X + 1) pv l := ((OI.of hown).chg hd3'.2 fun b hb e => by have := (hown.lt b hb).1; omega).1; have hX3l : X + 1 ≤ w3.heap.size := hX3.lt) | (refine step_append_int w3 rfl (.tmp 21) (.tmp 25) rfl (X + 1) pv l rfl hown3 y rfl (by rw [Hl.out]; omega) hX3l ?_; intro v7 w7 ho7 hg7 hd7; obtain ⟨O7, c7, e7, _⟩ := ho7.ints.form; rw [List.length_append, List.length_singleton, Hl.out] at e7; subst e7; have hX7 : Arr w7 X 32 [.slice A a.owner.length ac, .slice A' a.next.length ac', pv] := Arr.kept' (w := w3) hX3 hg7 (fun e => by have := (hown3.lt _ e.symm).1; omega); have q5 := hX7.c2; have q6 := hX7.frozen 2))
      all_goals
        go_wp2
        have ho7b := (ho.chgC hd3'.2 (by omega)).grownC hg7 (fun r hr => by have := (hown3.lt r hr).1; omega)
        have hR7 : Arr w7 R 32 [.slice none 0 0, .slice none 0 0, .slice none 0 0] := Arr.kept' (w := w3) ((hd3'.2.block R hRw.lt (by omega)).trans hRw) hg7 (fun e => by have := (hown3.lt _ e.symm).1; omega)
        exact ⟨⟨k + 1, _, _, by omega, by go_num, hX7.set_ 2 _, hR7.far (by simp; omega) _, ho7b.farC (.inr (Nat.le_refl _)) _, ho7.far (by simp) _, Lib.hid (by rw [List.length_append, List.length_singleton, Hl.out]), ((hd.trans hd3').grown hc hg7 fun r hr => by have := (hown3.lt r hr).1; omega).setCell hc (by show w.heap.size ≤ X; omega) _⟩, by simp [intOf]; omega⟩
    · obtain rfl : k = a.owner.length := by omega
      have hlt2 : ¬ ((a.owner.length : Nat) : Int) < a.owner.length := by omega
      obtain ⟨P, pc, e1, _⟩ := hown.ints.form
      rw [Hl.out] at e1
      subst e1
      have q2 := hX.c1
      have p8 := hRw.c0
      have p9 := hRw.c1
      have p7 := hRw.c2
      have p2 := hRw.frozen 0
      have p3 := hRw.frozen 1
      have p4 := hRw.frozen 2
      go_wp2
      have hR6 := ((hRw.set_ 0 (.slice A a.owner.length ac)).set_ 1 (.slice A' a.next.length ac')).set_ 2 (.slice P a.owner.length pc)
      have hd6 := ((hd.setCell hc (p := ⟨R, 0, none⟩) (by show w.heap.size ≤ R; omega) (.slice A a.owner.length ac)).setCell hc (p := ⟨R, 1, none⟩) (by show w.heap.size ≤ R; omega) (.slice A' a.next.length ac')).setCell hc (p := ⟨R, 2, none⟩) (by show w.heap.size ≤ R; omega) (.slice P a.owner.length pc)
      have hcb : ∀ b, R + 1 ≤ b → (((wo.setCell ⟨R, 0, none⟩ (.slice A a.owner.length ac)).setCell ⟨R, 1, none⟩ (.slice A' a.next.length ac')).setCell ⟨R, 2, none⟩ (.slice P a.owner.length pc)).heap[b]? = wo.heap[b]? := fun b hb => by
        rw [Below.heap_setCell _ _ _ _ (by simp; omega), Below.heap_setCell _ _ _ _ (by simp; omega), Below.heap_setCell _ _ _ _ (by simp; omega)]
      have hsz : (((wo.setCell ⟨R, 0, none⟩ (.slice A a.owner.length ac)).setCell ⟨R, 1, none⟩ (.slice A' a.next.length ac')).setCell ⟨R, 2, none⟩ (.slice P a.owner.length pc)).heap.size = wo.heap.size := by simp
      have hop := (OP.join (g := ⟨a, l⟩) (C := wo.heap.size) ho ((OI.of hown).mono (by omega) (Nat.le_refl _)) (by omega) (by omega)).heapFrom hcb
      generalize ((wo.setCell ⟨R, 0, none⟩ (.slice A a.owner.length ac)).setCell ⟨R, 1, none⟩ (.slice A' a.next.length ac')).setCell ⟨R, 2, none⟩ (.slice P a.owner.length pc) = w6 at *
      have p0 := hR6.c0
      have p1 := hR6.c1
      have p5 := hR6.c2
      refine bodyPost_ret (v := .agg #[.slice A a.owner.length ac, .slice A' a.next.length ac', .slice P a.owner.length pc]) (by simp [results, Try.results112, go_sem, p0, p1, p5]) rfl ?_
      first | exact ⟨_, rfl, ⟨a, l⟩, hop.mono (by omega) (by omega), hbig, by show 1 ≤ l.length; rw [Hl.out]; exact hsm1, by show l.length ≤ 8; rw [Hl.out]; exact hsm2, hd6⟩ | exact ⟨_, ⟨a, l⟩, rfl, hop.mono (by omega) (by omega), hbig, by show 1 ≤ l.length; rw [Hl.out]; exact hsm1, by show l.length ≤ 8; rw [Hl.out]; exact hsm2, hd6⟩
end Go.Proofs.Ytogfpalgnjlfcaa
