/- The walks of the laws' helpers at Answer. Conditions: the lengths. Printed by gen_two.py. -/
import Derived.Test.YtpnophmanpfejaaTwo
namespace Go.Proofs.Ytpnophmanpfejaa
set_option linter.unusedSimpArgs false
set_option linter.unusedVariables false
open Go.RowKit

set_option maxHeartbeats 400000 in
theorem szAnswer_any (v : Value) (a : TwoD) (left : Int) (w : World) (hv : IsTwo w v a) (h0 : 0 ≤ left) (h1 : left ≤ 1048576) :
    Calls Try.prog 34 #[v, .int .i64 left] w fun e w' => e = .returned (.int .i64 (szLeft (sizeT a) left)) ∧ Below w.heap.size w w' := by
  obtain ⟨o, n, rfl, ho, hn⟩ := hv
  have hb : Below w.heap.size w (w.alloc (.cells #[o, n] 47)) := (Below.refl _ _).alloc (Nat.le_refl _) _
  have hc1 := szInt64S_any o a.fst left _ (ho.kept (Kept.of hb)) h0 h1
  by_cases g1 : (a.fst.length : Int) ≤ left
  · rw [szLeft_pos g1] at hc1
    have hc2 := szInt64S_any n a.snd (left - (a.fst.length : Nat)) _ (hn.kept (Kept.of hb)) (by omega) (by omega)
    rw [show sizeT a = a.fst.length + a.snd.length from rfl, szLeft_add g1]
    have hpos1 : ¬ left - ((a.fst.length : Nat) : Int) < 0 := by omega
    have H1 := Lib.hid hc1
    by_cases g2 : ((a.snd.length : Nat) : Int) ≤ left - (a.fst.length : Nat)
    · rw [szLeft_pos g2] at hc2 ⊢
      have hpos2 : ¬ left - ((a.fst.length : Nat) : Int) - ((a.snd.length : Nat) : Int) < 0 := by omega
      have H2 := Lib.hid hc2
      clear hc1 hc2 g1 g2
      generalize left - ((a.fst.length : Nat) : Int) = r1 at *
      generalize r1 - ((a.snd.length : Nat) : Int) = r at *
      go_enter Try.func34, Try.ntmps34
      go_wp2_with fail
      refine H1.out.mono ?_
      rintro e w' ⟨rfl, hw⟩
      subst w'
      go_wp2_with fail
      refine H2.out.mono ?_
      rintro e w' ⟨rfl, hw⟩
      subst w'
      go_wp2
      go_ret
      exact ⟨rfl, hb⟩
    · rw [szLeft_neg g2] at hc2 ⊢
      have H2 := Lib.hid hc2
      clear hc1 hc2 g1 g2
      generalize left - ((a.fst.length : Nat) : Int) = r1 at *
      go_enter Try.func34, Try.ntmps34
      go_wp2_with fail
      refine H1.out.mono ?_
      rintro e w' ⟨rfl, hw⟩
      subst w'
      go_wp2_with fail
      refine H2.out.mono ?_
      rintro e w' ⟨rfl, hw⟩
      subst w'
      go_wp2
      go_ret
      exact ⟨rfl, hb⟩
  · rw [szLeft_neg g1] at hc1
    rw [show sizeT a = a.fst.length + a.snd.length from rfl, szLeft_none g1]
    have H1 := Lib.hid hc1
    clear hc1 g1
    go_enter Try.func34, Try.ntmps34
    go_wp2_with fail
    refine H1.out.mono ?_
    rintro e w' ⟨rfl, hw⟩
    subst w'
    go_wp2
    go_ret
    exact ⟨rfl, hb⟩

set_option maxHeartbeats 400000 in
theorem eqAnswer_B (v u : Value) (a b : TwoD) (w : World) (hv : IsTwo w v a) (hu : IsTwo w u b) :
    Calls Try.prog 38 #[v, u] w fun e w' => e = .returned (.bool (decide (a = b))) ∧ Below w.heap.size w w' := by
  obtain ⟨o, n, rfl, ho, hn⟩ := hv
  obtain ⟨o', n', rfl, ho', hn'⟩ := hu
  have hb : Below w.heap.size w ((w.alloc (.cells #[o, n] 50)).alloc (.cells #[o', n'] 50)) := ((Below.refl _ _).alloc (Nat.le_refl _) _).alloc (by simp) _
  have hc1 := eqInt64S_any o o' a.fst b.fst _ (ho.kept (Kept.of hb)) (ho'.kept (Kept.of hb))
  have hc2 := fun q => eqInt64S_any n n' a.snd b.snd (((w.alloc (.cells #[o, n] 50)).alloc (.cells #[o', n'] 50)).drewN q) ((hn.kept (Kept.of hb)).kept (Kept.drewN _ _)) ((hn'.kept (Kept.of hb)).kept (Kept.drewN _ _))
  have H1 := Lib.hid hc1
  have H2 := Lib.hid hc2
  clear hc1 hc2
  have hab : decide (a = b) = (decide (a.fst = b.fst) && decide (a.snd = b.snd)) := by
    cases a; cases b; simp
  rw [hab]
  clear hab
  cases hd1 : decide (a.fst = b.fst)
  · go_enter Try.func38, Try.ntmps38
    go_wp2_with fail
    refine H1.out.mono ?_
    rintro e w' ⟨rfl, q, rfl⟩
    go_wp2
    go_ret
    exact ⟨rfl, below_drewN hb _⟩
  · cases hd2 : decide (a.snd = b.snd)
    all_goals
      go_enter Try.func38, Try.ntmps38
      go_wp2_with fail
      refine H1.out.mono ?_
      rintro e w' ⟨rfl, q, rfl⟩
      go_wp2_with fail
      refine (H2.out q).mono ?_
      rintro e w' ⟨rfl, q2, rfl⟩
      go_wp2
      go_ret
      exact ⟨rfl, by simpa using below_drewN hb _⟩

set_option maxHeartbeats 800000 in
theorem toAnswer_B (v : Value) (a : TwoD) (w : World) (hv : IsTwo w v a) (h1 : sizeT a ≤ 4194304) :
    Calls Try.prog 36 #[v] w fun e w' => ∃ u, e = .returned u ∧ OT w' w.heap.size w'.heap.size u a ∧ Below w.heap.size w w' := by
  obtain ⟨o, n, rfl, ho, hn⟩ := hv
  unfold sizeT at h1
  go_enter Try.func36, Try.ntmps36
  go_wp2_with fail
  have hb : Below w.heap.size w (((w.alloc (.cells #[o, n] 47)).alloc (.cells #[.slice none 0 0, .slice none 0 0] 50)).alloc (.cells #[.slice none 0 0, .slice none 0 0] 50)) :=
    (((Below.refl _ _).alloc (Nat.le_refl _) _).alloc (by simp) _).alloc (by simp; omega) _
  have hA : Arr (((w.alloc (.cells #[o, n] 47)).alloc (.cells #[.slice none 0 0, .slice none 0 0] 50)).alloc (.cells #[.slice none 0 0, .slice none 0 0] 50)) w.heap.size 47 [o, n] :=
    ((Arr.new w _ [o, n]).alloc _).alloc _
  have hO : Arr (((w.alloc (.cells #[o, n] 47)).alloc (.cells #[.slice none 0 0, .slice none 0 0] 50)).alloc (.cells #[.slice none 0 0, .slice none 0 0] 50)) (w.heap.size + 1) 50 [.slice none 0 0, .slice none 0 0] := by
    have := (Arr.new (w.alloc (.cells #[o, n] 47)) 50 [.slice none 0 0, .slice none 0 0]).alloc (.cells #[.slice none 0 0, .slice none 0 0] 50)
    simpa using this
  have hX : Arr (((w.alloc (.cells #[o, n] 47)).alloc (.cells #[.slice none 0 0, .slice none 0 0] 50)).alloc (.cells #[.slice none 0 0, .slice none 0 0] 50)) (w.heap.size + 1 + 1) 50 [.slice none 0 0, .slice none 0 0] := by
    have := Arr.new ((w.alloc (.cells #[o, n] 47)).alloc (.cells #[.slice none 0 0, .slice none 0 0] 50)) 50 [.slice none 0 0, .slice none 0 0]
    simpa using this
  generalize ((w.alloc (.cells #[o, n] 47)).alloc (.cells #[.slice none 0 0, .slice none 0 0] 50)).alloc (.cells #[.slice none 0 0, .slice none 0 0] 50) = W at *
  refine (toInt64S_any o a.fst _ (ho.kept (Kept.of hb)) (by omega)).mono ?_
  rintro e w1 ⟨u1, rfl, ho1, hb1⟩
  obtain ⟨A1, c1, rfl⟩ := ints_of_ret ho1
  replace hA := hA.below hb1 hA.lt
  replace hO := hO.below hb1 hO.lt
  have hXl := hX.lt
  replace hX := hX.below hb1 hX.lt
  have hx0 := hX.c0
  have hxf := hX.frozen 0
  have ha1 := hA.c1
  have hs1 := hb1.size
  have hbw1 : Below w.heap.size w w1 := hb.trans (hb1.mono hb.size)
  go_wp2_with fail
  have hX2 := hX.set_ 0 (.slice A1 a.fst.length c1)
  have hO2 := hO.far (p := ⟨w.heap.size + 1 + 1, 0, none⟩) (by simp) (.slice A1 a.fst.length c1)
  have hb2 := hbw1.setCell (p := ⟨w.heap.size + 1 + 1, 0, none⟩) (by simp; omega) (.slice A1 a.fst.length c1)
  have ho2 : OI (w1.setCell ⟨w.heap.size + 1 + 1, 0, none⟩ (.slice A1 a.fst.length c1)) W.heap.size w1.heap.size (.slice A1 a.fst.length c1) a.fst :=
    (OI.of ho1).heap' fun b hbb => Below.heap_setCell _ _ _ _ (by have := (ho1.lt b hbb).1; intro he; subst he; simp at this; omega)
  have hs2 : (w1.setCell ⟨w.heap.size + 1 + 1, 0, none⟩ (.slice A1 a.fst.length c1)).heap.size = w1.heap.size := by simp
  clear hX hO ho1 hx0 hxf ha1 hA
  generalize w1.setCell ⟨w.heap.size + 1 + 1, 0, none⟩ (.slice A1 a.fst.length c1) = W2 at *
  refine (toInt64S_any n a.snd _ (hn.kept (Kept.of hb2)) (by omega)).mono ?_
  rintro e w3 ⟨u2, rfl, hr3, hb3⟩
  obtain ⟨A2, c2, rfl⟩ := ints_of_ret hr3
  replace hX2 := hX2.below hb3 hX2.lt
  replace hO2 := hO2.below hb3 hO2.lt
  have ho3 := ho2.below hb3
  have hbw3 := hb2.trans (hb3.mono hb2.size)
  have hs3 := hb3.size
  have hx1 := hX2.c1
  have hx1f := hX2.frozen 1
  have hx0 := hX2.c0
  have ho0 := hO2.c0
  have ho1 := hO2.c1
  have ho0f := hO2.frozen 0
  have ho1f := hO2.frozen 1
  have Hs2 := Lib.hid hs2
  clear hs2
  go_wp2_with fail
  clear hx1 hx1f hx0 ho0 ho1 ho0f ho1f
  have hO5 := ((hO2.far (p := ⟨w.heap.size + 1 + 1, 1, none⟩) (by simp) (.slice A2 a.snd.length c2)).set_ 0 (.slice A1 a.fst.length c1)).set_ 1 (.slice A2 a.snd.length c2)
  have hbw5 := ((hbw3.setCell (p := ⟨w.heap.size + 1 + 1, 1, none⟩) (by simp; omega) (.slice A2 a.snd.length c2)).setCell (p := ⟨w.heap.size + 1, 0, none⟩) (by simp) (.slice A1 a.fst.length c1)).setCell (p := ⟨w.heap.size + 1, 1, none⟩) (by simp) (.slice A2 a.snd.length c2)
  have hch : ∀ b, W.heap.size ≤ b → (((w3.setCell ⟨w.heap.size + 1 + 1, 1, none⟩ (.slice A2 a.snd.length c2)).setCell ⟨w.heap.size + 1, 0, none⟩ (.slice A1 a.fst.length c1)).setCell ⟨w.heap.size + 1, 1, none⟩ (.slice A2 a.snd.length c2)).heap[b]? = w3.heap[b]? := fun b hb => by
    rw [Below.heap_setCell _ _ _ _ (by simp; omega), Below.heap_setCell _ _ _ _ (by simp; omega), Below.heap_setCell _ _ _ _ (by simp; omega)]
  have hsz : (((w3.setCell ⟨w.heap.size + 1 + 1, 1, none⟩ (.slice A2 a.snd.length c2)).setCell ⟨w.heap.size + 1, 0, none⟩ (.slice A1 a.fst.length c1)).setCell ⟨w.heap.size + 1, 1, none⟩ (.slice A2 a.snd.length c2)).heap.size = w3.heap.size := by simp
  generalize ((w3.setCell ⟨w.heap.size + 1 + 1, 1, none⟩ (.slice A2 a.snd.length c2)).setCell ⟨w.heap.size + 1, 0, none⟩ (.slice A1 a.fst.length c1)).setCell ⟨w.heap.size + 1, 1, none⟩ (.slice A2 a.snd.length c2) = W5 at *
  have q0 := hO5.c0
  have q1 := hO5.c1
  have hs2 := Hs2.out
  have hr4 := OI.of hr3
  refine bodyPost_ret (v := .agg #[.slice A1 a.fst.length c1, .slice A2 a.snd.length c2]) (by simp [results, Try.results36, go_sem, q0, q1]) rfl ⟨_, rfl, ⟨_, _, rfl, ?_, ?_, ?_⟩, hbw5⟩
  · exact (ho3.mono' (B' := w.heap.size) (C' := W5.heap.size) (by omega) (by omega)).heap' fun b hb => hch b (ho3.1.lt b hb).1
  · exact (hr4.mono' (B' := w.heap.size) (C' := W5.heap.size) (by omega) (by omega)).heap' fun b hb => hch b (by have := (hr4.1.lt b hb).1; omega)
  · intro b hb hb2
    have h1 := ho3.2 b hb
    have h2 := (hr4.1.lt b hb2).1
    omega

end Go.Proofs.Ytpnophmanpfejaa
