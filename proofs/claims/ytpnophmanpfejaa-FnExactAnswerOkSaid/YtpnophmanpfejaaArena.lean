/- Arenas: read, and made by a call of its own; the walks of the laws' helpers on them. Conditions: the lengths. -/
import Derived.Test.YtpnophmanpfejaaLists
import Derived.Test.YtpnophmanpfejaaTwo
import Derived.Laws.ResultCell
namespace Go.Proofs.Ytpnophmanpfejaa
set_option linter.unusedSimpArgs false
set_option linter.unusedVariables false
open Go.RowKit

structure ArenaD where
  owner : List Int
  next : List (List Int)
  deriving DecidableEq

/-- v is an arena that reads as a. -/
def IsArena (w : World) (v : Value) (a : ArenaD) : Prop := ∃ o n, v = .agg #[o, n] ∧ Ints w o a.owner ∧ Rows w n a.next
theorem IsArena.kept {w w' : World} {v : Value} {a : ArenaD} (h : IsArena w v a) (hk : Kept w w') : IsArena w' v a := by
  obtain ⟨o, n, rfl, h1, h2⟩ := h
  exact ⟨o, n, rfl, h1.kept hk, h2.kept hk⟩
/-- .. of a call's own, from block B on and below C. -/
def OA (w : World) (B C : Nat) (v : Value) (a : ArenaD) : Prop :=
  ∃ o n vs, v = .agg #[o, n] ∧ OI w B C o a.owner ∧ RowsV w B C n vs a.next ∧ ∀ b, o.ownBlock = some b → ∀ k, k < a.next.length → (vx vs k).ownBlock ≠ some b
theorem OA.arena {w : World} {B C : Nat} {v : Value} {a : ArenaD} (h : OA w B C v a) : IsArena w v a := by
  obtain ⟨o, n, vs, rfl, h1, h2, _⟩ := h
  exact ⟨o, n, rfl, h1.ints, h2.rows⟩
theorem OA.kept {w w' : World} {B C B' C' : Nat} {v : Value} {a : ArenaD} (h : OA w B C v a) (ho : Only B' C' w w') (hd : C ≤ B' ∨ C' ≤ B) : OA w' B C v a := by
  obtain ⟨o, n, vs, rfl, h1, h2, h3⟩ := h
  exact ⟨o, n, vs, rfl, h1.kept ho hd, h2.kept ho hd, h3⟩
theorem OA.below {w w' : World} {B C : Nat} {v : Value} {a : ArenaD} (h : OA w B C v a) (hb : Below w.heap.size w w') : OA w' B C v a := h.kept (Only.of_below (B := C) (C := B) hb) (.inl (Nat.le_refl _))
theorem OA.mono {w : World} {B C B' C' : Nat} {v : Value} {a : ArenaD} (h : OA w B C v a) (hB : B' ≤ B) (hC : C ≤ C') : OA w B' C' v a := by
  obtain ⟨o, n, vs, rfl, h1, h2, h3⟩ := h
  exact ⟨o, n, vs, rfl, h1.mono hB hC, h2.mono hB hC, h3⟩

def sizeA (a : ArenaD) : Nat := a.owner.length + sizeR a.next
def bulkA (a : ArenaD) : Nat := a.owner.length + (a.next.length + sizeR a.next)

set_option maxHeartbeats 400000 in
theorem szArena_any (v : Value) (a : ArenaD) (left : Int) (w : World) (hv : IsArena w v a) (h0 : 0 ≤ left) (h1 : left ≤ 1048576) :
    Calls Try.prog 41 #[v, .int .i64 left] w fun e w' => e = .returned (.int .i64 (szLeft (bulkA a) left)) ∧ Below w.heap.size w w' := by
  obtain ⟨o, n, rfl, ho, hn⟩ := hv
  have hb : Below w.heap.size w (w.alloc (.cells #[o, n] 25)) := (Below.refl _ _).alloc (Nat.le_refl _) _
  have hc1 := szInt64S_any o a.owner left _ (ho.kept (Kept.of hb)) h0 h1
  by_cases g1 : (a.owner.length : Int) ≤ left
  · rw [szLeft_pos g1] at hc1
    have hc2 := szInt64SS_any n a.next (left - (a.owner.length : Nat)) _ (hn.kept (Kept.of hb)) (by omega) (by omega)
    rw [show bulkA a = a.owner.length + (a.next.length + sizeR a.next) from rfl, szLeft_add g1]
    have hpos1 : ¬ left - ((a.owner.length : Nat) : Int) < 0 := by omega
    have H1 := Lib.hid hc1
    by_cases g2 : ((a.next.length + sizeR a.next : Nat) : Int) ≤ left - (a.owner.length : Nat)
    · rw [szLeft_pos g2] at hc2 ⊢
      have hpos2 : ¬ left - ((a.owner.length : Nat) : Int) - ((a.next.length + sizeR a.next : Nat) : Int) < 0 := by omega
      have H2 := Lib.hid hc2
      clear hc1 hc2 g1 g2
      generalize left - ((a.owner.length : Nat) : Int) = r1 at *
      generalize r1 - ((a.next.length + sizeR a.next : Nat) : Int) = r at *
      go_enter Try.func41, Try.ntmps41
      go_wp2_with fail
      refine H1.out.mono ?_
      rintro e w' ⟨rfl, hw⟩
      subst w'
      go_wp2_with fail
      refine H2.out.mono ?_
      rintro e w' ⟨rfl, hw⟩
      subst w'
      go_wp2
      go_ret
      exact ⟨rfl, hb⟩
    · rw [szLeft_neg g2] at hc2 ⊢
      have H2 := Lib.hid hc2
      clear hc1 hc2 g1 g2
      generalize left - ((a.owner.length : Nat) : Int) = r1 at *
      go_enter Try.func41, Try.ntmps41
      go_wp2_with fail
      refine H1.out.mono ?_
      rintro e w' ⟨rfl, hw⟩
      subst w'
      go_wp2_with fail
      refine H2.out.mono ?_
      rintro e w' ⟨rfl, hw⟩
      subst w'
      go_wp2
      go_ret
      exact ⟨rfl, hb⟩
  · rw [szLeft_neg g1] at hc1
    rw [show bulkA a = a.owner.length + (a.next.length + sizeR a.next) from rfl, szLeft_none g1]
    have H1 := Lib.hid hc1
    clear hc1 g1
    go_enter Try.func41, Try.ntmps41
    go_wp2_with fail
    refine H1.out.mono ?_
    rintro e w' ⟨rfl, hw⟩
    subst w'
    go_wp2
    go_ret
    exact ⟨rfl, hb⟩

set_option maxHeartbeats 400000 in
theorem toArena_any (v : Value) (a : ArenaD) (w : World) (hv : IsArena w v a) (h1 : bulkA a ≤ 4194304) :
    Calls Try.prog 43 #[v] w fun e w' => ∃ u, e = .returned u ∧ OA w' w.heap.size w'.heap.size u a ∧ Below w.heap.size w w' := by
  obtain ⟨o, n, rfl, ho, hn⟩ := hv
  unfold bulkA at h1
  go_enter Try.func43, Try.ntmps43
  go_wp2_with fail
  have hb : Below w.heap.size w (((w.alloc (.cells #[o, n] 25)).alloc (.cells #[.slice none 0 0, .slice none 0 0] 30)).alloc (.cells #[.slice none 0 0, .slice none 0 0] 30)) :=
    (((Below.refl _ _).alloc (Nat.le_refl _) _).alloc (by simp) _).alloc (by simp; omega) _
  have hA : Arr (((w.alloc (.cells #[o, n] 25)).alloc (.cells #[.slice none 0 0, .slice none 0 0] 30)).alloc (.cells #[.slice none 0 0, .slice none 0 0] 30)) w.heap.size 25 [o, n] :=
    ((Arr.new w _ [o, n]).alloc _).alloc _
  have hO : Arr (((w.alloc (.cells #[o, n] 25)).alloc (.cells #[.slice none 0 0, .slice none 0 0] 30)).alloc (.cells #[.slice none 0 0, .slice none 0 0] 30)) (w.heap.size + 1) 30 [.slice none 0 0, .slice none 0 0] := by
    have := (Arr.new (w.alloc (.cells #[o, n] 25)) 30 [.slice none 0 0, .slice none 0 0]).alloc (.cells #[.slice none 0 0, .slice none 0 0] 30)
    simpa using this
  have hX : Arr (((w.alloc (.cells #[o, n] 25)).alloc (.cells #[.slice none 0 0, .slice none 0 0] 30)).alloc (.cells #[.slice none 0 0, .slice none 0 0] 30)) (w.heap.size + 1 + 1) 30 [.slice none 0 0, .slice none 0 0] := by
    have := Arr.new ((w.alloc (.cells #[o, n] 25)).alloc (.cells #[.slice none 0 0, .slice none 0 0] 30)) 30 [.slice none 0 0, .slice none 0 0]
    simpa using this
  generalize ((w.alloc (.cells #[o, n] 25)).alloc (.cells #[.slice none 0 0, .slice none 0 0] 30)).alloc (.cells #[.slice none 0 0, .slice none 0 0] 30) = W at *
  refine (toInt64S_any o a.owner _ (ho.kept (Kept.of hb)) (by omega)).mono ?_
  rintro e w1 ⟨u1, rfl, ho1, hb1⟩
  obtain ⟨A1, c1, rfl⟩ := ints_of_ret ho1
  replace hA := hA.below hb1 hA.lt
  replace hO := hO.below hb1 hO.lt
  have hXl := hX.lt
  replace hX := hX.below hb1 hX.lt
  have hx0 := hX.c0
  have hxf := hX.frozen 0
  have ha1 := hA.c1
  have hs1 := hb1.size
  have hbw1 : Below w.heap.size w w1 := hb.trans (hb1.mono hb.size)
  go_wp2_with fail
  have hX2 := hX.set_ 0 (.slice A1 a.owner.length c1)
  have hO2 := hO.far (p := ⟨w.heap.size + 1 + 1, 0, none⟩) (by simp) (.slice A1 a.owner.length c1)
  have hb2 := hbw1.setCell (p := ⟨w.heap.size + 1 + 1, 0, none⟩) (by simp; omega) (.slice A1 a.owner.length c1)
  have ho2 : OI (w1.setCell ⟨w.heap.size + 1 + 1, 0, none⟩ (.slice A1 a.owner.length c1)) W.heap.size w1.heap.size (.slice A1 a.owner.length c1) a.owner :=
    (OI.of ho1).heap fun b hbb => Below.heap_setCell _ _ _ _ (by have := (ho1.lt b hbb).1; intro he; subst he; simp at this; omega)
  have hs2 : (w1.setCell ⟨w.heap.size + 1 + 1, 0, none⟩ (.slice A1 a.owner.length c1)).heap.size = w1.heap.size := by simp
  clear hX hO ho1 hx0 hxf ha1 hA
  generalize w1.setCell ⟨w.heap.size + 1 + 1, 0, none⟩ (.slice A1 a.owner.length c1) = W2 at *
  refine (toInt64SS_any n a.next _ (hn.kept (Kept.of hb2)) (by omega) (fun k hk => by have := len_le_sizeR hk; omega)).mono ?_
  rintro e w3 ⟨u2, rfl, ⟨vs, hr3⟩, hb3⟩
  obtain ⟨A2, c2, rfl⟩ := hr3.form
  replace hX2 := hX2.below hb3 hX2.lt
  replace hO2 := hO2.below hb3 hO2.lt
  have ho3 := ho2.below hb3
  have hbw3 := hb2.trans (hb3.mono hb2.size)
  have hs3 := hb3.size
  have hx1 := hX2.c1
  have hx1f := hX2.frozen 1
  have hx0 := hX2.c0
  have ho0 := hO2.c0
  have ho1 := hO2.c1
  have ho0f := hO2.frozen 0
  have ho1f := hO2.frozen 1
  have Hs2 := Lib.hid hs2
  clear hs2
  go_wp2_with fail
  clear hx1 hx1f hx0 ho0 ho1 ho0f ho1f
  have hO5 := ((hO2.far (p := ⟨w.heap.size + 1 + 1, 1, none⟩) (by simp) (.slice A2 a.next.length c2)).set_ 0 (.slice A1 a.owner.length c1)).set_ 1 (.slice A2 a.next.length c2)
  have hbw5 := ((hbw3.setCell (p := ⟨w.heap.size + 1 + 1, 1, none⟩) (by simp; omega) (.slice A2 a.next.length c2)).setCell (p := ⟨w.heap.size + 1, 0, none⟩) (by simp) (.slice A1 a.owner.length c1)).setCell (p := ⟨w.heap.size + 1, 1, none⟩) (by simp) (.slice A2 a.next.length c2)
  have hch : ∀ b, W.heap.size ≤ b → (((w3.setCell ⟨w.heap.size + 1 + 1, 1, none⟩ (.slice A2 a.next.length c2)).setCell ⟨w.heap.size + 1, 0, none⟩ (.slice A1 a.owner.length c1)).setCell ⟨w.heap.size + 1, 1, none⟩ (.slice A2 a.next.length c2)).heap[b]? = w3.heap[b]? := fun b hb => by
    rw [Below.heap_setCell _ _ _ _ (by simp; omega), Below.heap_setCell _ _ _ _ (by simp; omega), Below.heap_setCell _ _ _ _ (by simp; omega)]
  have hsz : (((w3.setCell ⟨w.heap.size + 1 + 1, 1, none⟩ (.slice A2 a.next.length c2)).setCell ⟨w.heap.size + 1, 0, none⟩ (.slice A1 a.owner.length c1)).setCell ⟨w.heap.size + 1, 1, none⟩ (.slice A2 a.next.length c2)).heap.size = w3.heap.size := by simp
  generalize ((w3.setCell ⟨w.heap.size + 1 + 1, 1, none⟩ (.slice A2 a.next.length c2)).setCell ⟨w.heap.size + 1, 0, none⟩ (.slice A1 a.owner.length c1)).setCell ⟨w.heap.size + 1, 1, none⟩ (.slice A2 a.next.length c2) = W5 at *
  have q0 := hO5.c0
  have q1 := hO5.c1
  have hs2 := Hs2.out
  refine bodyPost_ret (v := .agg #[.slice A1 a.owner.length c1, .slice A2 a.next.length c2]) (by simp [results, Try.results43, go_sem, q0, q1]) rfl ⟨_, rfl, ⟨_, _, vs, rfl, ?_, ?_, ?_⟩, hbw5⟩
  · exact (ho3.mono (B' := w.heap.size) (C' := W5.heap.size) (by omega) (by omega)).heap fun b hb => hch b (ho3.1.lt b hb).1
  · refine ((hr3.mono (B' := w.heap.size) (C' := W5.heap.size) (by omega) (by omega)).heap ?_ ?_)
    · exact fun b hb => hch b (by have := (hr3.own.lt b hb).1; omega)
    · exact fun k hk b hb => hch b (by have := ((hr3.row k hk).1.lt b hb).1; omega)
  · intro b hb k hk hb2
    have h1 := ho3.2 b hb
    have h2 := ((hr3.row k hk).1.lt b hb2).1
    omega

set_option maxHeartbeats 400000 in
theorem eqArena_any (v u : Value) (a b : ArenaD) (w : World) (hv : IsArena w v a) (hu : IsArena w u b) :
    Calls Try.prog 46 #[v, u] w fun e w' => e = .returned (.bool (decide (a = b))) ∧ Below w.heap.size w w' := by
  obtain ⟨o, n, rfl, ho, hn⟩ := hv
  obtain ⟨o', n', rfl, ho', hn'⟩ := hu
  have hb : Below w.heap.size w ((w.alloc (.cells #[o, n] 30)).alloc (.cells #[o', n'] 30)) := ((Below.refl _ _).alloc (Nat.le_refl _) _).alloc (by simp) _
  have hc1 := eqInt64S_any o o' a.owner b.owner _ (ho.kept (Kept.of hb)) (ho'.kept (Kept.of hb))
  have hc2 := fun q => eqInt64SS_any n n' a.next b.next (((w.alloc (.cells #[o, n] 30)).alloc (.cells #[o', n'] 30)).drewN q) ((hn.kept (Kept.of hb)).kept (Kept.drewN _ _)) ((hn'.kept (Kept.of hb)).kept (Kept.drewN _ _))
  have H1 := Lib.hid hc1
  have H2 := Lib.hid hc2
  clear hc1 hc2
  have hab : decide (a = b) = (decide (a.owner = b.owner) && decide (a.next = b.next)) := by
    cases a; cases b; simp
  rw [hab]
  clear hab
  by_cases g1 : a.owner = b.owner
  · have hd1 : decide (a.owner = b.owner) = true := by simpa using g1
    clear g1
    by_cases g2 : a.next = b.next
    · have hd2 : decide (a.next = b.next) = true := by simpa using g2
      rw [hd1, hd2]
      clear g2
      go_enter Try.func46, Try.ntmps46
      go_wp2_with fail
      refine H1.out.mono ?_
      rintro e w' ⟨rfl, q, rfl⟩
      go_wp2_with fail
      refine (H2.out q).mono ?_
      rintro e w' ⟨rfl, q2, rfl⟩
      go_wp2
      go_ret
      exact ⟨rfl, by simpa using below_drewN hb _⟩
    · have hd2 : decide (a.next = b.next) = false := by simpa using g2
      rw [hd1, hd2]
      clear g2
      go_enter Try.func46, Try.ntmps46
      go_wp2_with fail
      refine H1.out.mono ?_
      rintro e w' ⟨rfl, q, rfl⟩
      go_wp2_with fail
      refine (H2.out q).mono ?_
      rintro e w' ⟨rfl, q2, rfl⟩
      go_wp2
      go_ret
      exact ⟨rfl, by simpa using below_drewN hb _⟩
  · have hd1 : decide (a.owner = b.owner) = false := by simpa using g1
    rw [hd1]
    clear g1
    go_enter Try.func46, Try.ntmps46
    go_wp2_with fail
    refine H1.out.mono ?_
    rintro e w' ⟨rfl, q, rfl⟩
    go_wp2
    go_ret
    exact ⟨rfl, below_drewN hb _⟩
end Go.Proofs.Ytpnophmanpfejaa
