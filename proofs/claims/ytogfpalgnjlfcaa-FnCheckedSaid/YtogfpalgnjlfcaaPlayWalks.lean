/- The walks of PlayOf, the program's and the reference's. No condition. Printed by gen_play.py. -/
import Derived.Test.YtogfpalgnjlfcaaPlayPlain
import Derived.Test.YtogfpalgnjlfcaaQueue
import Derived.Test.YtogfpalgnjlfcaaInsideWalks2
import Derived.Test.YtogfpalgnjlfcaaRankWalks4
namespace Go.Proofs.Ytogfpalgnjlfcaa
set_option linter.unusedSimpArgs false
set_option linter.unusedVariables false
open Go.RowKit

theorem below_drw {B : Nat} {a w : World} (h : Below B a w) : Below B a w.drew := ⟨h.os, h.tape, h.output, h.size, h.block⟩
def RetTwoB (w : World) (a : TwoD) (b : Bool) (e : Ending) (w' : World) : Prop := ∃ u, e = .returned (.tuple #[u, .bool b]) ∧ OT w' w.heap.size w'.heap.size u a ∧ Below w.heap.size w w'
theorem RetTwoB.mk' {w w' : World} {a : TwoD} {b : Bool} {u : Value} (h1 : OT w' w.heap.size w'.heap.size u a) (h2 : Below w.heap.size w w') : RetTwoB w a b (.returned (.tuple #[u, .bool b])) w' := ⟨u, rfl, h1, h2⟩
theorem OT.none' (w : World) (B C : Nat) : OT w B C (.agg #[.slice none 0 0, .slice none 0 0]) ⟨[], []⟩ :=
  ⟨_, _, rfl, ⟨OwnInts.nil _ _, fun b hb => by simp [Value.ownBlock] at hb⟩, ⟨OwnInts.nil _ _, fun b hb => by simp [Value.ownBlock] at hb⟩, fun b hb => by simp [Value.ownBlock] at hb⟩
/-- 'q[k:]'. -/
theorem OwnQ.from_ {w : World} {B n c : Nat} {A : Option Addr} {l : List Int} (h : OwnQ w B (.slice A n c) l) (hn : n = l.length) (k : Nat) (hk : k < n) :
    ∃ A' c', (∀ W, (Instr.slice 27 (.slice A n c) (some (.int .i64 (k : Int))) none none).run Try.prog W = .ok (.slice A' (n - k) c') W) ∧ OwnQ w B (.slice A' (n - k) c') (l.drop k) := by
  rcases h with ⟨he, h⟩ | ⟨g, off, cap, cur, he, hB, hg, hlc, hcm, hcs, hc⟩
  · subst h; simp at hn; omega
  · simp only [Value.slice.injEq] at he
    obtain ⟨rfl, _, rfl⟩ := he
    have hadd : ∀ j, (⟨g, off, none⟩ : Addr).add j = ⟨g, off + j, none⟩ := fun j => by unfold Addr.add; split <;> simp_all
    refine ⟨some ⟨g, off + k, none⟩, c - k, fun W => ?_, .inr ⟨g, off + k, c - k, cur, by simp; omega, hB, hg, by simp; omega, by omega, by omega, fun j hj => ?_⟩⟩
    · rw [run_slice_l W 27 _ n c under_ints .i64 (k : Int) (by omega) (by omega), size_int64]
      have hck : ¬ c = k := by omega
      simp [sliced, Result.andThen, hck, hadd]
    · rw [List.length_drop] at hj
      have := hc (k + j) (by omega)
      rw [show off + k + j = off + (k + j) by omega, this]
      simp [ix]
theorem drop_ints {w : World} {B n c : Nat} {A : Option Addr} {l : List Int} (h : OwnQ w B (.slice A n c) (l.drop n)) : True := trivial
/-- Two rows that have been made one behind the other, as the fields of a struct. -/
theorem OT.two_rows {w7 W w9 : World} {Z g2 : Nat} {s1 s2 : Value} {l1 l2 : List Int} (h1 : OwnInts w7 Z s1 l1) (hW : Below w7.heap.size w7 W) (hg : W.grownBy w9 (some g2)) (h2 : OwnInts w9 Z s2 l2)
    (hn : ∀ b, s1.ownBlock = some b → b ≠ g2) (hd : s2.ownBlock = some g2 ∨ s2.ownBlock = some W.heap.size) : OI w9 Z w9.heap.size s1 l1 ∧ OI w9 Z w9.heap.size s2 l2 ∧ ∀ b, s1.ownBlock = some b → s2.ownBlock ≠ some b := by
  have h1W := h1.below hW (Nat.le_refl _)
  have h19 : OwnInts w9 Z s1 l1 := h1W.heap fun b hb => hg.block b (h1W.lt b hb).2 fun e => hn b hb (by simpa using e)
  refine ⟨OI.of h19, OI.of h2, fun b hb hb2 => ?_⟩
  have h3 := hn b hb
  have h4 := (h1W.lt b hb).2
  rcases hd with e | e
  · rw [e] at hb2; simp only [Option.some.injEq] at hb2; omega
  · rw [e] at hb2; simp only [Option.some.injEq] at hb2; omega

theorem OT.mono {w : World} {B C B' C' : Nat} {v : Value} {a : TwoD} (h : OT w B C v a) (hB : B' ≤ B) (hC : C ≤ C') : OT w B' C' v a := by
  obtain ⟨o, n, rfl, h1, h2, h3⟩ := h
  exact ⟨o, n, rfl, h1.mono hB hC, h2.mono hB hC, h3⟩
theorem OT.heapFrom {w w' : World} {B C : Nat} {v : Value} {a : TwoD} (h : OT w B C v a) (hh : ∀ b, B ≤ b → w'.heap[b]? = w.heap[b]?) : OT w' B C v a := by
  obtain ⟨o, n, rfl, h1, h2, h3⟩ := h
  exact ⟨o, n, rfl, h1.heap fun b hb => hh b (h1.1.lt b hb).1, h2.heap fun b hb => hh b (h2.1.lt b hb).1, h3⟩


set_option maxRecDepth 100000 in
set_option maxHeartbeats 8000000 in
theorem PlayOf_any (v : Value) (a : ArenaD) (ve : Value) (even : List Int) (vo : Value) (odd : List Int) (x : Int) (w : World) (hv : IsArena w v a) (hve : Ints w ve even) (hvo : Ints w vo odd) :
    Calls Try.prog 12 #[v, ve, vo, .int .i64 x] w (RetTwoB w (playG a even odd x) (playOkB a even odd x)) := by
  obtain ⟨o, n, rfl, hbw, hB⟩ := arena_open hv
  have hR : Arr ((w.alloc (.cells #[o, n] 30)).alloc (.cells #[.slice none 0 0, .slice none 0 0] 37)) (w.heap.size + 1) 37 [.slice none 0 0, .slice none 0 0] := by
    simpa using Arr.new (w.alloc (.cells #[o, n] 30)) 37 [.slice none 0 0, .slice none 0 0]
  replace hB := hB.alloc (.cells #[.slice none 0 0, .slice none 0 0] 37)
  replace hbw := hbw.alloc hbw.size (.cells #[.slice none 0 0, .slice none 0 0] 37)
  obtain ⟨ho, hn⟩ := hv.parts
  obtain ⟨A, c, rfl, hlc, hcm⟩ := ho.form
  obtain ⟨E, ec, rfl, hec, hem⟩ := hve.form
  obtain ⟨D, dc, rfl, hdc, hdm⟩ := hvo.form
  cases hE0 : arenaOkB a
  · have hres : playOkB a even odd x = false := by unfold playOkB; rw [hE0]; rfl
    have hfix : playG a even odd x = ⟨[], []⟩ := by unfold playG; rw [hres]; rfl
    rw [hfix, hres]; clear hres hfix
    go_enter Try.func12, Try.ntmps12
    have hBz := hB.lt
    have hBc0 := hB.c0
    have hBc1 := hB.c1
    have hRz := hR.lt
    have hRc0 := hR.c0
    have hRc1 := hR.c1
    go_wp2_with fail
    refine (ArenaOk_any _ a _ (hv.kept (Kept.of hbw))).mono ?_
    rintro e w1 ⟨rfl, hb1⟩
    clear hBc0 hBc1 hRc0 hRc1 hBz hRz
    replace hB := hB.below hb1 hB.lt
    replace hR := hR.below hb1 hR.lt
    replace hbw := Below.up hbw hb1
    have hb1s := hb1.size
    clear hb1
    have hBz := hB.lt
    have hBc0 := hB.c0
    have hBc1 := hB.c1
    have hRz := hR.lt
    have hRc0 := hR.c0
    have hRc1 := hR.c1
    have q0 := hR.c0
    have q1 := hR.c1
    have q2 := hR.frozen 0
    have q3 := hR.frozen 1
    go_wp2
    have hR6 := (hR.set_ 0 (.slice none 0 0)).set_ 1 (.slice none 0 0)
    have hbw6 : Below w.heap.size w ((w1.setCell ⟨w.heap.size + 1, 0, none⟩ (.slice none 0 0)).setCell ⟨w.heap.size + 1, 1, none⟩ (.slice none 0 0)) := (hbw.setCell (by simp) _).setCell (by simp) _
    generalize (w1.setCell ⟨w.heap.size + 1, 0, none⟩ (.slice none 0 0)).setCell ⟨w.heap.size + 1, 1, none⟩ (.slice none 0 0) = w6 at *
    have p0 := hR6.c0
    have p1 := hR6.c1
    refine bodyPost_ret (v := .tuple #[.agg #[.slice none 0 0, .slice none 0 0], .bool false]) (by simp [results, Try.results12, go_sem, p0, p1]) rfl ?_
    exact .mk' (OT.none' _ _ _) hbw6
  · skip
    have hok := arenaOkB_iff.1 hE0
    cases hE1 : fullB a 0 even
    · have hres : playOkB a even odd x = false := by unfold playOkB; rw [hE0, hE1]; rfl
      have hfix : playG a even odd x = ⟨[], []⟩ := by unfold playG; rw [hres]; rfl
      rw [hfix, hres]; clear hres hfix
      go_enter Try.func12, Try.ntmps12
      have hBz := hB.lt
      have hBc0 := hB.c0
      have hBc1 := hB.c1
      have hRz := hR.lt
      have hRc0 := hR.c0
      have hRc1 := hR.c1
      go_wp2_with fail
      refine (ArenaOk_any _ a _ (hv.kept (Kept.of hbw))).mono ?_
      rintro e w1 ⟨rfl, hb1⟩
      clear hBc0 hBc1 hRc0 hRc1 hBz hRz
      replace hB := hB.below hb1 hB.lt
      replace hR := hR.below hb1 hR.lt
      replace hbw := Below.up hbw hb1
      have hb1s := hb1.size
      clear hb1
      have hBz := hB.lt
      have hBc0 := hB.c0
      have hBc1 := hB.c1
      have hRz := hR.lt
      have hRc0 := hR.c0
      have hRc1 := hR.c1
      go_wp2_with fail
      refine (isFull_any _ a 0 _ even _ (hv.kept (Kept.of hbw)) (hve.kept (Kept.of hbw)) hok).mono ?_
      rintro e w2 ⟨rfl, hb2⟩
      clear hBc0 hBc1 hRc0 hRc1 hBz hRz
      replace hB := hB.below hb2 hB.lt
      replace hR := hR.below hb2 hR.lt
      replace hbw := Below.up hbw hb2
      have hb2s := hb2.size
      clear hb2
      have hBz := hB.lt
      have hBc0 := hB.c0
      have hBc1 := hB.c1
      have hRz := hR.lt
      have hRc0 := hR.c0
      have hRc1 := hR.c1
      have q0 := hR.c0
      have q1 := hR.c1
      have q2 := hR.frozen 0
      have q3 := hR.frozen 1
      go_wp2
      have hR6 := (hR.set_ 0 (.slice none 0 0)).set_ 1 (.slice none 0 0)
      have hbw6 : Below w.heap.size w ((w2.setCell ⟨w.heap.size + 1, 0, none⟩ (.slice none 0 0)).setCell ⟨w.heap.size + 1, 1, none⟩ (.slice none 0 0)) := (hbw.setCell (by simp) _).setCell (by simp) _
      generalize (w2.setCell ⟨w.heap.size + 1, 0, none⟩ (.slice none 0 0)).setCell ⟨w.heap.size + 1, 1, none⟩ (.slice none 0 0) = w6 at *
      have p0 := hR6.c0
      have p1 := hR6.c1
      refine bodyPost_ret (v := .tuple #[.agg #[.slice none 0 0, .slice none 0 0], .bool false]) (by simp [results, Try.results12, go_sem, p0, p1]) rfl ?_
      exact .mk' (OT.none' _ _ _) hbw6
    · skip
      cases hE2 : fullB a 1 odd
      · have hres : playOkB a even odd x = false := by unfold playOkB; rw [hE0, hE1, hE2]; rfl
        have hfix : playG a even odd x = ⟨[], []⟩ := by unfold playG; rw [hres]; rfl
        rw [hfix, hres]; clear hres hfix
        go_enter Try.func12, Try.ntmps12
        have hBz := hB.lt
        have hBc0 := hB.c0
        have hBc1 := hB.c1
        have hRz := hR.lt
        have hRc0 := hR.c0
        have hRc1 := hR.c1
        go_wp2_with fail
        refine (ArenaOk_any _ a _ (hv.kept (Kept.of hbw))).mono ?_
        rintro e w1 ⟨rfl, hb1⟩
        clear hBc0 hBc1 hRc0 hRc1 hBz hRz
        replace hB := hB.below hb1 hB.lt
        replace hR := hR.below hb1 hR.lt
        replace hbw := Below.up hbw hb1
        have hb1s := hb1.size
        clear hb1
        have hBz := hB.lt
        have hBc0 := hB.c0
        have hBc1 := hB.c1
        have hRz := hR.lt
        have hRc0 := hR.c0
        have hRc1 := hR.c1
        go_wp2_with fail
        refine (isFull_any _ a 0 _ even _ (hv.kept (Kept.of hbw)) (hve.kept (Kept.of hbw)) hok).mono ?_
        rintro e w2 ⟨rfl, hb2⟩
        clear hBc0 hBc1 hRc0 hRc1 hBz hRz
        replace hB := hB.below hb2 hB.lt
        replace hR := hR.below hb2 hR.lt
        replace hbw := Below.up hbw hb2
        have hb2s := hb2.size
        clear hb2
        have hBz := hB.lt
        have hBc0 := hB.c0
        have hBc1 := hB.c1
        have hRz := hR.lt
        have hRc0 := hR.c0
        have hRc1 := hR.c1
        go_wp2_with fail
        refine (isFull_any _ a 1 _ odd _ (hv.kept (Kept.of hbw)) (hvo.kept (Kept.of hbw)) hok).mono ?_
        rintro e w3 ⟨rfl, hb3⟩
        clear hBc0 hBc1 hRc0 hRc1 hBz hRz
        replace hB := hB.below hb3 hB.lt
        replace hR := hR.below hb3 hR.lt
        replace hbw := Below.up hbw hb3
        have hb3s := hb3.size
        clear hb3
        have hBz := hB.lt
        have hBc0 := hB.c0
        have hBc1 := hB.c1
        have hRz := hR.lt
        have hRc0 := hR.c0
        have hRc1 := hR.c1
        have q0 := hR.c0
        have q1 := hR.c1
        have q2 := hR.frozen 0
        have q3 := hR.frozen 1
        go_wp2
        have hR6 := (hR.set_ 0 (.slice none 0 0)).set_ 1 (.slice none 0 0)
        have hbw6 : Below w.heap.size w ((w3.setCell ⟨w.heap.size + 1, 0, none⟩ (.slice none 0 0)).setCell ⟨w.heap.size + 1, 1, none⟩ (.slice none 0 0)) := (hbw.setCell (by simp) _).setCell (by simp) _
        generalize (w3.setCell ⟨w.heap.size + 1, 0, none⟩ (.slice none 0 0)).setCell ⟨w.heap.size + 1, 1, none⟩ (.slice none 0 0) = w6 at *
        have p0 := hR6.c0
        have p1 := hR6.c1
        refine bodyPost_ret (v := .tuple #[.agg #[.slice none 0 0, .slice none 0 0], .bool false]) (by simp [results, Try.results12, go_sem, p0, p1]) rfl ?_
        exact .mk' (OT.none' _ _ _) hbw6
      · skip
        cases hE3 : thereB a x
        · have hres : playOkB a even odd x = false := by unfold playOkB; rw [hE0, hE1, hE2, hE3]; rfl
          have hfix : playG a even odd x = ⟨[], []⟩ := by unfold playG; rw [hres]; rfl
          rw [hfix, hres]; clear hres hfix
          go_enter Try.func12, Try.ntmps12
          have hBz := hB.lt
          have hBc0 := hB.c0
          have hBc1 := hB.c1
          have hRz := hR.lt
          have hRc0 := hR.c0
          have hRc1 := hR.c1
          go_wp2_with fail
          refine (ArenaOk_any _ a _ (hv.kept (Kept.of hbw))).mono ?_
          rintro e w1 ⟨rfl, hb1⟩
          clear hBc0 hBc1 hRc0 hRc1 hBz hRz
          replace hB := hB.below hb1 hB.lt
          replace hR := hR.below hb1 hR.lt
          replace hbw := Below.up hbw hb1
          have hb1s := hb1.size
          clear hb1
          have hBz := hB.lt
          have hBc0 := hB.c0
          have hBc1 := hB.c1
          have hRz := hR.lt
          have hRc0 := hR.c0
          have hRc1 := hR.c1
          go_wp2_with fail
          refine (isFull_any _ a 0 _ even _ (hv.kept (Kept.of hbw)) (hve.kept (Kept.of hbw)) hok).mono ?_
          rintro e w2 ⟨rfl, hb2⟩
          clear hBc0 hBc1 hRc0 hRc1 hBz hRz
          replace hB := hB.below hb2 hB.lt
          replace hR := hR.below hb2 hR.lt
          replace hbw := Below.up hbw hb2
          have hb2s := hb2.size
          clear hb2
          have hBz := hB.lt
          have hBc0 := hB.c0
          have hBc1 := hB.c1
          have hRz := hR.lt
          have hRc0 := hR.c0
          have hRc1 := hR.c1
          go_wp2_with fail
          refine (isFull_any _ a 1 _ odd _ (hv.kept (Kept.of hbw)) (hvo.kept (Kept.of hbw)) hok).mono ?_
          rintro e w3 ⟨rfl, hb3⟩
          clear hBc0 hBc1 hRc0 hRc1 hBz hRz
          replace hB := hB.below hb3 hB.lt
          replace hR := hR.below hb3 hR.lt
          replace hbw := Below.up hbw hb3
          have hb3s := hb3.size
          clear hb3
          have hBz := hB.lt
          have hBc0 := hB.c0
          have hBc1 := hB.c1
          have hRz := hR.lt
          have hRc0 := hR.c0
          have hRc1 := hR.c1
          go_wp2_with fail
          refine (hasVertex_any _ a x _ (hv.kept (Kept.of hbw))).mono ?_
          rintro e w4 ⟨rfl, hb4⟩
          clear hBc0 hBc1 hRc0 hRc1 hBz hRz
          replace hB := hB.below hb4 hB.lt
          replace hR := hR.below hb4 hR.lt
          replace hbw := Below.up hbw hb4
          have hb4s := hb4.size
          clear hb4
          have hBz := hB.lt
          have hBc0 := hB.c0
          have hBc1 := hB.c1
          have hRz := hR.lt
          have hRc0 := hR.c0
          have hRc1 := hR.c1
          have q0 := hR.c0
          have q1 := hR.c1
          have q2 := hR.frozen 0
          have q3 := hR.frozen 1
          go_wp2
          have hR6 := (hR.set_ 0 (.slice none 0 0)).set_ 1 (.slice none 0 0)
          have hbw6 : Below w.heap.size w ((w4.setCell ⟨w.heap.size + 1, 0, none⟩ (.slice none 0 0)).setCell ⟨w.heap.size + 1, 1, none⟩ (.slice none 0 0)) := (hbw.setCell (by simp) _).setCell (by simp) _
          generalize (w4.setCell ⟨w.heap.size + 1, 0, none⟩ (.slice none 0 0)).setCell ⟨w.heap.size + 1, 1, none⟩ (.slice none 0 0) = w6 at *
          have p0 := hR6.c0
          have p1 := hR6.c1
          refine bodyPost_ret (v := .tuple #[.agg #[.slice none 0 0, .slice none 0 0], .bool false]) (by simp [results, Try.results12, go_sem, p0, p1]) rfl ?_
          exact .mk' (OT.none' _ _ _) hbw6
        · skip
          have hA0 := hE0
          have hF0 := hE1
          have hF1 := hE2
          go_enter Try.func12, Try.ntmps12
          have hBz := hB.lt
          have hBc0 := hB.c0
          have hBc1 := hB.c1
          have hRz := hR.lt
          have hRc0 := hR.c0
          have hRc1 := hR.c1
          go_wp2_with fail
          refine (ArenaOk_any _ a _ (hv.kept (Kept.of hbw))).mono ?_
          rintro e w1 ⟨rfl, hb1⟩
          clear hBc0 hBc1 hRc0 hRc1 hBz hRz
          replace hB := hB.below hb1 hB.lt
          replace hR := hR.below hb1 hR.lt
          replace hbw := Below.up hbw hb1
          have hb1s := hb1.size
          clear hb1
          have hBz := hB.lt
          have hBc0 := hB.c0
          have hBc1 := hB.c1
          have hRz := hR.lt
          have hRc0 := hR.c0
          have hRc1 := hR.c1
          go_wp2_with fail
          refine (isFull_any _ a 0 _ even _ (hv.kept (Kept.of hbw)) (hve.kept (Kept.of hbw)) hok).mono ?_
          rintro e w2 ⟨rfl, hb2⟩
          clear hBc0 hBc1 hRc0 hRc1 hBz hRz
          replace hB := hB.below hb2 hB.lt
          replace hR := hR.below hb2 hR.lt
          replace hbw := Below.up hbw hb2
          have hb2s := hb2.size
          clear hb2
          have hBz := hB.lt
          have hBc0 := hB.c0
          have hBc1 := hB.c1
          have hRz := hR.lt
          have hRc0 := hR.c0
          have hRc1 := hR.c1
          go_wp2_with fail
          refine (isFull_any _ a 1 _ odd _ (hv.kept (Kept.of hbw)) (hvo.kept (Kept.of hbw)) hok).mono ?_
          rintro e w3 ⟨rfl, hb3⟩
          clear hBc0 hBc1 hRc0 hRc1 hBz hRz
          replace hB := hB.below hb3 hB.lt
          replace hR := hR.below hb3 hR.lt
          replace hbw := Below.up hbw hb3
          have hb3s := hb3.size
          clear hb3
          have hBz := hB.lt
          have hBc0 := hB.c0
          have hBc1 := hB.c1
          have hRz := hR.lt
          have hRc0 := hR.c0
          have hRc1 := hR.c1
          go_wp2_with fail
          refine (hasVertex_any _ a x _ (hv.kept (Kept.of hbw))).mono ?_
          rintro e w4 ⟨rfl, hb4⟩
          clear hBc0 hBc1 hRc0 hRc1 hBz hRz
          replace hB := hB.below hb4 hB.lt
          replace hR := hR.below hb4 hR.lt
          replace hbw := Below.up hbw hb4
          have hb4s := hb4.size
          clear hb4
          have hBz := hB.lt
          have hBc0 := hB.c0
          have hBc1 := hB.c1
          have hRz := hR.lt
          have hRc0 := hR.c0
          have hRc1 := hR.c1
          go_wp2_with fail
          clear hE0 hE1 hE2
          have hres : playOkB a even odd x = true := by unfold playOkB; rw [hA0, hF0, hF1, hE3]; rfl
          have hfix : playG a even odd x = playT (moveN a even odd) x.toNat := by unfold playG; rw [hres]; rfl
          have Hfix := Lib.hid hfix
          have Hpk := Lib.hid hres
          try rw [hfix, hres]
          clear hres hfix
          have hx := hE3
          unfold thereB at hx
          rw [decide_eq_true_eq] at hx
          obtain ⟨x0, rfl⟩ : ∃ x0 : Nat, x = (x0 : Int) := ⟨x.toNat, by omega⟩
          try rw [Int.toNat_natCast]
          have hx0 : x0 < a.owner.length := by omega
          have hle := hok.le
          have hel : Hid (even.length = a.owner.length) := Lib.hid (by unfold fullB at hF0; rw [Bool.and_eq_true] at hF0; exact (planB_iff.1 hF0.1).len)
          have hol : Hid (odd.length = a.owner.length) := Lib.hid (by unfold fullB at hF1; rw [Bool.and_eq_true] at hF1; exact (planB_iff.1 hF1.1).len)
          have Hmv := Lib.hid (fun (v : Nat) (hv : v < a.owner.length) => move_next (even := even) (odd := odd) hok hF0 hF1 hv)
          have Hlt := Lib.hid (fun k => iter_lt (f := moveN a even odd) (n := a.owner.length) (fun x hx => (Hmv.out x hx).2.1) hx0 k)
          have Hsh := Lib.hid (fun k (h : ∀ i, i < k → ((iter (moveN a even odd) i x0 : Nat) : Int) ∉ trackL (moveN a even odd) x0 i) => way_short (f := moveN a even odd) (n := a.owner.length) (fun x hx => (Hmv.out x hx).2.1) hx0 h)
          clear hx hF0 hF1 hA0
          have hcB := hB.lt
          have hcR := hR.lt
          have hw0 := hbw.size
          obtain ⟨hown0, hbn⟩ := new_ints w4
          clear hBc0 hBc1 hRc0 hRc1 hBz hRz
          go_wp2
          generalize w4.alloc (.cells #[] 2) = w8 at *
          go_loopg [10, 3] a.owner.length (fun g q p wx => ∃ k : Nat, k + g = a.owner.length ∧ p = .int .i64 ((iter (moveN a even odd) k x0 : Nat) : Int) ∧ OwnInts wx w4.heap.size q (trackL (moveN a even odd) x0 k) ∧ Hid (∀ i, i < k → ((iter (moveN a even odd) i x0 : Nat) : Int) ∉ trackL (moveN a even odd) x0 i) ∧ Below w4.heap.size w4 wx)
          case atStart => exact ⟨0, by omega, rfl, hown0, Lib.hid (fun i hi => by omega), hbn⟩
          case round =>
            obtain ⟨k, hkg, rfl, hown, Hno, hbG⟩ := hrel
            have hbwr : Below w.heap.size w wr := Below.up hbw hbG
            have hBr := hB.below hbG hcB
            have hRr := hR.below hbG hcR
            have hbs := hbG.size
            have hplt := Hlt.out k
            have hcon := Index_any _ (trackL (moveN a even odd) x0 k) ((iter (moveN a even odd) k x0 : Nat) : Int) wr hown.ints
            by_cases hin : ((iter (moveN a even odd) k x0 : Nat) : Int) ∈ trackL (moveN a even odd) x0 k
            · have hwk : (trackL (moveN a even odd) x0 k).length = k := length_trackL
              have hat := playAt_lt hin
              have hidx := idx_playAt hin
              have hK := playK_eq hin Hno.out
              have Hres := Lib.hid (show playT (moveN a even odd) x0 = ⟨(trackL (moveN a even odd) x0 k).take (playAt (moveN a even odd) x0 k), (trackL (moveN a even odd) x0 k).drop (playAt (moveN a even odd) x0 k)⟩ by unfold playT; rw [hK])
              clear hK
              obtain ⟨g0, cap0, e0, hg0, hg0l⟩ := hown.form' hwk (by omega)
              subst e0
              have hq := OwnQ.of_own hown
              have hcp : 0 < cap0 := by
                obtain ⟨_, _, e1, e2, _⟩ := hq.ints.form
                simp only [Value.slice.injEq] at e1
                obtain ⟨_, _, rfl⟩ := e1
                rw [hwk] at e2; omega
              obtain ⟨at_, hat_⟩ : ∃ at_, playAt (moveN a even odd) x0 k = at_ := ⟨_, rfl⟩
              rw [hat_] at hat hidx Hres
              clear hat_
              obtain ⟨hcut, hq1⟩ := hq.cut hwk.symm at_ (by omega) hcp
              obtain ⟨A2, c2', hfrom, hq2⟩ := hq.from_ hwk.symm at_ hat
              have T1 := Lib.hid (fun W (hW : Kept wr W) => hq1.ints.kept hW)
              have T2 := Lib.hid (fun W (hW : Kept wr W) => hq2.ints.kept hW)
              have hL1 : Hid (((trackL (moveN a even odd) x0 k).take at_).length = at_) := Lib.hid (by rw [List.length_take, hwk]; omega)
              have hL2 : Hid (((trackL (moveN a even odd) x0 k).drop at_).length = k - at_) := Lib.hid (by rw [List.length_drop, hwk])
              generalize (trackL (moveN a even odd) x0 k).take at_ = l1 at *
              generalize (trackL (moveN a even odd) x0 k).drop at_ = l2 at *
              have hRz := hRr.lt
              have hatk : (at_ : Int) ≤ (k : Int) := by omega
              clear hq hq1 hq2 hcp hwk
              rw [hidx] at hcon
              have hownA : OwnInts (wr.alloc (.cells #[] 2)).drew wr.heap.size (.slice (some ⟨wr.heap.size, 0, none⟩) 0 0) [] := (new_ints wr).1
              have hbA : Below wr.heap.size wr (wr.alloc (.cells #[] 2)).drew := below_drw (new_ints wr).2
              have hsA : (wr.alloc (.cells #[] 2)).heap.size = wr.heap.size + 1 := by simp
              have hownB0 : OwnInts ((wr.alloc (.cells #[] 2)).alloc (.cells #[] 2)).drew wr.heap.size (.slice (some ⟨wr.heap.size, 0, none⟩) 0 0) [] := (new_ints wr).1.below (below_drw (new_ints (wr.alloc (.cells #[] 2))).2) (Nat.le_refl _)
              have hownB1 : OwnInts ((wr.alloc (.cells #[] 2)).alloc (.cells #[] 2)).drew wr.heap.size (.slice (some ⟨wr.heap.size + 1, 0, none⟩) 0 0) [] := by
                have := (new_ints (wr.alloc (.cells #[] 2))).1
                rw [hsA] at this
                exact this.more (Nat.le_succ _)
              have hbB : Below wr.heap.size wr ((wr.alloc (.cells #[] 2)).alloc (.cells #[] 2)).drew := below_drw ((new_ints wr).2.trans ((new_ints (wr.alloc (.cells #[] 2))).2.mono (by omega)))
              clear hsA hidx
              go_wp2_with (go_at_call 45; refine hcon.mono ?_; rintro e w' ⟨rfl, hw⟩; subst w')
              clear hcon
              go_region_law (first
                | (have hmark := hl2; refine step_append_ints _ rfl (.tmp 40) (.tmp 43) rfl wr.heap.size _ [] rfl hownS _ l1 rfl (T1.out _ (Kept.of (Below.up hW7 hWS))) (by rw [hL1.out]; simp; omega) (Nat.le_trans hW7.size hWS.size) ?_; intro v1 w9 ho1 hb1 hg1 hl1; rw [List.nil_append] at ho1; obtain ⟨O1, c1, e1, _⟩ := ho1.ints.form; rw [hL1.out] at e1; subst e1; have hF := OT.two_rows ho2 hWS hg1 ho1 hnb hl1; have hT : OT w9 wr.heap.size w9.heap.size (.agg #[(.slice O1 at_ c1), (.slice O2 (k - at_) c2)]) ⟨l1, l2⟩ := ⟨_, _, rfl, hF.2.1, hF.1, fun b hb hb2 => hF.2.2 b hb2 hb⟩; have hb9 : Below wr.heap.size wr w9 := (hW7.trans (hWS.mono hW7.size)).trans hb1; have hR9 := hRr.below hb9 hRz; have q0 := hR9.c0; have q1 := hR9.c1; have q2 := hR9.frozen 0; have q3 := hR9.frozen 1)
                | (have hmark := hl1; refine step_append_ints _ rfl (.tmp 45) (.tmp 48) rfl wr.heap.size _ [] rfl hownS _ l2 rfl (T2.out _ (Kept.of (Below.up hW7 hWS))) (by rw [hL2.out]; simp; omega) (Nat.le_trans hW7.size hWS.size) ?_; intro v2 w9 ho2 hb2 hg2 hl2; rw [List.nil_append] at ho2; obtain ⟨O2, c2, e2, _⟩ := ho2.ints.form; rw [hL2.out] at e2; subst e2; have hF := OT.two_rows ho1 hWS hg2 ho2 hnb hl2; have hT : OT w9 wr.heap.size w9.heap.size (.agg #[(.slice O1 at_ c1), (.slice O2 (k - at_) c2)]) ⟨l1, l2⟩ := ⟨_, _, rfl, hF.1, hF.2.1, hF.2.2⟩; have hb9 : Below wr.heap.size wr w9 := (hW7.trans (hWS.mono hW7.size)).trans hb2; have hR9 := hRr.below hb9 hRz; have q0 := hR9.c0; have q1 := hR9.c1; have q2 := hR9.frozen 0; have q3 := hR9.frozen 1)
                | (refine step_append_ints (wr.alloc (.cells #[] 2)).drew rfl (.tmp 40) (.tmp 43) rfl wr.heap.size (.slice (some ⟨wr.heap.size, 0, none⟩) 0 0) [] rfl hownA _ l1 rfl (T1.out _ (Kept.of hbA)) (by rw [hL1.out]; simp; omega) hbA.size ?_; intro v1 w7 ho1 hb1 hg1 hl1; rw [List.nil_append] at ho1; obtain ⟨O1, c1, e1, _⟩ := ho1.ints.form; rw [hL1.out] at e1; subst e1; have hW7 : Below wr.heap.size wr w7 := hbA.trans hb1; have hWS := (Below.refl w7.heap.size w7).alloc (Nat.le_refl _) (.cells #[] 2); have hownS := (new_ints w7).1.more hW7.size; have hnb : ∀ b, ((.slice O1 at_ c1) : Value).ownBlock = some b → b ≠ w7.heap.size := fun b hb => by have := (ho1.lt b hb).2; omega)
                | (refine step_append_ints ((wr.alloc (.cells #[] 2)).alloc (.cells #[] 2)).drew rfl (.tmp 40) (.tmp 43) rfl wr.heap.size (.slice (some ⟨wr.heap.size, 0, none⟩) 0 0) [] rfl hownB0 _ l1 rfl (T1.out _ (Kept.of hbB)) (by rw [hL1.out]; simp; omega) hbB.size ?_; intro v1 w7 ho1 hb1 hg1 hl1; rw [List.nil_append] at ho1; obtain ⟨O1, c1, e1, _⟩ := ho1.ints.form; rw [hL1.out] at e1; subst e1; have hW7 : Below wr.heap.size wr w7 := hbB.trans hb1; have hWS := Below.refl w7.heap.size w7; have hownS : OwnInts w7 wr.heap.size (.slice (some ⟨wr.heap.size + 1, 0, none⟩) 0 0) [] := hownB1.heap (fun b hb => hg1.block b (hownB1.lt b hb).2 (fun e => by simp [Value.ownBlock] at hb e; omega)); have hnb : ∀ b, ((.slice O1 at_ c1) : Value).ownBlock = some b → b ≠ wr.heap.size + 1 := fun b hb e => by rcases hl1 with h | h <;> (rw [h] at hb; simp [Value.ownBlock] at hb; omega))
                | (refine step_append_ints ((wr.alloc (.cells #[] 2)).alloc (.cells #[] 2)).drew rfl (.tmp 40) (.tmp 43) rfl wr.heap.size (.slice (some ⟨wr.heap.size + 1, 0, none⟩) 0 0) [] rfl hownB1 _ l1 rfl (T1.out _ (Kept.of hbB)) (by rw [hL1.out]; simp; omega) hbB.size ?_; intro v1 w7 ho1 hb1 hg1 hl1; rw [List.nil_append] at ho1; obtain ⟨O1, c1, e1, _⟩ := ho1.ints.form; rw [hL1.out] at e1; subst e1; have hW7 : Below wr.heap.size wr w7 := hbB.trans hb1; have hWS := Below.refl w7.heap.size w7; have hownS : OwnInts w7 wr.heap.size (.slice (some ⟨wr.heap.size, 0, none⟩) 0 0) [] := hownB0.heap (fun b hb => hg1.block b (hownB0.lt b hb).2 (fun e => by simp [Value.ownBlock] at hb e; omega)); have hnb : ∀ b, ((.slice O1 at_ c1) : Value).ownBlock = some b → b ≠ wr.heap.size := fun b hb e => by rcases hl1 with h | h <;> (rw [h] at hb; simp [Value.ownBlock] at hb; omega))
                | (refine step_append_ints (wr.alloc (.cells #[] 2)).drew rfl (.tmp 45) (.tmp 48) rfl wr.heap.size (.slice (some ⟨wr.heap.size, 0, none⟩) 0 0) [] rfl hownA _ l2 rfl (T2.out _ (Kept.of hbA)) (by rw [hL2.out]; simp; omega) hbA.size ?_; intro v2 w7 ho2 hb2 hg2 hl2; rw [List.nil_append] at ho2; obtain ⟨O2, c2, e2, _⟩ := ho2.ints.form; rw [hL2.out] at e2; subst e2; have hW7 : Below wr.heap.size wr w7 := hbA.trans hb2; have hWS := (Below.refl w7.heap.size w7).alloc (Nat.le_refl _) (.cells #[] 2); have hownS := (new_ints w7).1.more hW7.size; have hnb : ∀ b, ((.slice O2 (k - at_) c2) : Value).ownBlock = some b → b ≠ w7.heap.size := fun b hb => by have := (ho2.lt b hb).2; omega)
                | (refine step_append_ints ((wr.alloc (.cells #[] 2)).alloc (.cells #[] 2)).drew rfl (.tmp 45) (.tmp 48) rfl wr.heap.size (.slice (some ⟨wr.heap.size, 0, none⟩) 0 0) [] rfl hownB0 _ l2 rfl (T2.out _ (Kept.of hbB)) (by rw [hL2.out]; simp; omega) hbB.size ?_; intro v2 w7 ho2 hb2 hg2 hl2; rw [List.nil_append] at ho2; obtain ⟨O2, c2, e2, _⟩ := ho2.ints.form; rw [hL2.out] at e2; subst e2; have hW7 : Below wr.heap.size wr w7 := hbB.trans hb2; have hWS := Below.refl w7.heap.size w7; have hownS : OwnInts w7 wr.heap.size (.slice (some ⟨wr.heap.size + 1, 0, none⟩) 0 0) [] := hownB1.heap (fun b hb => hg2.block b (hownB1.lt b hb).2 (fun e => by simp [Value.ownBlock] at hb e; omega)); have hnb : ∀ b, ((.slice O2 (k - at_) c2) : Value).ownBlock = some b → b ≠ wr.heap.size + 1 := fun b hb e => by rcases hl2 with h | h <;> (rw [h] at hb; simp [Value.ownBlock] at hb; omega))
                | (refine step_append_ints ((wr.alloc (.cells #[] 2)).alloc (.cells #[] 2)).drew rfl (.tmp 45) (.tmp 48) rfl wr.heap.size (.slice (some ⟨wr.heap.size + 1, 0, none⟩) 0 0) [] rfl hownB1 _ l2 rfl (T2.out _ (Kept.of hbB)) (by rw [hL2.out]; simp; omega) hbB.size ?_; intro v2 w7 ho2 hb2 hg2 hl2; rw [List.nil_append] at ho2; obtain ⟨O2, c2, e2, _⟩ := ho2.ints.form; rw [hL2.out] at e2; subst e2; have hW7 : Below wr.heap.size wr w7 := hbB.trans hb2; have hWS := Below.refl w7.heap.size w7; have hownS : OwnInts w7 wr.heap.size (.slice (some ⟨wr.heap.size, 0, none⟩) 0 0) [] := hownB0.heap (fun b hb => hg2.block b (hownB0.lt b hb).2 (fun e => by simp [Value.ownBlock] at hb e; omega)); have hnb : ∀ b, ((.slice O2 (k - at_) c2) : Value).ownBlock = some b → b ≠ wr.heap.size := fun b hb e => by rcases hl2 with h | h <;> (rw [h] at hb; simp [Value.ownBlock] at hb; omega)))
              all_goals
                have hR6 := (hR9.set_ 0 (.slice O1 at_ c1)).set_ 1 (.slice O2 (k - at_) c2)
                have hbw6 : Below w.heap.size w ((w9.setCell ⟨w.heap.size + 1, 0, none⟩ (.slice O1 at_ c1)).setCell ⟨w.heap.size + 1, 1, none⟩ (.slice O2 (k - at_) c2)) := (((hbwr.trans (hb9.mono hbwr.size)).setCell (by simp) _).setCell (by simp) _)
                have hcb : ∀ b, wr.heap.size ≤ b → ((w9.setCell ⟨w.heap.size + 1, 0, none⟩ (.slice O1 at_ c1)).setCell ⟨w.heap.size + 1, 1, none⟩ (.slice O2 (k - at_) c2)).heap[b]? = w9.heap[b]? := fun b hb => by
                  rw [Below.heap_setCell _ _ _ _ (by simp; omega), Below.heap_setCell _ _ _ _ (by simp; omega)]
                have hsz : ((w9.setCell ⟨w.heap.size + 1, 0, none⟩ (.slice O1 at_ c1)).setCell ⟨w.heap.size + 1, 1, none⟩ (.slice O2 (k - at_) c2)).heap.size = w9.heap.size := by simp
                have hT6 := hT.heapFrom hcb
                have hwrs := hbwr.size
                clear q0 q1 q2 q3
                generalize (w9.setCell ⟨w.heap.size + 1, 0, none⟩ (.slice O1 at_ c1)).setCell ⟨w.heap.size + 1, 1, none⟩ (.slice O2 (k - at_) c2) = w6 at *
                have p0 := hR6.c0
                have p1 := hR6.c1
                go_wp2
                refine bodyPost_ret (v := .tuple #[.agg #[(.slice O1 at_ c1), (.slice O2 (k - at_) c2)], .bool true]) (by simp [results, Try.results12, go_sem, p0, p1]) rfl ?_
                try rw [Hfix.out, Hpk.out]
                try rw [Int.toNat_natCast]
                rw [Hres.out]
                exact .mk' (hT6.mono hwrs (by omega)) hbw6
            · have Hnin := Lib.hid hin
              have hkn : k < a.owner.length := by
                have := Hsh.out (k + 1) fun i hi => by
                  by_cases e : i = k
                  · rw [e]; exact Hnin.out
                  · exact Hno.out i (by omega)
                omega
              have hidx : idxL (trackL (moveN a even odd) x0 k) ((iter (moveN a even odd) k x0 : Nat) : Int) = -1 := by unfold idxL; rw [if_neg hin]
              rw [hidx] at hcon
              clear hin hidx
              obtain ⟨hm1, hm2, _⟩ := Hmv.out _ hplt
              have Hit := Lib.hid (show iter (moveN a even odd) (k + 1) x0 = moveN a even odd (iter (moveN a even odd) k x0) from rfl)
              have Hws := Lib.hid (trackL_succ (f := moveN a even odd) (v := x0) (k := k))
              have hwl : (trackL (moveN a even odd) x0 k).length ≤ 1099511627776 := by rw [length_trackL]; omega
              have Hno2 := Lib.hid (show ∀ i, i < k + 1 → ((iter (moveN a even odd) i x0 : Nat) : Int) ∉ trackL (moveN a even odd) x0 i from fun i hi => by
                by_cases e : i = k
                · rw [e]; exact Hnin.out
                · exact Hno.out i (by omega))
              generalize iter (moveN a even odd) k x0 = p at *
              have hpl : (p : Int) < a.owner.length := by omega
              have hpe : (p : Int) < even.length := by rw [hel.out]; omega
              have hpo : (p : Int) < odd.length := by rw [hol.out]; omega
              obtain ⟨a1, ea1, hcw1⟩ := ho.at_ (k := p) hplt
              subst ea1
              have hc1 := (Kept.of hbwr).cell hcw1
              obtain ⟨a2, ea2, hcw2⟩ := hve.at_ (k := p) (by rw [hel.out]; exact hplt)
              subst ea2
              have hc2 := (Kept.of hbwr).cell hcw2
              obtain ⟨a3, ea3, hcw3⟩ := hvo.at_ (k := p) (by rw [hol.out]; exact hplt)
              subst ea3
              have hc3 := (Kept.of hbwr).cell hcw3
              have hBz := hBr.lt
              by_cases e0 : ix a.owner p = 0
              · have hd : (ix a.owner p == 0) = true := by simpa using e0
                have Hst := Lib.hid (show ix even p = ((iter (moveN a even odd) (k + 1) x0 : Nat) : Int) by rw [Hit.out, ← hm1]; unfold moveI; rw [if_pos e0])
                clear e0 hm1 hm2
                go_wp2_with (first | (go_at_call 45; refine hcon.mono ?_; rintro e w' ⟨rfl, hw⟩; subst w') | (at_builtin; refine append_int _ rfl (.tmp 51) (.tmp 53) rfl w4.heap.size u10 _ rfl hown (p : Int) rfl hwl hbs ?_; intro v1 w9 ho1 hb1 hg1 hl1; have r1 := (hBr.below hb1 hcB).c0; have r2 := (Kept.at hb1 hw0 (Kept.of hbwr)).cell hcw1; have r3 := (Kept.at hb1 hw0 (Kept.of hbwr)).cell hcw2; have r4 := (Kept.at hb1 hw0 (Kept.of hbwr)).cell hcw3))
                go_roundg (gk - 1)
                case measure => omega
                case rel => exact ⟨k + 1, by omega, by rw [Hst.out], by rw [Hws.out]; exact ho1, Hno2, hbG.trans hb1⟩
              · have hd : (ix a.owner p == 0) = false := by simpa using e0
                have Hst := Lib.hid (show ix odd p = ((iter (moveN a even odd) (k + 1) x0 : Nat) : Int) by rw [Hit.out, ← hm1]; unfold moveI; rw [if_neg e0])
                clear e0 hm1 hm2
                go_wp2_with (first | (go_at_call 45; refine hcon.mono ?_; rintro e w' ⟨rfl, hw⟩; subst w') | (at_builtin; refine append_int _ rfl (.tmp 51) (.tmp 53) rfl w4.heap.size u10 _ rfl hown (p : Int) rfl hwl hbs ?_; intro v1 w9 ho1 hb1 hg1 hl1; have r1 := (hBr.below hb1 hcB).c0; have r2 := (Kept.at hb1 hw0 (Kept.of hbwr)).cell hcw1; have r3 := (Kept.at hb1 hw0 (Kept.of hbwr)).cell hcw2; have r4 := (Kept.at hb1 hw0 (Kept.of hbwr)).cell hcw3))
                go_roundg (gk - 1)
                case measure => omega
                case rel => exact ⟨k + 1, by omega, by rw [Hst.out], by rw [Hws.out]; exact ho1, Hno2, hbG.trans hb1⟩

theorem playOkB_full (a : ArenaD) (even odd : List Int) (x : Int) : playOkB a even odd x = (fullG a 0 even && (fullG a 1 odd && thereB a x)) := by
  unfold playOkB fullG
  have h0 : playerB 0 = true := by decide
  have h1 : playerB 1 = true := by decide
  rw [h0, h1]
  cases arenaOkB a <;> simp
theorem fullG_parts {a : ArenaD} {who : Int} {plan : List Int} (h : fullG a who plan = true) : arenaOkB a = true ∧ fullB a who plan = true := by
  unfold fullG at h
  simp only [Bool.and_eq_true] at h
  exact ⟨h.1, h.2.2⟩

set_option maxRecDepth 100000 in
set_option maxHeartbeats 8000000 in
theorem specPlayOf_any (v : Value) (a : ArenaD) (ve : Value) (even : List Int) (vo : Value) (odd : List Int) (x : Int) (w : World) (hv : IsArena w v a) (hve : Ints w ve even) (hvo : Ints w vo odd) :
    Calls Try.prog 40 #[v, ve, vo, .int .i64 x] w (RetTwoB w (playG a even odd x) (playOkB a even odd x)) := by
  obtain ⟨o, n, rfl, hbw, hB⟩ := arena_open hv
  have hR : Arr ((w.alloc (.cells #[o, n] 30)).alloc (.cells #[.slice none 0 0, .slice none 0 0] 37)) (w.heap.size + 1) 37 [.slice none 0 0, .slice none 0 0] := by
    simpa using Arr.new (w.alloc (.cells #[o, n] 30)) 37 [.slice none 0 0, .slice none 0 0]
  replace hB := hB.alloc (.cells #[.slice none 0 0, .slice none 0 0] 37)
  replace hbw := hbw.alloc hbw.size (.cells #[.slice none 0 0, .slice none 0 0] 37)
  obtain ⟨ho, hn⟩ := hv.parts
  obtain ⟨A, c, rfl, hlc, hcm⟩ := ho.form
  obtain ⟨E, ec, rfl, hec, hem⟩ := hve.form
  obtain ⟨D, dc, rfl, hdc, hdm⟩ := hvo.form
  cases hE0 : fullG a 0 even
  · have hres : playOkB a even odd x = false := by rw [playOkB_full, hE0]; rfl
    have hfix : playG a even odd x = ⟨[], []⟩ := by unfold playG; rw [hres]; rfl
    rw [hfix, hres]; clear hres hfix
    go_enter Try.func40, Try.ntmps40
    have hBz := hB.lt
    have hBc0 := hB.c0
    have hBc1 := hB.c1
    have hRz := hR.lt
    have hRc0 := hR.c0
    have hRc1 := hR.c1
    go_wp2_with fail
    refine (specFullIn_any _ a 0 _ even _ (hv.kept (Kept.of hbw)) (hve.kept (Kept.of hbw))).mono ?_
    rintro e w1 ⟨rfl, hb1⟩
    clear hBc0 hBc1 hRc0 hRc1 hBz hRz
    replace hB := hB.below hb1 hB.lt
    replace hR := hR.below hb1 hR.lt
    replace hbw := Below.up hbw hb1
    have hb1s := hb1.size
    clear hb1
    have hBz := hB.lt
    have hBc0 := hB.c0
    have hBc1 := hB.c1
    have hRz := hR.lt
    have hRc0 := hR.c0
    have hRc1 := hR.c1
    have q0 := hR.c0
    have q1 := hR.c1
    have q2 := hR.frozen 0
    have q3 := hR.frozen 1
    go_wp2
    have hR6 := (hR.set_ 0 (.slice none 0 0)).set_ 1 (.slice none 0 0)
    have hbw6 : Below w.heap.size w ((w1.setCell ⟨w.heap.size + 1, 0, none⟩ (.slice none 0 0)).setCell ⟨w.heap.size + 1, 1, none⟩ (.slice none 0 0)) := (hbw.setCell (by simp) _).setCell (by simp) _
    generalize (w1.setCell ⟨w.heap.size + 1, 0, none⟩ (.slice none 0 0)).setCell ⟨w.heap.size + 1, 1, none⟩ (.slice none 0 0) = w6 at *
    have p0 := hR6.c0
    have p1 := hR6.c1
    refine bodyPost_ret (v := .tuple #[.agg #[.slice none 0 0, .slice none 0 0], .bool false]) (by simp [results, Try.results40, go_sem, p0, p1]) rfl ?_
    exact .mk' (OT.none' _ _ _) hbw6
  · skip
    skip
    cases hE1 : fullG a 1 odd
    · have hres : playOkB a even odd x = false := by rw [playOkB_full, hE0, hE1]; rfl
      have hfix : playG a even odd x = ⟨[], []⟩ := by unfold playG; rw [hres]; rfl
      rw [hfix, hres]; clear hres hfix
      go_enter Try.func40, Try.ntmps40
      have hBz := hB.lt
      have hBc0 := hB.c0
      have hBc1 := hB.c1
      have hRz := hR.lt
      have hRc0 := hR.c0
      have hRc1 := hR.c1
      go_wp2_with fail
      refine (specFullIn_any _ a 0 _ even _ (hv.kept (Kept.of hbw)) (hve.kept (Kept.of hbw))).mono ?_
      rintro e w1 ⟨rfl, hb1⟩
      clear hBc0 hBc1 hRc0 hRc1 hBz hRz
      replace hB := hB.below hb1 hB.lt
      replace hR := hR.below hb1 hR.lt
      replace hbw := Below.up hbw hb1
      have hb1s := hb1.size
      clear hb1
      have hBz := hB.lt
      have hBc0 := hB.c0
      have hBc1 := hB.c1
      have hRz := hR.lt
      have hRc0 := hR.c0
      have hRc1 := hR.c1
      go_wp2_with fail
      refine (specFullIn_any _ a 1 _ odd _ (hv.kept (Kept.of hbw)) (hvo.kept (Kept.of hbw))).mono ?_
      rintro e w2 ⟨rfl, hb2⟩
      clear hBc0 hBc1 hRc0 hRc1 hBz hRz
      replace hB := hB.below hb2 hB.lt
      replace hR := hR.below hb2 hR.lt
      replace hbw := Below.up hbw hb2
      have hb2s := hb2.size
      clear hb2
      have hBz := hB.lt
      have hBc0 := hB.c0
      have hBc1 := hB.c1
      have hRz := hR.lt
      have hRc0 := hR.c0
      have hRc1 := hR.c1
      have q0 := hR.c0
      have q1 := hR.c1
      have q2 := hR.frozen 0
      have q3 := hR.frozen 1
      go_wp2
      have hR6 := (hR.set_ 0 (.slice none 0 0)).set_ 1 (.slice none 0 0)
      have hbw6 : Below w.heap.size w ((w2.setCell ⟨w.heap.size + 1, 0, none⟩ (.slice none 0 0)).setCell ⟨w.heap.size + 1, 1, none⟩ (.slice none 0 0)) := (hbw.setCell (by simp) _).setCell (by simp) _
      generalize (w2.setCell ⟨w.heap.size + 1, 0, none⟩ (.slice none 0 0)).setCell ⟨w.heap.size + 1, 1, none⟩ (.slice none 0 0) = w6 at *
      have p0 := hR6.c0
      have p1 := hR6.c1
      refine bodyPost_ret (v := .tuple #[.agg #[.slice none 0 0, .slice none 0 0], .bool false]) (by simp [results, Try.results40, go_sem, p0, p1]) rfl ?_
      exact .mk' (OT.none' _ _ _) hbw6
    · skip
      cases hE2 : thereB a x
      · have hres : playOkB a even odd x = false := by rw [playOkB_full, hE0, hE1, hE2]; rfl
        have hfix : playG a even odd x = ⟨[], []⟩ := by unfold playG; rw [hres]; rfl
        rw [hfix, hres]; clear hres hfix
        go_enter Try.func40, Try.ntmps40
        have hBz := hB.lt
        have hBc0 := hB.c0
        have hBc1 := hB.c1
        have hRz := hR.lt
        have hRc0 := hR.c0
        have hRc1 := hR.c1
        go_wp2_with fail
        refine (specFullIn_any _ a 0 _ even _ (hv.kept (Kept.of hbw)) (hve.kept (Kept.of hbw))).mono ?_
        rintro e w1 ⟨rfl, hb1⟩
        clear hBc0 hBc1 hRc0 hRc1 hBz hRz
        replace hB := hB.below hb1 hB.lt
        replace hR := hR.below hb1 hR.lt
        replace hbw := Below.up hbw hb1
        have hb1s := hb1.size
        clear hb1
        have hBz := hB.lt
        have hBc0 := hB.c0
        have hBc1 := hB.c1
        have hRz := hR.lt
        have hRc0 := hR.c0
        have hRc1 := hR.c1
        go_wp2_with fail
        refine (specFullIn_any _ a 1 _ odd _ (hv.kept (Kept.of hbw)) (hvo.kept (Kept.of hbw))).mono ?_
        rintro e w2 ⟨rfl, hb2⟩
        clear hBc0 hBc1 hRc0 hRc1 hBz hRz
        replace hB := hB.below hb2 hB.lt
        replace hR := hR.below hb2 hR.lt
        replace hbw := Below.up hbw hb2
        have hb2s := hb2.size
        clear hb2
        have hBz := hB.lt
        have hBc0 := hB.c0
        have hBc1 := hB.c1
        have hRz := hR.lt
        have hRc0 := hR.c0
        have hRc1 := hR.c1
        go_wp2_with fail
        refine (l1There_any _ a x _ (hv.kept (Kept.of hbw))).mono ?_
        rintro e w3 ⟨rfl, hb3⟩
        clear hBc0 hBc1 hRc0 hRc1 hBz hRz
        replace hB := hB.below hb3 hB.lt
        replace hR := hR.below hb3 hR.lt
        replace hbw := Below.up hbw hb3
        have hb3s := hb3.size
        clear hb3
        have hBz := hB.lt
        have hBc0 := hB.c0
        have hBc1 := hB.c1
        have hRz := hR.lt
        have hRc0 := hR.c0
        have hRc1 := hR.c1
        have q0 := hR.c0
        have q1 := hR.c1
        have q2 := hR.frozen 0
        have q3 := hR.frozen 1
        go_wp2
        have hR6 := (hR.set_ 0 (.slice none 0 0)).set_ 1 (.slice none 0 0)
        have hbw6 : Below w.heap.size w ((w3.setCell ⟨w.heap.size + 1, 0, none⟩ (.slice none 0 0)).setCell ⟨w.heap.size + 1, 1, none⟩ (.slice none 0 0)) := (hbw.setCell (by simp) _).setCell (by simp) _
        generalize (w3.setCell ⟨w.heap.size + 1, 0, none⟩ (.slice none 0 0)).setCell ⟨w.heap.size + 1, 1, none⟩ (.slice none 0 0) = w6 at *
        have p0 := hR6.c0
        have p1 := hR6.c1
        refine bodyPost_ret (v := .tuple #[.agg #[.slice none 0 0, .slice none 0 0], .bool false]) (by simp [results, Try.results40, go_sem, p0, p1]) rfl ?_
        exact .mk' (OT.none' _ _ _) hbw6
      · skip
        have hA0 := (fullG_parts hE0).1
        have hF0 := (fullG_parts hE0).2
        have hF1 := (fullG_parts hE1).2
        have hok := arenaOkB_iff.1 hA0
        go_enter Try.func40, Try.ntmps40
        have hBz := hB.lt
        have hBc0 := hB.c0
        have hBc1 := hB.c1
        have hRz := hR.lt
        have hRc0 := hR.c0
        have hRc1 := hR.c1
        go_wp2_with fail
        refine (specFullIn_any _ a 0 _ even _ (hv.kept (Kept.of hbw)) (hve.kept (Kept.of hbw))).mono ?_
        rintro e w1 ⟨rfl, hb1⟩
        clear hBc0 hBc1 hRc0 hRc1 hBz hRz
        replace hB := hB.below hb1 hB.lt
        replace hR := hR.below hb1 hR.lt
        replace hbw := Below.up hbw hb1
        have hb1s := hb1.size
        clear hb1
        have hBz := hB.lt
        have hBc0 := hB.c0
        have hBc1 := hB.c1
        have hRz := hR.lt
        have hRc0 := hR.c0
        have hRc1 := hR.c1
        go_wp2_with fail
        refine (specFullIn_any _ a 1 _ odd _ (hv.kept (Kept.of hbw)) (hvo.kept (Kept.of hbw))).mono ?_
        rintro e w2 ⟨rfl, hb2⟩
        clear hBc0 hBc1 hRc0 hRc1 hBz hRz
        replace hB := hB.below hb2 hB.lt
        replace hR := hR.below hb2 hR.lt
        replace hbw := Below.up hbw hb2
        have hb2s := hb2.size
        clear hb2
        have hBz := hB.lt
        have hBc0 := hB.c0
        have hBc1 := hB.c1
        have hRz := hR.lt
        have hRc0 := hR.c0
        have hRc1 := hR.c1
        go_wp2_with fail
        refine (l1There_any _ a x _ (hv.kept (Kept.of hbw))).mono ?_
        rintro e w3 ⟨rfl, hb3⟩
        clear hBc0 hBc1 hRc0 hRc1 hBz hRz
        replace hB := hB.below hb3 hB.lt
        replace hR := hR.below hb3 hR.lt
        replace hbw := Below.up hbw hb3
        have hb3s := hb3.size
        clear hb3
        have hBz := hB.lt
        have hBc0 := hB.c0
        have hBc1 := hB.c1
        have hRz := hR.lt
        have hRc0 := hR.c0
        have hRc1 := hR.c1
        go_wp2_with fail
        clear hE0 hE1
        have hres : playOkB a even odd x = true := by unfold playOkB; rw [hA0, hF0, hF1, hE2]; rfl
        have hfix : playG a even odd x = playT (moveN a even odd) x.toNat := by unfold playG; rw [hres]; rfl
        have Hfix := Lib.hid hfix
        have Hpk := Lib.hid hres
        try rw [hfix, hres]
        clear hres hfix
        have hx := hE2
        unfold thereB at hx
        rw [decide_eq_true_eq] at hx
        obtain ⟨x0, rfl⟩ : ∃ x0 : Nat, x = (x0 : Int) := ⟨x.toNat, by omega⟩
        try rw [Int.toNat_natCast]
        have hx0 : x0 < a.owner.length := by omega
        have hle := hok.le
        have hel : Hid (even.length = a.owner.length) := Lib.hid (by unfold fullB at hF0; rw [Bool.and_eq_true] at hF0; exact (planB_iff.1 hF0.1).len)
        have hol : Hid (odd.length = a.owner.length) := Lib.hid (by unfold fullB at hF1; rw [Bool.and_eq_true] at hF1; exact (planB_iff.1 hF1.1).len)
        have Hmv := Lib.hid (fun (v : Nat) (hv : v < a.owner.length) => move_next (even := even) (odd := odd) hok hF0 hF1 hv)
        have Hlt := Lib.hid (fun k => iter_lt (f := moveN a even odd) (n := a.owner.length) (fun x hx => (Hmv.out x hx).2.1) hx0 k)
        have Hsh := Lib.hid (fun k (h : ∀ i, i < k → ((iter (moveN a even odd) i x0 : Nat) : Int) ∉ trackL (moveN a even odd) x0 i) => way_short (f := moveN a even odd) (n := a.owner.length) (fun x hx => (Hmv.out x hx).2.1) hx0 h)
        clear hx hF0 hF1 hA0
        have hcB := hB.lt
        have hcR := hR.lt
        have hw0 := hbw.size
        obtain ⟨hown0, hbn⟩ := new_ints w3
        clear hBc0 hBc1 hRc0 hRc1 hBz hRz
        go_wp2
        generalize w3.alloc (.cells #[] 2) = w8 at *
        go_loopg [10, 3] a.owner.length (fun g q p wx => ∃ k : Nat, k + g = a.owner.length ∧ p = .int .i64 ((iter (moveN a even odd) k x0 : Nat) : Int) ∧ OwnInts wx w3.heap.size q (trackL (moveN a even odd) x0 k) ∧ Hid (∀ i, i < k → ((iter (moveN a even odd) i x0 : Nat) : Int) ∉ trackL (moveN a even odd) x0 i) ∧ Below w3.heap.size w3 wx)
        case atStart => exact ⟨0, by omega, rfl, hown0, Lib.hid (fun i hi => by omega), hbn⟩
        case round =>
          obtain ⟨k, hkg, rfl, hown, Hno, hbG⟩ := hrel
          have hbwr : Below w.heap.size w wr := Below.up hbw hbG
          have hBr := hB.below hbG hcB
          have hRr := hR.below hbG hcR
          have hbs := hbG.size
          have hplt := Hlt.out k
          have hcon := l1Has_any _ (trackL (moveN a even odd) x0 k) ((iter (moveN a even odd) k x0 : Nat) : Int) wr hown.ints
          by_cases hin : ((iter (moveN a even odd) k x0 : Nat) : Int) ∈ trackL (moveN a even odd) x0 k
          · have hwk : (trackL (moveN a even odd) x0 k).length = k := length_trackL
            have hat := playAt_lt hin
            have hidx := idx_playAt hin
            have hK := playK_eq hin Hno.out
            have Hres := Lib.hid (show playT (moveN a even odd) x0 = ⟨(trackL (moveN a even odd) x0 k).take (playAt (moveN a even odd) x0 k), (trackL (moveN a even odd) x0 k).drop (playAt (moveN a even odd) x0 k)⟩ by unfold playT; rw [hK])
            clear hK
            obtain ⟨g0, cap0, e0, hg0, hg0l⟩ := hown.form' hwk (by omega)
            subst e0
            have hq := OwnQ.of_own hown
            have hcp : 0 < cap0 := by
              obtain ⟨_, _, e1, e2, _⟩ := hq.ints.form
              simp only [Value.slice.injEq] at e1
              obtain ⟨_, _, rfl⟩ := e1
              rw [hwk] at e2; omega
            obtain ⟨at_, hat_⟩ : ∃ at_, playAt (moveN a even odd) x0 k = at_ := ⟨_, rfl⟩
            rw [hat_] at hat hidx Hres
            clear hat_
            obtain ⟨hcut, hq1⟩ := hq.cut hwk.symm at_ (by omega) hcp
            obtain ⟨A2, c2', hfrom, hq2⟩ := hq.from_ hwk.symm at_ hat
            have T1 := Lib.hid (fun W (hW : Kept wr W) => hq1.ints.kept hW)
            have T2 := Lib.hid (fun W (hW : Kept wr W) => hq2.ints.kept hW)
            have hL1 : Hid (((trackL (moveN a even odd) x0 k).take at_).length = at_) := Lib.hid (by rw [List.length_take, hwk]; omega)
            have hL2 : Hid (((trackL (moveN a even odd) x0 k).drop at_).length = k - at_) := Lib.hid (by rw [List.length_drop, hwk])
            generalize (trackL (moveN a even odd) x0 k).take at_ = l1 at *
            generalize (trackL (moveN a even odd) x0 k).drop at_ = l2 at *
            have hRz := hRr.lt
            have hatk : (at_ : Int) ≤ (k : Int) := by omega
            clear hq hq1 hq2 hcp hwk
            have hhas : hasB (trackL (moveN a even odd) x0 k) ((iter (moveN a even odd) k x0 : Nat) : Int) = true := hasB_iff.2 hin
            rw [hhas] at hcon
            have C1 := Lib.hid (fun W (hW : Kept wr W) => l1Copy_any _ l1 W (T1.out W hW) (by rw [hL1.out]; omega))
            have C2 := Lib.hid (fun W (hW : Kept wr W) => l1Copy_any _ l2 W (T2.out W hW) (by rw [hL2.out]; omega))
            have hpl := l1Place_any _ (trackL (moveN a even odd) x0 k) ((iter (moveN a even odd) k x0 : Nat) : Int) wr hown.ints
            rw [hidx] at hpl
            clear hidx hhas hin
            go_wp2_with (first | (go_at_call 50; refine hcon.mono ?_; rintro e w' ⟨rfl, hw⟩; subst w') | (go_at_call 81; refine hpl.mono ?_; rintro e w' ⟨rfl, hw⟩; subst w'))
            clear hcon hpl
            go_region_law (first
              | (have hmark := ho1; go_simp; go_at_call_of 48 (Value.slice A2 (k - at_) c2'); refine (C2.out w7 (Kept.of hW7)).mono ?_; rintro e w9 ⟨u2, rfl, ho2, hb2⟩; obtain ⟨O2, c2, e2, _⟩ := ho2.ints.form; rw [hL2.out] at e2; subst e2; have hb9 : Below wr.heap.size wr w9 := Below.up hW7 hb2; have hT : OT w9 wr.heap.size w9.heap.size (.agg #[(.slice O1 at_ c1), (.slice O2 (k - at_) c2)]) ⟨l1, l2⟩ := ⟨_, _, rfl, OI.of (ho1.below hb2 (Nat.le_refl _)), OI.of (ho2.more hW7.size), fun b h1 h2 => by have h3 := (ho1.lt b h1).2; have h4 := (ho2.lt b h2).1; omega⟩; have hR9 := hRr.below hb9 hRz; have q0 := hR9.c0; have q1 := hR9.c1; have q2 := hR9.frozen 0; have q3 := hR9.frozen 1)
              | (have hmark := ho2; go_simp; go_at_call_of 48 (Value.slice (some ⟨g0, 0, none⟩) at_ cap0); refine (C1.out w7 (Kept.of hW7)).mono ?_; rintro e w9 ⟨u1, rfl, ho1, hb1⟩; obtain ⟨O1, c1, e1, _⟩ := ho1.ints.form; rw [hL1.out] at e1; subst e1; have hb9 : Below wr.heap.size wr w9 := Below.up hW7 hb1; have hT : OT w9 wr.heap.size w9.heap.size (.agg #[(.slice O1 at_ c1), (.slice O2 (k - at_) c2)]) ⟨l1, l2⟩ := ⟨_, _, rfl, OI.of (ho1.more hW7.size), OI.of (ho2.below hb1 (Nat.le_refl _)), fun b h1 h2 => by have h3 := (ho2.lt b h2).2; have h4 := (ho1.lt b h1).1; omega⟩; have hR9 := hRr.below hb9 hRz; have q0 := hR9.c0; have q1 := hR9.c1; have q2 := hR9.frozen 0; have q3 := hR9.frozen 1)
              | (go_simp; go_at_call_of 48 (Value.slice (some ⟨g0, 0, none⟩) at_ cap0); refine (C1.out wr.drew (Kept.drew _)).mono ?_; rintro e w7 ⟨u1, rfl, ho1, hb1⟩; replace ho1 : OwnInts w7 wr.heap.size _ _ := ho1; have hW7 : Below wr.heap.size wr w7 := below_of_drew hb1; obtain ⟨O1, c1, e1, _⟩ := ho1.ints.form; rw [hL1.out] at e1; subst e1)
              | (go_simp; go_at_call_of 48 (Value.slice A2 (k - at_) c2'); refine (C2.out wr.drew (Kept.drew _)).mono ?_; rintro e w7 ⟨u2, rfl, ho2, hb2⟩; replace ho2 : OwnInts w7 wr.heap.size _ _ := ho2; have hW7 : Below wr.heap.size wr w7 := below_of_drew hb2; obtain ⟨O2, c2, e2, _⟩ := ho2.ints.form; rw [hL2.out] at e2; subst e2))
            all_goals
              have hR6 := (hR9.set_ 0 (.slice O1 at_ c1)).set_ 1 (.slice O2 (k - at_) c2)
              have hbw6 : Below w.heap.size w ((w9.setCell ⟨w.heap.size + 1, 0, none⟩ (.slice O1 at_ c1)).setCell ⟨w.heap.size + 1, 1, none⟩ (.slice O2 (k - at_) c2)) := (((hbwr.trans (hb9.mono hbwr.size)).setCell (by simp) _).setCell (by simp) _)
              have hcb : ∀ b, wr.heap.size ≤ b → ((w9.setCell ⟨w.heap.size + 1, 0, none⟩ (.slice O1 at_ c1)).setCell ⟨w.heap.size + 1, 1, none⟩ (.slice O2 (k - at_) c2)).heap[b]? = w9.heap[b]? := fun b hb => by
                rw [Below.heap_setCell _ _ _ _ (by simp; omega), Below.heap_setCell _ _ _ _ (by simp; omega)]
              have hsz : ((w9.setCell ⟨w.heap.size + 1, 0, none⟩ (.slice O1 at_ c1)).setCell ⟨w.heap.size + 1, 1, none⟩ (.slice O2 (k - at_) c2)).heap.size = w9.heap.size := by simp
              have hT6 := hT.heapFrom hcb
              have hwrs := hbwr.size
              clear q0 q1 q2 q3
              generalize (w9.setCell ⟨w.heap.size + 1, 0, none⟩ (.slice O1 at_ c1)).setCell ⟨w.heap.size + 1, 1, none⟩ (.slice O2 (k - at_) c2) = w6 at *
              have p0 := hR6.c0
              have p1 := hR6.c1
              go_wp2
              refine bodyPost_ret (v := .tuple #[.agg #[(.slice O1 at_ c1), (.slice O2 (k - at_) c2)], .bool true]) (by simp [results, Try.results40, go_sem, p0, p1]) rfl ?_
              try rw [Hfix.out, Hpk.out]
              try rw [Int.toNat_natCast]
              rw [Hres.out]
              exact .mk' (hT6.mono hwrs (by omega)) hbw6
          · have Hnin := Lib.hid hin
            have hkn : k < a.owner.length := by
              have := Hsh.out (k + 1) fun i hi => by
                by_cases e : i = k
                · rw [e]; exact Hnin.out
                · exact Hno.out i (by omega)
              omega
            have hhas : hasB (trackL (moveN a even odd) x0 k) ((iter (moveN a even odd) k x0 : Nat) : Int) = false := by rw [Bool.eq_false_iff]; exact fun h => hin (hasB_iff.1 h)
            rw [hhas] at hcon
            clear hin hhas
            obtain ⟨hm1, hm2, _⟩ := Hmv.out _ hplt
            have Hit := Lib.hid (show iter (moveN a even odd) (k + 1) x0 = moveN a even odd (iter (moveN a even odd) k x0) from rfl)
            have Hws := Lib.hid (trackL_succ (f := moveN a even odd) (v := x0) (k := k))
            have hwl : (trackL (moveN a even odd) x0 k).length ≤ 1099511627776 := by rw [length_trackL]; omega
            have Hno2 := Lib.hid (show ∀ i, i < k + 1 → ((iter (moveN a even odd) i x0 : Nat) : Int) ∉ trackL (moveN a even odd) x0 i from fun i hi => by
              by_cases e : i = k
              · rw [e]; exact Hnin.out
              · exact Hno.out i (by omega))
            generalize iter (moveN a even odd) k x0 = p at *
            have hpl : (p : Int) < a.owner.length := by omega
            have hpe : (p : Int) < even.length := by rw [hel.out]; omega
            have hpo : (p : Int) < odd.length := by rw [hol.out]; omega
            obtain ⟨a1, ea1, hcw1⟩ := ho.at_ (k := p) hplt
            subst ea1
            have hc1 := (Kept.of hbwr).cell hcw1
            obtain ⟨a2, ea2, hcw2⟩ := hve.at_ (k := p) (by rw [hel.out]; exact hplt)
            subst ea2
            have hc2 := (Kept.of hbwr).cell hcw2
            obtain ⟨a3, ea3, hcw3⟩ := hvo.at_ (k := p) (by rw [hol.out]; exact hplt)
            subst ea3
            have hc3 := (Kept.of hbwr).cell hcw3
            have hBz := hBr.lt
            by_cases e0 : ix a.owner p = 0
            · have hd : (ix a.owner p == 0) = true := by simpa using e0
              have Hst := Lib.hid (show ix even p = ((iter (moveN a even odd) (k + 1) x0 : Nat) : Int) by rw [Hit.out, ← hm1]; unfold moveI; rw [if_pos e0])
              clear e0 hm1 hm2
              go_wp2_with (first | (go_at_call 50; refine hcon.mono ?_; rintro e w' ⟨rfl, hw⟩; subst w') | (at_builtin; refine append_int _ rfl (.tmp 34) (.tmp 36) rfl w3.heap.size u10 _ rfl hown (p : Int) rfl hwl hbs ?_; intro v1 w9 ho1 hb1 hg1 hl1; have r1 := (hBr.below hb1 hcB).c0; have r2 := (Kept.at hb1 hw0 (Kept.of hbwr)).cell hcw1; have r3 := (Kept.at hb1 hw0 (Kept.of hbwr)).cell hcw2; have r4 := (Kept.at hb1 hw0 (Kept.of hbwr)).cell hcw3))
              go_roundg (gk - 1)
              case measure => omega
              case rel => exact ⟨k + 1, by omega, by rw [Hst.out], by rw [Hws.out]; exact ho1, Hno2, hbG.trans hb1⟩
            · have hd : (ix a.owner p == 0) = false := by simpa using e0
              have Hst := Lib.hid (show ix odd p = ((iter (moveN a even odd) (k + 1) x0 : Nat) : Int) by rw [Hit.out, ← hm1]; unfold moveI; rw [if_neg e0])
              clear e0 hm1 hm2
              go_wp2_with (first | (go_at_call 50; refine hcon.mono ?_; rintro e w' ⟨rfl, hw⟩; subst w') | (at_builtin; refine append_int _ rfl (.tmp 34) (.tmp 36) rfl w3.heap.size u10 _ rfl hown (p : Int) rfl hwl hbs ?_; intro v1 w9 ho1 hb1 hg1 hl1; have r1 := (hBr.below hb1 hcB).c0; have r2 := (Kept.at hb1 hw0 (Kept.of hbwr)).cell hcw1; have r3 := (Kept.at hb1 hw0 (Kept.of hbwr)).cell hcw2; have r4 := (Kept.at hb1 hw0 (Kept.of hbwr)).cell hcw3))
              go_roundg (gk - 1)
              case measure => omega
              case rel => exact ⟨k + 1, by omega, by rw [Hst.out], by rw [Hws.out]; exact ho1, Hno2, hbG.trans hb1⟩

end Go.Proofs.Ytogfpalgnjlfcaa
