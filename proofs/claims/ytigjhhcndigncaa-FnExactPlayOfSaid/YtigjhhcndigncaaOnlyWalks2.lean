/- The walk of OnlyBy, the reference's. No condition but the lists' lengths. Printed by gen_only.py. -/
import Derived.Test.YtigjhhcndigncaaOnlyWalks
namespace Go.Proofs.Ytigjhhcndigncaa
set_option linter.unusedSimpArgs false
set_option linter.unusedVariables false
open Go.RowKit

theorem below_drew1' {B : Nat} {a w : World} (h : Below B a w) : Below B a w.drew := ⟨h.os, h.tape, h.output, h.size, h.block⟩
/-- append_one, where the walk has reckoned the place of the new cell. -/
theorem append_oneH {ops : Array Oper} {rest : List Oper} {o : Oper} {a : Act} {Q : Exit → Act → World → Prop} {t e : TypeId} {z : Value} (E : Elem t e z) (w0 : World) (hgd : o.guard = none) (s x : Operand)
    (ho : o.op = .call { callee := .builtin .append, args := #[s, x], argTypes := #[t, t] })
    (B : Nat) (v : Value) (n : Nat) (xs : List Value) (hs : a.eval s = v) (hown : w0.ownsRow B e 1 v n xs) (y : Value) (hy : y.oneCell' = true) (H : Nat) (hH : w0.heap.size = H)
    (hx : a.eval x = .slice (some ⟨H, 0, none⟩) 1 1) (hn : n ≤ 1099511627776) (hB : B ≤ w0.heap.size)
    (h : ∀ v' w', w'.ownsRow B e 1 v' (n + 1) (xs ++ [y]) → w0.grownBy w' v.ownBlock → (v'.ownBlock = v.ownBlock ∨ v'.ownBlock = some (w0.heap.size + 1)) → wpList Try.prog ops Q rest (a.put o.dst v') w') :
    wpList Try.prog ops Q (o :: rest) a (w0.alloc (.cells #[y] e)) := by
  subst hH
  exact append_one E w0 hgd s x ho B v n xs hs hown y hy hx hn hB h

set_option maxRecDepth 100000 in
set_option maxHeartbeats 4000000 in
theorem specOnlyBy_any (v : Value) (g : ParityD) (u : Value) (l : List Int) (w : World) (hv : IsParity w v g) (hu : Ints w u l) :
    Calls Try.prog 50 #[v, u] w (RetParityB w (onlyG g l) (onlyOkB g l)) := by
  obtain ⟨o, n, p, rfl, hbw, hB⟩ := parity_box hv
  have hR : Arr ((w.alloc (.cells #[o, n, p] 42)).alloc (.cells #[.slice none 0 0, .slice none 0 0, .slice none 0 0] 42)) (w.heap.size + 1) 42 [.slice none 0 0, .slice none 0 0, .slice none 0 0] := by
    simpa using Arr.new (w.alloc (.cells #[o, n, p] 42)) 42 [.slice none 0 0, .slice none 0 0, .slice none 0 0]
  replace hB := hB.alloc (.cells #[.slice none 0 0, .slice none 0 0, .slice none 0 0] 42)
  replace hbw := hbw.alloc hbw.size (.cells #[.slice none 0 0, .slice none 0 0, .slice none 0 0] 42)
  obtain ⟨ha, hp⟩ := hv.parts
  obtain ⟨ho, hn⟩ := ha.parts
  obtain ⟨A, c, rfl, hlc, hcm⟩ := ho.form
  obtain ⟨A', c', rfl, hlc', hcm'⟩ := hn.form
  obtain ⟨P, pc, rfl, hpl, hpm⟩ := hp.form
  obtain ⟨S, sc, rfl, hsl, hsm⟩ := hu.form
  cases hE : parityOkB g
  · have hres : onlyOkB g l = false := by unfold onlyOkB; rw [hE]; rfl
    have hfix : onlyG g l = ⟨⟨[], []⟩, []⟩ := by unfold onlyG; rw [hres]; rfl
    rw [hfix, hres]; clear hres hfix
    go_enter Try.func50, Try.ntmps50
    have hBz := hB.lt
    have hBc0 := hB.c0
    have hBc1 := hB.c1
    have hBc2 := hB.c2
    have hRz := hR.lt
    have hRc0 := hR.c0
    have hRc1 := hR.c1
    have hRc2 := hR.c2
    go_wp2_with fail
    refine (specParityOk_any _ g _ (hv.kept (Kept.of hbw))).mono ?_
    rintro e w1 ⟨rfl, hb1⟩
    clear hBc0 hBc1 hBc2 hRc0 hRc1 hRc2 hBz hRz
    replace hB := hB.below hb1 hB.lt
    replace hR := hR.below hb1 hR.lt
    replace hbw := Below.up hbw hb1
    have hb1s := hb1.size
    clear hb1
    have hBz := hB.lt
    have hBc0 := hB.c0
    have hBc1 := hB.c1
    have hBc2 := hB.c2
    have hRz := hR.lt
    have hRc0 := hR.c0
    have hRc1 := hR.c1
    have hRc2 := hR.c2
    have hRf0 := hR.frozen 0
    have hRf1 := hR.frozen 1
    have hRf2 := hR.frozen 2
    go_wp2
    have hR6 := ((hR.set_ 0 (.slice none 0 0)).set_ 1 (.slice none 0 0)).set_ 2 (.slice none 0 0)
    have hbw6 : Below w.heap.size w (((w1.setCell ⟨w.heap.size + 1, 0, none⟩ (.slice none 0 0)).setCell ⟨w.heap.size + 1, 1, none⟩ (.slice none 0 0)).setCell ⟨w.heap.size + 1, 2, none⟩ (.slice none 0 0)) := ((hbw.setCell (by simp) _).setCell (by simp) _).setCell (by simp) _
    generalize ((w1.setCell ⟨w.heap.size + 1, 0, none⟩ (.slice none 0 0)).setCell ⟨w.heap.size + 1, 1, none⟩ (.slice none 0 0)).setCell ⟨w.heap.size + 1, 2, none⟩ (.slice none 0 0) = w6 at *
    have q0 := hR6.c0
    have q1 := hR6.c1
    have q2 := hR6.c2
    refine bodyPost_ret (v := .tuple #[.agg #[.slice none 0 0, .slice none 0 0, .slice none 0 0], .bool false]) (by simp [results, Try.results50, go_sem, q0, q1, q2]) rfl ?_
    exact .mk' (OP.none' _ _ _) hbw6
  · have hok := parityOkB_iff.1 hE
    cases hE2 : picksB g l
    · have hres : onlyOkB g l = false := by unfold onlyOkB; rw [hE, hE2]; rfl
      have hfix : onlyG g l = ⟨⟨[], []⟩, []⟩ := by unfold onlyG; rw [hres]; rfl
      rw [hfix, hres]; clear hres hfix
      go_enter Try.func50, Try.ntmps50
      have hBz := hB.lt
      have hBc0 := hB.c0
      have hBc1 := hB.c1
      have hBc2 := hB.c2
      have hRz := hR.lt
      have hRc0 := hR.c0
      have hRc1 := hR.c1
      have hRc2 := hR.c2
      go_wp2_with fail
      refine (specParityOk_any _ g _ (hv.kept (Kept.of hbw))).mono ?_
      rintro e w1 ⟨rfl, hb1⟩
      clear hBc0 hBc1 hBc2 hRc0 hRc1 hRc2 hBz hRz
      replace hB := hB.below hb1 hB.lt
      replace hR := hR.below hb1 hR.lt
      replace hbw := Below.up hbw hb1
      have hb1s := hb1.size
      clear hb1
      have hBz := hB.lt
      have hBc0 := hB.c0
      have hBc1 := hB.c1
      have hBc2 := hB.c2
      have hRz := hR.lt
      have hRc0 := hR.c0
      have hRc1 := hR.c1
      have hRc2 := hR.c2
      go_wp2_with fail
      refine (l7Picks_any _ g _ l _ (hv.kept (Kept.of hbw)) (hu.kept (Kept.of hbw)) hok).mono ?_
      rintro e w2 ⟨rfl, hb2⟩
      clear hBc0 hBc1 hBc2 hRc0 hRc1 hRc2 hBz hRz
      replace hB := hB.below hb2 hB.lt
      replace hR := hR.below hb2 hR.lt
      replace hbw := Below.up hbw hb2
      have hb2s := hb2.size
      clear hb2
      have hBz := hB.lt
      have hBc0 := hB.c0
      have hBc1 := hB.c1
      have hBc2 := hB.c2
      have hRz := hR.lt
      have hRc0 := hR.c0
      have hRc1 := hR.c1
      have hRc2 := hR.c2
      have hRf0 := hR.frozen 0
      have hRf1 := hR.frozen 1
      have hRf2 := hR.frozen 2
      go_wp2
      have hR6 := ((hR.set_ 0 (.slice none 0 0)).set_ 1 (.slice none 0 0)).set_ 2 (.slice none 0 0)
      have hbw6 : Below w.heap.size w (((w2.setCell ⟨w.heap.size + 1, 0, none⟩ (.slice none 0 0)).setCell ⟨w.heap.size + 1, 1, none⟩ (.slice none 0 0)).setCell ⟨w.heap.size + 1, 2, none⟩ (.slice none 0 0)) := ((hbw.setCell (by simp) _).setCell (by simp) _).setCell (by simp) _
      generalize ((w2.setCell ⟨w.heap.size + 1, 0, none⟩ (.slice none 0 0)).setCell ⟨w.heap.size + 1, 1, none⟩ (.slice none 0 0)).setCell ⟨w.heap.size + 1, 2, none⟩ (.slice none 0 0) = w6 at *
      have q0 := hR6.c0
      have q1 := hR6.c1
      have q2 := hR6.c2
      refine bodyPost_ret (v := .tuple #[.agg #[.slice none 0 0, .slice none 0 0, .slice none 0 0], .bool false]) (by simp [results, Try.results50, go_sem, q0, q1, q2]) rfl ?_
      exact .mk' (OP.none' _ _ _) hbw6
    · have hres : onlyOkB g l = true := by unfold onlyOkB; rw [hE, hE2]; rfl
      have hfix : onlyG g l = onlyP g l := by unfold onlyG; rw [hres]; rfl
      rw [hfix, hres]; clear hres hfix
      have hl : l.length = g.prio.length := by unfold picksB at hE2; rw [Bool.and_eq_true, decide_eq_true_eq] at hE2; exact hE2.1
      have hle := hok.arena.le
      have hln : l.length = g.arena.next.length := by rw [hl, hok.len, hok.arena.len]
      have hl256 : l.length ≤ 256 := by rw [hl, hok.len]; exact hle
      have hp256 : g.prio.length ≤ 256 := by rw [hok.len]; exact hle
      have Hln := Lib.hid hln
      have Hnl := Lib.hid hok.arena.len
      have hdeg := Lib.hid (fun k (hk : k < g.arena.next.length) => (hok.arena.deg (v := k) (by rw [← Hnl.out]; exact hk)).2)
      clear hl hln
      go_enter Try.func50, Try.ntmps50
      have hBz := hB.lt
      have hBc0 := hB.c0
      have hBc1 := hB.c1
      have hBc2 := hB.c2
      have hRz := hR.lt
      have hRc0 := hR.c0
      have hRc1 := hR.c1
      have hRc2 := hR.c2
      go_wp2_with fail
      refine (specParityOk_any _ g _ (hv.kept (Kept.of hbw))).mono ?_
      rintro e w1 ⟨rfl, hb1⟩
      clear hBc0 hBc1 hBc2 hRc0 hRc1 hRc2 hBz hRz
      replace hB := hB.below hb1 hB.lt
      replace hR := hR.below hb1 hR.lt
      replace hbw := Below.up hbw hb1
      have hb1s := hb1.size
      clear hb1
      have hBz := hB.lt
      have hBc0 := hB.c0
      have hBc1 := hB.c1
      have hBc2 := hB.c2
      have hRz := hR.lt
      have hRc0 := hR.c0
      have hRc1 := hR.c1
      have hRc2 := hR.c2
      go_wp2_with fail
      refine (l7Picks_any _ g _ l _ (hv.kept (Kept.of hbw)) (hu.kept (Kept.of hbw)) hok).mono ?_
      rintro e w2 ⟨rfl, hb2⟩
      clear hBc0 hBc1 hBc2 hRc0 hRc1 hRc2 hBz hRz
      replace hB := hB.below hb2 hB.lt
      replace hR := hR.below hb2 hR.lt
      replace hbw := Below.up hbw hb2
      have hb2s := hb2.size
      clear hb2
      have hBz := hB.lt
      have hBc0 := hB.c0
      have hBc1 := hB.c1
      have hBc2 := hB.c2
      have hRz := hR.lt
      have hRc0 := hR.c0
      have hRc1 := hR.c1
      have hRc2 := hR.c2
      have hRl := hR.lt
      go_wp2_with fail
      clear hE hE2
      have hcall1 := fun W (hW : Below w2.heap.size w2 W) => l1Copy_any _ g.arena.owner W (((ho.kept (Kept.of hbw))).kept (Kept.of hW)) (by omega)
      have hcall2 := fun W (hW : Below w2.heap.size w2 W) => l1Copy_any _ g.prio W (((hp.kept (Kept.of hbw))).kept (Kept.of hW)) (by omega)
      have Hc1 := Lib.hid hcall1
      have Hc2 := Lib.hid hcall2
      have HS := Lib.hid (fun W (hW : Below w2.heap.size w2 W) => (show W.cell? ⟨w.heap.size, 0, none⟩ = some (.slice A g.arena.owner.length c) ∧ W.cell? ⟨w.heap.size, 2, none⟩ = some (.slice P g.prio.length pc) from ⟨(hB.below hW hB.lt).c0, (hB.below hW hB.lt).c2⟩))
      have hbd : Below w2.heap.size w2 w2.drew := ⟨rfl, rfl, rfl, Nat.le_refl _, fun _ _ => rfl⟩
      have hbA : Below w2.heap.size w2 (w2.alloc (.cells #[.slice none 0 0, .slice none 0 0, .slice none 0 0] 42)).drew := below_drew1' ((Below.refl _ _).alloc (Nat.le_refl _) _)
      have hNA : Arr (w2.alloc (.cells #[.slice none 0 0, .slice none 0 0, .slice none 0 0] 42)).drew w2.heap.size 42 [.slice none 0 0, .slice none 0 0, .slice none 0 0] := Arr.new w2 42 [.slice none 0 0, .slice none 0 0, .slice none 0 0]
      have HszA := Lib.hid (show (w2.alloc (.cells #[.slice none 0 0, .slice none 0 0, .slice none 0 0] 42)).drew.heap.size = w2.heap.size + 1 by simp)
      clear hcall1 hcall2
      go_region_held3 (fun W => W.cell? ⟨w.heap.size, 0, none⟩ = some (.slice A g.arena.owner.length c) ∧ W.cell? ⟨w.heap.size, 2, none⟩ = some (.slice P g.prio.length pc))
        (first
          | exact HS.out _ hbd
          | exact HS.out _ hbA
          | exact HS.out _ hR3
          | exact HS.out _ hR3a
          | exact HS.out _ hR4
          | exact HS.out _ (Below.alloc hR4 hR4.size _)
          | exact HS.out _ (((hR4.setCell (Nat.le_refl _) _).setCell (Nat.le_refl _) _).setCell (Nat.le_refl _) _)
          | exact HS.out _ (((hR4.setCell hR3.size _).setCell hR3.size _).setCell hR3.size _))
        (first | (go_at_call_of 99 (Value.slice A g.arena.owner.length c); refine (Hc1.out w2.drew hbd).mono ?_; rintro e w3 ⟨u3, rfl, ho3, hb3⟩; obtain ⟨A3, c3, e3, _⟩ := ho3.ints.form; subst e3; replace ho3 : OwnInts w3 w2.heap.size _ _ := ho3; have hR3 : Below w2.heap.size w2 w3 := below_of_drew hb3; have hR3a := hR3.alloc hR3.size (.cells #[.slice none 0 0, .slice none 0 0, .slice none 0 0] 42); have hN3 := Arr.new w3 42 [.slice none 0 0, .slice none 0 0, .slice none 0 0]) | (go_at_call_of 99 (Value.slice A g.arena.owner.length c); refine (Hc1.out _ hbA).mono ?_; rintro e w3 ⟨u3, rfl, ho3, hb3⟩; obtain ⟨A3, c3, e3, _⟩ := ho3.ints.form; subst e3; rw [HszA.out] at ho3; have hR3 : Below w2.heap.size w2 w3 := hbA.trans (hb3.mono hbA.size); have hXf3 := hNA.below hb3 (by rw [HszA.out]; exact Nat.lt_succ_self _); have hX3 : w2.heap.size < w3.heap.size := hXf3.lt) | (go_at_call_of 99 (Value.slice P g.prio.length pc); refine (Hc2.out _ hR3a).mono ?_; rintro e w4 ⟨u4, rfl, ho4, hb4⟩; (obtain ⟨A4, c4, e4, _⟩ := ho4.ints.form); (subst e4); (have hR4 := hR3a.trans (hb4.mono hR3a.size)); (have hXf4 := hN3.below hb4 hN3.lt); (have hXo : ∀ b, (Value.slice A3 g.arena.owner.length c3).ownBlock = some b → b ≠ w3.heap.size := fun b hb e => by have := (ho3.lt b hb).2; omega); (have hXp : ∀ b, (Value.slice A4 g.prio.length c4).ownBlock = some b → b ≠ w3.heap.size := fun b hb e => by have h1 := (ho4.lt b hb).1; have h2 := hN3.lt; omega); (have hb34 : Below w3.heap.size w3 w4 := ((Below.refl _ _).alloc (Nat.le_refl _) _).trans (hb4.mono (by simp))); (have ho4w := ho4.more (B' := w3.heap.size) (by simp)); (have q0 := hXf4.c0; have q1 := hXf4.c1; have q2 := hXf4.c2; have q3 := hXf4.frozen 0; have q4 := hXf4.frozen 1; have q5 := hXf4.frozen 2)) | (have t := hXf3; go_at_call_of 99 (Value.slice P g.prio.length pc); refine (Hc2.out w3 hR3).mono ?_; rintro e w4 ⟨u4, rfl, ho4, hb4⟩; (obtain ⟨A4, c4, e4, _⟩ := ho4.ints.form); (subst e4); (have hR4 := hR3.trans (hb4.mono hR3.size)); (have hXf4 := hXf3.below hb4 hX3); (have hXo : ∀ b, (Value.slice A3 g.arena.owner.length c3).ownBlock = some b → b ≠ w2.heap.size := fun b hb e => by have := (ho3.lt b hb).1; omega); (have hXp : ∀ b, (Value.slice A4 g.prio.length c4).ownBlock = some b → b ≠ w2.heap.size := fun b hb e => by have := (ho4.lt b hb).1; omega); (have hb34 := hb4); (have ho4w := ho4); have q0 := hXf4.c0; have q1 := hXf4.c1; have q2 := hXf4.c2; have q3 := hXf4.frozen 0; have q4 := hXf4.frozen 1; have q5 := hXf4.frozen 2) | (go_at_call_of 99 (Value.slice P g.prio.length pc); refine (Hc2.out w3 hR3).mono ?_; rintro e w4 ⟨u4, rfl, ho4, hb4⟩; obtain ⟨A4, c4, e4, _⟩ := ho4.ints.form; subst e4; have hR4 := hR3.trans (hb4.mono hR3.size); have hb34 := hb4; have ho4w := ho4))
      · have hX0 : Arr (w4.alloc (.cells #[.slice A3 g.arena.owner.length c3, .slice none 0 0, .slice A4 g.prio.length c4] 42)) w4.heap.size 42 [.slice A3 g.arena.owner.length c3, .slice none 0 0, .slice A4 g.prio.length c4] := Arr.new _ _ _
        have hbn := (Below.refl w4.heap.size w4).alloc (Nat.le_refl _) (.cells #[.slice A3 g.arena.owner.length c3, .slice none 0 0, .slice A4 g.prio.length c4] 42)
        have hoi := (OI.of ho3).below (hb4.trans (hbn.mono hb4.size))
        have hpi0 := (OI.of ho4).below hbn
        have hXo : ∀ b, (Value.slice A3 g.arena.owner.length c3).ownBlock = some b → b ≠ w4.heap.size := fun b hb => by have h1 := (ho3.lt b hb).2; have h2 := hb4.size; omega
        have hXp : ∀ b, (Value.slice A4 g.prio.length c4).ownBlock = some b → b ≠ w4.heap.size := fun b hb => by have h1 := (ho4.lt b hb).2; omega
        have hbA := hR4.trans (hbn.mono hR4.size)
        have hpi := hpi0.mono (Nat.le_refl _) hbn.size
        have hs3 : w3.heap.size ≤ (w4.alloc (.cells #[.slice A3 g.arena.owner.length c3, .slice none 0 0, .slice A4 g.prio.length c4] 42)).heap.size := Nat.le_trans hb4.size hbn.size
        have hX2 : w2.heap.size ≤ w4.heap.size := hR4.size
        have hw2 := hB.lt
        clear HS Hc1 Hc2
        have hXM0 := hX0.lt
        have hs23 := hR3.size
        clear hBc0 hBc1 hBc2 hRc0 hRc1 hRc2 hBz hRz
        replace hB := hB.below hbA hB.lt
        replace hR := hR.below hbA hR.lt
        replace hbw := Below.up hbw hbA
        have hbAs := hbA.size
        clear hbA
        have hBz := hB.lt
        have hBc0 := hB.c0
        have hBc1 := hB.c1
        have hBc2 := hB.c2
        have hRz := hR.lt
        have hRc0 := hR.c0
        have hRc1 := hR.c1
        have hRc2 := hR.c2
        clear hBc0 hBc1 hBc2 hRc0 hRc1 hRc2 hBz hRz
        go_wp2
        generalize (w4.alloc (.cells #[.slice A3 g.arena.owner.length c3, .slice none 0 0, .slice A4 g.prio.length c4] 42)) = w5 at *
        obtain ⟨M, hM⟩ : ∃ M, w5.heap.size = M := ⟨_, rfl⟩
        have hMle : M ≤ w5.heap.size := Nat.le_of_eq hM.symm
        have hXM : w4.heap.size < M := hM ▸ hXM0
        have hrows := nil_rows w5 M w5.heap.size
        rw [hM] at hpi hs3
        obtain ⟨X, hX'⟩ : ∃ X, w4.heap.size = X := ⟨_, rfl⟩
        rw [hX'] at hX0 hXo hXp hXM hX2 ⊢
        clear hXM0 hX'
        have Hall := Lib.hid (show (fixTo g.arena l g.arena.next.length).take g.arena.next.length = fixTo g.arena l g.arena.next.length from List.take_of_length_le (by simp))
        go_loopw [7] (fun i wr => ∃ (k : Nat) (nv : Value) (vs : List Value), k ≤ l.length ∧ M ≤ wr.heap.size ∧ i = .int .i64 k ∧ Arr wr w.heap.size 42 [.slice A g.arena.owner.length c, .slice A' g.arena.next.length c', .slice P g.prio.length pc] ∧ Arr wr (w.heap.size + 1) 42 [.slice none 0 0, .slice none 0 0, .slice none 0 0] ∧ Arr wr X 42 [.slice A3 g.arena.owner.length c3, nv, .slice A4 g.prio.length c4] ∧ OI wr w2.heap.size w3.heap.size (.slice A3 g.arena.owner.length c3) g.arena.owner ∧ OI wr w3.heap.size M (.slice A4 g.prio.length c4) g.prio ∧ RowsV wr M wr.heap.size nv vs ((fixTo g.arena l g.arena.next.length).take k) ∧ Below w.heap.size w wr) (fun i _ => l.length - (intOf i).toNat)
        case atStart => exact ⟨0, _, [], Nat.zero_le _, hMle, rfl, hB, hR, hX0, hoi, hpi, hrows, hbw⟩
        case round =>
          obtain ⟨k, nv, vs, hk, hMr, rfl, hB, hR, hX, hoi, hpi, hrw, hbw⟩ := hrel
          have hXlt := hX.lt
          by_cases hlt : k < l.length
          · have hkn : k < g.arena.next.length := by rw [← Hln.out]; exact hlt
            obtain ⟨N, nc, en, _⟩ := hrw.rows.form
            have hlk : ((fixTo g.arena l g.arena.next.length).take k).length = k := by simp; omega
            rw [hlk] at en
            have Hlk := Lib.hid hlk
            have hlen : ((fixTo g.arena l g.arena.next.length).take k).length ≤ 1099511627776 := by rw [hlk]; omega
            clear hlk
            subst en
            have hXc1 := hX.c1
            have hBc1 := hB.c1
            obtain ⟨a2, R, r, ea, hc2, hrow⟩ := ((hn.kept (Kept.of hbw))).at_ hkn
            subst ea
            obtain ⟨a1, ea, hc1⟩ := ((hu.kept (Kept.of hbw))).at_ hlt
            subst ea
            have hkn' : (k : Int) < g.arena.next.length := by omega
            have hkl' : (k : Int) < l.length := by omega
            have hd16 := hdeg.out k hkn
            have Hs := Lib.hid (show (fixTo g.arena l g.arena.next.length).take (k + 1) = (fixTo g.arena l g.arena.next.length).take k ++ [fixAt g.arena l k] by rw [rx_snoc (by simpa using hkn), rx_fixTo hkn, if_pos hkn])
            go_wp2_with fail
            refine (l1Copy_any _ (rx g.arena.next k) _ hrow (by omega)).mono ?_
            rintro e w5 ⟨u5, rfl, ho5, hb5⟩
            obtain ⟨A5, c5, e5, _⟩ := ho5.ints.form
            subst e5
            have hc15 := (Kept.of hb5).cell hc1
            have hs5 := hb5.size
            have hX5 := hX.below hb5 hX.lt
            have hX5c1 := hX5.c1
            clear hXc1 hBc1 hc2 hc1
            by_cases e : 0 ≤ ix l k
            · have hX5a := (hX5.alloc (.cells #[.int .i64 (ix l k)] 2)).c1
              have hbn6 := (Below.refl w5.heap.size w5).alloc (Nat.le_refl _) (.cells #[.int .i64 (ix l k)] 2)
              have hb6 : Below wr.heap.size wr (w5.alloc (.cells #[.int .i64 (ix l k)] 2)) := Below.up hb5 hbn6
              have hyo : OwnInts (w5.alloc (.cells #[.int .i64 (ix l k)] 2)) wr.heap.size (.slice (some ⟨w5.heap.size, 0, none⟩) 1 1) [ix l k] := IArr.own (ione_new w5 (ix l k)) hb5.size (by simp)
              have Hat := Lib.hid (show fixAt g.arena l k = [ix l k] by unfold fixAt; rw [if_pos e])
              have hrw6 := hrw.kept (Only.of_below (B := wr.heap.size) (C := wr.heap.size) hb6) (.inl (Nat.le_refl _))
              have hs6 := hb6.size
              go_wp2_with (at_builtin; refine append_oneH elem_rows (w5.alloc (.cells #[.int .i64 (ix l k)] 2)) rfl (.tmp 53) (.tmp 55) rfl M (.slice N k nc) _ vs rfl hrw6.own (.slice (some ⟨w5.heap.size, 0, none⟩) 1 1) rfl (w5.heap.size + 1) (by simp) rfl (by omega) (by omega) ?_; intro v7 w7 ho7 hg7 hl7; have hbX : Below M wr w7 := (hb6.mono (by omega)).grown hg7 (by omega) (fun b hb => (hrw6.own.lt b hb).1); have hX7 := hX.below hbX hXM; have q5 := hX7.c1; have q6 := hX7.frozen 1; obtain ⟨A7, c7, e7, _⟩ := SlF.of_own ho7; rw [Hlk.out] at e7; subst e7)
              have hB7 := (hB.below hbX (by omega)).far (p := ⟨X, 1, none⟩) (by simp; omega) (.slice A7 (k + 1) c7)
              have hR7 := (hR.below hbX (by omega)).far (p := ⟨X, 1, none⟩) (by simp; omega) (.slice A7 (k + 1) c7)
              have hX8 := hX7.set_ 1 (.slice A7 (k + 1) c7)
              have hoi7 := (hoi.heap fun b hb => hbX.block b (by have := hoi.2 b hb; omega)).heap (w' := w7.setCell ⟨X, 1, none⟩ (.slice A7 (k + 1) c7)) fun b hb => Below.heap_setCell _ _ _ _ (by have := hXo b hb; simp; omega)
              have hpi7 := (hpi.heap fun b hb => hbX.block b (by have := hpi.2 b hb; omega)).heap (w' := w7.setCell ⟨X, 1, none⟩ (.slice A7 (k + 1) c7)) fun b hb => Below.heap_setCell _ _ _ _ (by have := hXp b hb; simp; omega)
              have hnew : OI (w5.alloc (.cells #[.int .i64 (ix l k)] 2)) M (w5.alloc (.cells #[.int .i64 (ix l k)] 2)).heap.size (.slice (some ⟨w5.heap.size, 0, none⟩) 1 1) [ix l k] := ⟨hyo.more (by omega), fun b hb => (hyo.lt b hb).2⟩
              have hne : ∀ j, j < ((fixTo g.arena l g.arena.next.length).take k).length → ∀ b, (vx vs j).ownBlock = some b → ((.slice (some ⟨w5.heap.size, 0, none⟩) 1 1) : Value).ownBlock ≠ some b := fun j hj b hb e2 => by have h3 := (hrw6.row j hj).2 b hb; have h4 := (hyo.lt b e2).1; omega
              have hrw7 := RowsV.snoc (hrw6.mono (Nat.le_refl _) (C' := (w5.alloc (.cells #[.int .i64 (ix l k)] 2)).heap.size) hs6) hnew hne ho7 hg7 hg7.size (Nat.le_refl _)
              have hrw8 := hrw7.heap (w' := w7.setCell ⟨X, 1, none⟩ (.slice A7 (k + 1) c7)) (fun b hb => Below.heap_setCell _ _ _ _ (by have := (hrw7.own.lt b hb).1; simp; omega)) (fun j hj b hb => Below.heap_setCell _ _ _ _ (by have := ((hrw7.row j hj).1.lt b hb).1; simp; omega))
              have hbw8 : Below w.heap.size w (w7.setCell ⟨X, 1, none⟩ (.slice A7 (k + 1) c7)) := (hbw.trans (hbX.mono (by omega))).setCell (by simp; omega) _
              have hbXs := hbX.size
              have Hsz8 := Lib.hid (show (w7.setCell ⟨X, 1, none⟩ (.slice A7 (k + 1) c7)).heap.size = w7.heap.size by simp)
              exact ⟨⟨k + 1, _, _, by omega, by rw [Hsz8.out]; omega, by go_num, hB7, hR7, hX8, hoi7, hpi7, by rw [Hs.out, Hat.out, Hsz8.out]; exact hrw8, hbw8⟩, by simp [intOf]; omega⟩
            · skip
              have hb6 := hb5
              have hyo := ho5
              have Hat := Lib.hid (show fixAt g.arena l k = rx g.arena.next k by unfold fixAt; rw [if_neg e])
              have hrw6 := hrw.kept (Only.of_below (B := wr.heap.size) (C := wr.heap.size) hb6) (.inl (Nat.le_refl _))
              have hs6 := hb6.size
              go_wp2_with (at_builtin; refine append_one elem_rows w5 rfl (.tmp 53) (.tmp 55) rfl M (.slice N k nc) _ vs rfl hrw6.own (.slice A5 (rx g.arena.next k).length c5) rfl rfl (by omega) (by omega) ?_; intro v7 w7 ho7 hg7 hl7; have hbX : Below M wr w7 := (hb6.mono (by omega)).grown hg7 (by omega) (fun b hb => (hrw6.own.lt b hb).1); have hX7 := hX.below hbX hXM; have q5 := hX7.c1; have q6 := hX7.frozen 1; obtain ⟨A7, c7, e7, _⟩ := SlF.of_own ho7; rw [Hlk.out] at e7; subst e7)
              have hB7 := (hB.below hbX (by omega)).far (p := ⟨X, 1, none⟩) (by simp; omega) (.slice A7 (k + 1) c7)
              have hR7 := (hR.below hbX (by omega)).far (p := ⟨X, 1, none⟩) (by simp; omega) (.slice A7 (k + 1) c7)
              have hX8 := hX7.set_ 1 (.slice A7 (k + 1) c7)
              have hoi7 := (hoi.heap fun b hb => hbX.block b (by have := hoi.2 b hb; omega)).heap (w' := w7.setCell ⟨X, 1, none⟩ (.slice A7 (k + 1) c7)) fun b hb => Below.heap_setCell _ _ _ _ (by have := hXo b hb; simp; omega)
              have hpi7 := (hpi.heap fun b hb => hbX.block b (by have := hpi.2 b hb; omega)).heap (w' := w7.setCell ⟨X, 1, none⟩ (.slice A7 (k + 1) c7)) fun b hb => Below.heap_setCell _ _ _ _ (by have := hXp b hb; simp; omega)
              have hnew : OI w5 M w5.heap.size (.slice A5 (rx g.arena.next k).length c5) (rx g.arena.next k) := ⟨hyo.more (by omega), fun b hb => (hyo.lt b hb).2⟩
              have hne : ∀ j, j < ((fixTo g.arena l g.arena.next.length).take k).length → ∀ b, (vx vs j).ownBlock = some b → ((.slice A5 (rx g.arena.next k).length c5) : Value).ownBlock ≠ some b := fun j hj b hb e2 => by have h3 := (hrw6.row j hj).2 b hb; have h4 := (hyo.lt b e2).1; omega
              have hrw7 := RowsV.snoc (hrw6.mono (Nat.le_refl _) (C' := w5.heap.size) hs6) hnew hne ho7 hg7 hg7.size (Nat.le_refl _)
              have hrw8 := hrw7.heap (w' := w7.setCell ⟨X, 1, none⟩ (.slice A7 (k + 1) c7)) (fun b hb => Below.heap_setCell _ _ _ _ (by have := (hrw7.own.lt b hb).1; simp; omega)) (fun j hj b hb => Below.heap_setCell _ _ _ _ (by have := ((hrw7.row j hj).1.lt b hb).1; simp; omega))
              have hbw8 : Below w.heap.size w (w7.setCell ⟨X, 1, none⟩ (.slice A7 (k + 1) c7)) := (hbw.trans (hbX.mono (by omega))).setCell (by simp; omega) _
              have hbXs := hbX.size
              have Hsz8 := Lib.hid (show (w7.setCell ⟨X, 1, none⟩ (.slice A7 (k + 1) c7)).heap.size = w7.heap.size by simp)
              exact ⟨⟨k + 1, _, _, by omega, by rw [Hsz8.out]; omega, by go_num, hB7, hR7, hX8, hoi7, hpi7, by rw [Hs.out, Hat.out, Hsz8.out]; exact hrw8, hbw8⟩, by simp [intOf]; omega⟩
          · obtain rfl : k = l.length := by omega
            have hrw' : RowsV wr M wr.heap.size nv vs (fixTo g.arena l g.arena.next.length) := by rw [Hln.out, Hall.out] at hrw; exact hrw
            clear hrw
            obtain ⟨N, nc, en, _⟩ := hrw'.rows.form
            rw [length_fixTo] at en
            subst en
            have hXc0 := hX.c0
            have hXc1 := hX.c1
            have hXc2 := hX.c2
            have hRc0 := hR.c0
            have hRc1 := hR.c1
            have hRc2 := hR.c2
            have hRf0 := hR.frozen 0
            have hRf1 := hR.frozen 1
            have hRf2 := hR.frozen 2
            go_wp2
            have hop : OP wr w2.heap.size wr.heap.size (.agg #[.slice A3 g.arena.owner.length c3, .slice N g.arena.next.length nc, .slice A4 g.prio.length c4]) (onlyP g l) :=
              ⟨_, _, _, vs, rfl, hoi.mono (Nat.le_refl _) (by omega), hrw'.mono (by omega) (Nat.le_refl _), hpi.mono (by omega) (by omega),
                fun b hb j hj e => by have h1 := hoi.2 b hb; have h2 := ((hrw'.row j (by simpa [onlyP, fixA] using hj)).1.lt b e).1; omega,
                fun b hb e => by have h1 := (hpi.1.lt b hb).1; have h2 := hoi.2 b e; omega,
                fun b hb j hj e => by have h1 := hpi.2 b hb; have h2 := ((hrw'.row j (by simpa [onlyP, fixA] using hj)).1.lt b e).1; omega⟩
            have hR6 := ((hR.set_ 0 (.slice A3 g.arena.owner.length c3)).set_ 1 (.slice N g.arena.next.length nc)).set_ 2 (.slice A4 g.prio.length c4)
            have hbw6 : Below w.heap.size w (((wr.setCell ⟨w.heap.size + 1, 0, none⟩ (.slice A3 g.arena.owner.length c3)).setCell ⟨w.heap.size + 1, 1, none⟩ (.slice N g.arena.next.length nc)).setCell ⟨w.heap.size + 1, 2, none⟩ (.slice A4 g.prio.length c4)) := ((hbw.setCell (by simp) _).setCell (by simp) _).setCell (by simp) _
            have hcb : ∀ b, w2.heap.size ≤ b → (((wr.setCell ⟨w.heap.size + 1, 0, none⟩ (.slice A3 g.arena.owner.length c3)).setCell ⟨w.heap.size + 1, 1, none⟩ (.slice N g.arena.next.length nc)).setCell ⟨w.heap.size + 1, 2, none⟩ (.slice A4 g.prio.length c4)).heap[b]? = wr.heap[b]? := fun b hb => by
              rw [Below.heap_setCell _ _ _ _ (by simp; omega), Below.heap_setCell _ _ _ _ (by simp; omega), Below.heap_setCell _ _ _ _ (by simp; omega)]
            have hsz : (((wr.setCell ⟨w.heap.size + 1, 0, none⟩ (.slice A3 g.arena.owner.length c3)).setCell ⟨w.heap.size + 1, 1, none⟩ (.slice N g.arena.next.length nc)).setCell ⟨w.heap.size + 1, 2, none⟩ (.slice A4 g.prio.length c4)).heap.size = wr.heap.size := by simp
            generalize ((wr.setCell ⟨w.heap.size + 1, 0, none⟩ (.slice A3 g.arena.owner.length c3)).setCell ⟨w.heap.size + 1, 1, none⟩ (.slice N g.arena.next.length nc)).setCell ⟨w.heap.size + 1, 2, none⟩ (.slice A4 g.prio.length c4) = w6 at *
            have q0 := hR6.c0
            have q1 := hR6.c1
            have q2 := hR6.c2
            refine bodyPost_ret (v := .tuple #[.agg #[.slice A3 g.arena.owner.length c3, .slice N g.arena.next.length nc, .slice A4 g.prio.length c4], .bool true]) (by simp [results, Try.results50, go_sem, q0, q1, q2]) rfl ?_
            exact .mk' ((hop.heapFrom hcb).mono (by omega) (by omega)) hbw6
      · have hX0 := ((hXf4.set_ 0 (.slice A3 g.arena.owner.length c3)).set_ 1 (.slice none 0 0)).set_ 2 (.slice A4 g.prio.length c4)
        have hhp : ∀ b, b ≠ w3.heap.size → (((w4.setCell ⟨w3.heap.size, 0, none⟩ (.slice A3 g.arena.owner.length c3)).setCell ⟨w3.heap.size, 1, none⟩ (.slice none 0 0)).setCell ⟨w3.heap.size, 2, none⟩ (.slice A4 g.prio.length c4)).heap[b]? = w4.heap[b]? := fun b hb => by rw [Below.heap_setCell _ _ _ _ (by simp; omega), Below.heap_setCell _ _ _ _ (by simp; omega), Below.heap_setCell _ _ _ _ (by simp; omega)]
        have hsz4 : (((w4.setCell ⟨w3.heap.size, 0, none⟩ (.slice A3 g.arena.owner.length c3)).setCell ⟨w3.heap.size, 1, none⟩ (.slice none 0 0)).setCell ⟨w3.heap.size, 2, none⟩ (.slice A4 g.prio.length c4)).heap.size = w4.heap.size := by simp
        have hoi := ((OI.of ho3).below hb34).heap (fun b hb => hhp b (hXo b hb))
        have hpi0 := (OI.of ho4w).heap (fun b hb => hhp b (hXp b hb))
        have hbA : Below w2.heap.size w2 (((w4.setCell ⟨w3.heap.size, 0, none⟩ (.slice A3 g.arena.owner.length c3)).setCell ⟨w3.heap.size, 1, none⟩ (.slice none 0 0)).setCell ⟨w3.heap.size, 2, none⟩ (.slice A4 g.prio.length c4)) := ((hR4.setCell hR3.size _).setCell hR3.size _).setCell hR3.size _
        have hpi := hpi0.mono (Nat.le_refl _) (Nat.le_of_eq hsz4.symm)
        have hs3 : w3.heap.size ≤ (((w4.setCell ⟨w3.heap.size, 0, none⟩ (.slice A3 g.arena.owner.length c3)).setCell ⟨w3.heap.size, 1, none⟩ (.slice none 0 0)).setCell ⟨w3.heap.size, 2, none⟩ (.slice A4 g.prio.length c4)).heap.size := Nat.le_trans hb34.size (Nat.le_of_eq hsz4.symm)
        have hX2 : w2.heap.size ≤ w3.heap.size := hR3.size
        have hw2 := hB.lt
        clear HS Hc1 Hc2
        have hXM0 := hX0.lt
        have hs23 := hR3.size
        clear hBc0 hBc1 hBc2 hRc0 hRc1 hRc2 hBz hRz
        replace hB := hB.below hbA hB.lt
        replace hR := hR.below hbA hR.lt
        replace hbw := Below.up hbw hbA
        have hbAs := hbA.size
        clear hbA
        have hBz := hB.lt
        have hBc0 := hB.c0
        have hBc1 := hB.c1
        have hBc2 := hB.c2
        have hRz := hR.lt
        have hRc0 := hR.c0
        have hRc1 := hR.c1
        have hRc2 := hR.c2
        clear hBc0 hBc1 hBc2 hRc0 hRc1 hRc2 hBz hRz
        go_wp2
        generalize (((w4.setCell ⟨w3.heap.size, 0, none⟩ (.slice A3 g.arena.owner.length c3)).setCell ⟨w3.heap.size, 1, none⟩ (.slice none 0 0)).setCell ⟨w3.heap.size, 2, none⟩ (.slice A4 g.prio.length c4)) = w5 at *
        obtain ⟨M, hM⟩ : ∃ M, w5.heap.size = M := ⟨_, rfl⟩
        have hMle : M ≤ w5.heap.size := Nat.le_of_eq hM.symm
        have hXM : w3.heap.size < M := hM ▸ hXM0
        have hrows := nil_rows w5 M w5.heap.size
        rw [hM] at hpi hs3
        obtain ⟨X, hX'⟩ : ∃ X, w3.heap.size = X := ⟨_, rfl⟩
        rw [hX'] at hX0 hXo hXp hXM hX2 ⊢
        clear hXM0 hX'
        have Hall := Lib.hid (show (fixTo g.arena l g.arena.next.length).take g.arena.next.length = fixTo g.arena l g.arena.next.length from List.take_of_length_le (by simp))
        go_loopw [7] (fun i wr => ∃ (k : Nat) (nv : Value) (vs : List Value), k ≤ l.length ∧ M ≤ wr.heap.size ∧ i = .int .i64 k ∧ Arr wr w.heap.size 42 [.slice A g.arena.owner.length c, .slice A' g.arena.next.length c', .slice P g.prio.length pc] ∧ Arr wr (w.heap.size + 1) 42 [.slice none 0 0, .slice none 0 0, .slice none 0 0] ∧ Arr wr X 42 [.slice A3 g.arena.owner.length c3, nv, .slice A4 g.prio.length c4] ∧ OI wr w2.heap.size w3.heap.size (.slice A3 g.arena.owner.length c3) g.arena.owner ∧ OI wr w3.heap.size M (.slice A4 g.prio.length c4) g.prio ∧ RowsV wr M wr.heap.size nv vs ((fixTo g.arena l g.arena.next.length).take k) ∧ Below w.heap.size w wr) (fun i _ => l.length - (intOf i).toNat)
        case atStart => exact ⟨0, _, [], Nat.zero_le _, hMle, rfl, hB, hR, hX0, hoi, hpi, hrows, hbw⟩
        case round =>
          obtain ⟨k, nv, vs, hk, hMr, rfl, hB, hR, hX, hoi, hpi, hrw, hbw⟩ := hrel
          have hXlt := hX.lt
          by_cases hlt : k < l.length
          · have hkn : k < g.arena.next.length := by rw [← Hln.out]; exact hlt
            obtain ⟨N, nc, en, _⟩ := hrw.rows.form
            have hlk : ((fixTo g.arena l g.arena.next.length).take k).length = k := by simp; omega
            rw [hlk] at en
            have Hlk := Lib.hid hlk
            have hlen : ((fixTo g.arena l g.arena.next.length).take k).length ≤ 1099511627776 := by rw [hlk]; omega
            clear hlk
            subst en
            have hXc1 := hX.c1
            have hBc1 := hB.c1
            obtain ⟨a2, R, r, ea, hc2, hrow⟩ := ((hn.kept (Kept.of hbw))).at_ hkn
            subst ea
            obtain ⟨a1, ea, hc1⟩ := ((hu.kept (Kept.of hbw))).at_ hlt
            subst ea
            have hkn' : (k : Int) < g.arena.next.length := by omega
            have hkl' : (k : Int) < l.length := by omega
            have hd16 := hdeg.out k hkn
            have Hs := Lib.hid (show (fixTo g.arena l g.arena.next.length).take (k + 1) = (fixTo g.arena l g.arena.next.length).take k ++ [fixAt g.arena l k] by rw [rx_snoc (by simpa using hkn), rx_fixTo hkn, if_pos hkn])
            go_wp2_with fail
            refine (l1Copy_any _ (rx g.arena.next k) _ hrow (by omega)).mono ?_
            rintro e w5 ⟨u5, rfl, ho5, hb5⟩
            obtain ⟨A5, c5, e5, _⟩ := ho5.ints.form
            subst e5
            have hc15 := (Kept.of hb5).cell hc1
            have hs5 := hb5.size
            have hX5 := hX.below hb5 hX.lt
            have hX5c1 := hX5.c1
            clear hXc1 hBc1 hc2 hc1
            by_cases e : 0 ≤ ix l k
            · have hX5a := (hX5.alloc (.cells #[.int .i64 (ix l k)] 2)).c1
              have hbn6 := (Below.refl w5.heap.size w5).alloc (Nat.le_refl _) (.cells #[.int .i64 (ix l k)] 2)
              have hb6 : Below wr.heap.size wr (w5.alloc (.cells #[.int .i64 (ix l k)] 2)) := Below.up hb5 hbn6
              have hyo : OwnInts (w5.alloc (.cells #[.int .i64 (ix l k)] 2)) wr.heap.size (.slice (some ⟨w5.heap.size, 0, none⟩) 1 1) [ix l k] := IArr.own (ione_new w5 (ix l k)) hb5.size (by simp)
              have Hat := Lib.hid (show fixAt g.arena l k = [ix l k] by unfold fixAt; rw [if_pos e])
              have hrw6 := hrw.kept (Only.of_below (B := wr.heap.size) (C := wr.heap.size) hb6) (.inl (Nat.le_refl _))
              have hs6 := hb6.size
              go_wp2_with (at_builtin; refine append_oneH elem_rows (w5.alloc (.cells #[.int .i64 (ix l k)] 2)) rfl (.tmp 53) (.tmp 55) rfl M (.slice N k nc) _ vs rfl hrw6.own (.slice (some ⟨w5.heap.size, 0, none⟩) 1 1) rfl (w5.heap.size + 1) (by simp) rfl (by omega) (by omega) ?_; intro v7 w7 ho7 hg7 hl7; have hbX : Below M wr w7 := (hb6.mono (by omega)).grown hg7 (by omega) (fun b hb => (hrw6.own.lt b hb).1); have hX7 := hX.below hbX hXM; have q5 := hX7.c1; have q6 := hX7.frozen 1; obtain ⟨A7, c7, e7, _⟩ := SlF.of_own ho7; rw [Hlk.out] at e7; subst e7)
              have hB7 := (hB.below hbX (by omega)).far (p := ⟨X, 1, none⟩) (by simp; omega) (.slice A7 (k + 1) c7)
              have hR7 := (hR.below hbX (by omega)).far (p := ⟨X, 1, none⟩) (by simp; omega) (.slice A7 (k + 1) c7)
              have hX8 := hX7.set_ 1 (.slice A7 (k + 1) c7)
              have hoi7 := (hoi.heap fun b hb => hbX.block b (by have := hoi.2 b hb; omega)).heap (w' := w7.setCell ⟨X, 1, none⟩ (.slice A7 (k + 1) c7)) fun b hb => Below.heap_setCell _ _ _ _ (by have := hXo b hb; simp; omega)
              have hpi7 := (hpi.heap fun b hb => hbX.block b (by have := hpi.2 b hb; omega)).heap (w' := w7.setCell ⟨X, 1, none⟩ (.slice A7 (k + 1) c7)) fun b hb => Below.heap_setCell _ _ _ _ (by have := hXp b hb; simp; omega)
              have hnew : OI (w5.alloc (.cells #[.int .i64 (ix l k)] 2)) M (w5.alloc (.cells #[.int .i64 (ix l k)] 2)).heap.size (.slice (some ⟨w5.heap.size, 0, none⟩) 1 1) [ix l k] := ⟨hyo.more (by omega), fun b hb => (hyo.lt b hb).2⟩
              have hne : ∀ j, j < ((fixTo g.arena l g.arena.next.length).take k).length → ∀ b, (vx vs j).ownBlock = some b → ((.slice (some ⟨w5.heap.size, 0, none⟩) 1 1) : Value).ownBlock ≠ some b := fun j hj b hb e2 => by have h3 := (hrw6.row j hj).2 b hb; have h4 := (hyo.lt b e2).1; omega
              have hrw7 := RowsV.snoc (hrw6.mono (Nat.le_refl _) (C' := (w5.alloc (.cells #[.int .i64 (ix l k)] 2)).heap.size) hs6) hnew hne ho7 hg7 hg7.size (Nat.le_refl _)
              have hrw8 := hrw7.heap (w' := w7.setCell ⟨X, 1, none⟩ (.slice A7 (k + 1) c7)) (fun b hb => Below.heap_setCell _ _ _ _ (by have := (hrw7.own.lt b hb).1; simp; omega)) (fun j hj b hb => Below.heap_setCell _ _ _ _ (by have := ((hrw7.row j hj).1.lt b hb).1; simp; omega))
              have hbw8 : Below w.heap.size w (w7.setCell ⟨X, 1, none⟩ (.slice A7 (k + 1) c7)) := (hbw.trans (hbX.mono (by omega))).setCell (by simp; omega) _
              have hbXs := hbX.size
              have Hsz8 := Lib.hid (show (w7.setCell ⟨X, 1, none⟩ (.slice A7 (k + 1) c7)).heap.size = w7.heap.size by simp)
              exact ⟨⟨k + 1, _, _, by omega, by rw [Hsz8.out]; omega, by go_num, hB7, hR7, hX8, hoi7, hpi7, by rw [Hs.out, Hat.out, Hsz8.out]; exact hrw8, hbw8⟩, by simp [intOf]; omega⟩
            · skip
              have hb6 := hb5
              have hyo := ho5
              have Hat := Lib.hid (show fixAt g.arena l k = rx g.arena.next k by unfold fixAt; rw [if_neg e])
              have hrw6 := hrw.kept (Only.of_below (B := wr.heap.size) (C := wr.heap.size) hb6) (.inl (Nat.le_refl _))
              have hs6 := hb6.size
              go_wp2_with (at_builtin; refine append_one elem_rows w5 rfl (.tmp 53) (.tmp 55) rfl M (.slice N k nc) _ vs rfl hrw6.own (.slice A5 (rx g.arena.next k).length c5) rfl rfl (by omega) (by omega) ?_; intro v7 w7 ho7 hg7 hl7; have hbX : Below M wr w7 := (hb6.mono (by omega)).grown hg7 (by omega) (fun b hb => (hrw6.own.lt b hb).1); have hX7 := hX.below hbX hXM; have q5 := hX7.c1; have q6 := hX7.frozen 1; obtain ⟨A7, c7, e7, _⟩ := SlF.of_own ho7; rw [Hlk.out] at e7; subst e7)
              have hB7 := (hB.below hbX (by omega)).far (p := ⟨X, 1, none⟩) (by simp; omega) (.slice A7 (k + 1) c7)
              have hR7 := (hR.below hbX (by omega)).far (p := ⟨X, 1, none⟩) (by simp; omega) (.slice A7 (k + 1) c7)
              have hX8 := hX7.set_ 1 (.slice A7 (k + 1) c7)
              have hoi7 := (hoi.heap fun b hb => hbX.block b (by have := hoi.2 b hb; omega)).heap (w' := w7.setCell ⟨X, 1, none⟩ (.slice A7 (k + 1) c7)) fun b hb => Below.heap_setCell _ _ _ _ (by have := hXo b hb; simp; omega)
              have hpi7 := (hpi.heap fun b hb => hbX.block b (by have := hpi.2 b hb; omega)).heap (w' := w7.setCell ⟨X, 1, none⟩ (.slice A7 (k + 1) c7)) fun b hb => Below.heap_setCell _ _ _ _ (by have := hXp b hb; simp; omega)
              have hnew : OI w5 M w5.heap.size (.slice A5 (rx g.arena.next k).length c5) (rx g.arena.next k) := ⟨hyo.more (by omega), fun b hb => (hyo.lt b hb).2⟩
              have hne : ∀ j, j < ((fixTo g.arena l g.arena.next.length).take k).length → ∀ b, (vx vs j).ownBlock = some b → ((.slice A5 (rx g.arena.next k).length c5) : Value).ownBlock ≠ some b := fun j hj b hb e2 => by have h3 := (hrw6.row j hj).2 b hb; have h4 := (hyo.lt b e2).1; omega
              have hrw7 := RowsV.snoc (hrw6.mono (Nat.le_refl _) (C' := w5.heap.size) hs6) hnew hne ho7 hg7 hg7.size (Nat.le_refl _)
              have hrw8 := hrw7.heap (w' := w7.setCell ⟨X, 1, none⟩ (.slice A7 (k + 1) c7)) (fun b hb => Below.heap_setCell _ _ _ _ (by have := (hrw7.own.lt b hb).1; simp; omega)) (fun j hj b hb => Below.heap_setCell _ _ _ _ (by have := ((hrw7.row j hj).1.lt b hb).1; simp; omega))
              have hbw8 : Below w.heap.size w (w7.setCell ⟨X, 1, none⟩ (.slice A7 (k + 1) c7)) := (hbw.trans (hbX.mono (by omega))).setCell (by simp; omega) _
              have hbXs := hbX.size
              have Hsz8 := Lib.hid (show (w7.setCell ⟨X, 1, none⟩ (.slice A7 (k + 1) c7)).heap.size = w7.heap.size by simp)
              exact ⟨⟨k + 1, _, _, by omega, by rw [Hsz8.out]; omega, by go_num, hB7, hR7, hX8, hoi7, hpi7, by rw [Hs.out, Hat.out, Hsz8.out]; exact hrw8, hbw8⟩, by simp [intOf]; omega⟩
          · obtain rfl : k = l.length := by omega
            have hrw' : RowsV wr M wr.heap.size nv vs (fixTo g.arena l g.arena.next.length) := by rw [Hln.out, Hall.out] at hrw; exact hrw
            clear hrw
            obtain ⟨N, nc, en, _⟩ := hrw'.rows.form
            rw [length_fixTo] at en
            subst en
            have hXc0 := hX.c0
            have hXc1 := hX.c1
            have hXc2 := hX.c2
            have hRc0 := hR.c0
            have hRc1 := hR.c1
            have hRc2 := hR.c2
            have hRf0 := hR.frozen 0
            have hRf1 := hR.frozen 1
            have hRf2 := hR.frozen 2
            go_wp2
            have hop : OP wr w2.heap.size wr.heap.size (.agg #[.slice A3 g.arena.owner.length c3, .slice N g.arena.next.length nc, .slice A4 g.prio.length c4]) (onlyP g l) :=
              ⟨_, _, _, vs, rfl, hoi.mono (Nat.le_refl _) (by omega), hrw'.mono (by omega) (Nat.le_refl _), hpi.mono (by omega) (by omega),
                fun b hb j hj e => by have h1 := hoi.2 b hb; have h2 := ((hrw'.row j (by simpa [onlyP, fixA] using hj)).1.lt b e).1; omega,
                fun b hb e => by have h1 := (hpi.1.lt b hb).1; have h2 := hoi.2 b e; omega,
                fun b hb j hj e => by have h1 := hpi.2 b hb; have h2 := ((hrw'.row j (by simpa [onlyP, fixA] using hj)).1.lt b e).1; omega⟩
            have hR6 := ((hR.set_ 0 (.slice A3 g.arena.owner.length c3)).set_ 1 (.slice N g.arena.next.length nc)).set_ 2 (.slice A4 g.prio.length c4)
            have hbw6 : Below w.heap.size w (((wr.setCell ⟨w.heap.size + 1, 0, none⟩ (.slice A3 g.arena.owner.length c3)).setCell ⟨w.heap.size + 1, 1, none⟩ (.slice N g.arena.next.length nc)).setCell ⟨w.heap.size + 1, 2, none⟩ (.slice A4 g.prio.length c4)) := ((hbw.setCell (by simp) _).setCell (by simp) _).setCell (by simp) _
            have hcb : ∀ b, w2.heap.size ≤ b → (((wr.setCell ⟨w.heap.size + 1, 0, none⟩ (.slice A3 g.arena.owner.length c3)).setCell ⟨w.heap.size + 1, 1, none⟩ (.slice N g.arena.next.length nc)).setCell ⟨w.heap.size + 1, 2, none⟩ (.slice A4 g.prio.length c4)).heap[b]? = wr.heap[b]? := fun b hb => by
              rw [Below.heap_setCell _ _ _ _ (by simp; omega), Below.heap_setCell _ _ _ _ (by simp; omega), Below.heap_setCell _ _ _ _ (by simp; omega)]
            have hsz : (((wr.setCell ⟨w.heap.size + 1, 0, none⟩ (.slice A3 g.arena.owner.length c3)).setCell ⟨w.heap.size + 1, 1, none⟩ (.slice N g.arena.next.length nc)).setCell ⟨w.heap.size + 1, 2, none⟩ (.slice A4 g.prio.length c4)).heap.size = wr.heap.size := by simp
            generalize ((wr.setCell ⟨w.heap.size + 1, 0, none⟩ (.slice A3 g.arena.owner.length c3)).setCell ⟨w.heap.size + 1, 1, none⟩ (.slice N g.arena.next.length nc)).setCell ⟨w.heap.size + 1, 2, none⟩ (.slice A4 g.prio.length c4) = w6 at *
            have q0 := hR6.c0
            have q1 := hR6.c1
            have q2 := hR6.c2
            refine bodyPost_ret (v := .tuple #[.agg #[.slice A3 g.arena.owner.length c3, .slice N g.arena.next.length nc, .slice A4 g.prio.length c4], .bool true]) (by simp [results, Try.results50, go_sem, q0, q1, q2]) rfl ?_
            exact .mk' ((hop.heapFrom hcb).mono (by omega) (by omega)) hbw6
      · have hX0 := ((hXf4.set_ 0 (.slice A3 g.arena.owner.length c3)).set_ 1 (.slice none 0 0)).set_ 2 (.slice A4 g.prio.length c4)
        have hhp : ∀ b, b ≠ w2.heap.size → (((w4.setCell ⟨w2.heap.size, 0, none⟩ (.slice A3 g.arena.owner.length c3)).setCell ⟨w2.heap.size, 1, none⟩ (.slice none 0 0)).setCell ⟨w2.heap.size, 2, none⟩ (.slice A4 g.prio.length c4)).heap[b]? = w4.heap[b]? := fun b hb => by rw [Below.heap_setCell _ _ _ _ (by simp; omega), Below.heap_setCell _ _ _ _ (by simp; omega), Below.heap_setCell _ _ _ _ (by simp; omega)]
        have hsz4 : (((w4.setCell ⟨w2.heap.size, 0, none⟩ (.slice A3 g.arena.owner.length c3)).setCell ⟨w2.heap.size, 1, none⟩ (.slice none 0 0)).setCell ⟨w2.heap.size, 2, none⟩ (.slice A4 g.prio.length c4)).heap.size = w4.heap.size := by simp
        have hoi := ((OI.of ho3).below hb34).heap (fun b hb => hhp b (hXo b hb))
        have hpi0 := (OI.of ho4w).heap (fun b hb => hhp b (hXp b hb))
        have hbA : Below w2.heap.size w2 (((w4.setCell ⟨w2.heap.size, 0, none⟩ (.slice A3 g.arena.owner.length c3)).setCell ⟨w2.heap.size, 1, none⟩ (.slice none 0 0)).setCell ⟨w2.heap.size, 2, none⟩ (.slice A4 g.prio.length c4)) := ((hR4.setCell (Nat.le_refl _) _).setCell (Nat.le_refl _) _).setCell (Nat.le_refl _) _
        have hpi := hpi0.mono (Nat.le_refl _) (Nat.le_of_eq hsz4.symm)
        have hs3 : w3.heap.size ≤ (((w4.setCell ⟨w2.heap.size, 0, none⟩ (.slice A3 g.arena.owner.length c3)).setCell ⟨w2.heap.size, 1, none⟩ (.slice none 0 0)).setCell ⟨w2.heap.size, 2, none⟩ (.slice A4 g.prio.length c4)).heap.size := Nat.le_trans hb34.size (Nat.le_of_eq hsz4.symm)
        have hX2 : w2.heap.size ≤ w2.heap.size := (Nat.le_refl _)
        have hw2 := hB.lt
        clear HS Hc1 Hc2
        have hXM0 := hX0.lt
        have hs23 := hR3.size
        clear hBc0 hBc1 hBc2 hRc0 hRc1 hRc2 hBz hRz
        replace hB := hB.below hbA hB.lt
        replace hR := hR.below hbA hR.lt
        replace hbw := Below.up hbw hbA
        have hbAs := hbA.size
        clear hbA
        have hBz := hB.lt
        have hBc0 := hB.c0
        have hBc1 := hB.c1
        have hBc2 := hB.c2
        have hRz := hR.lt
        have hRc0 := hR.c0
        have hRc1 := hR.c1
        have hRc2 := hR.c2
        clear hBc0 hBc1 hBc2 hRc0 hRc1 hRc2 hBz hRz
        go_wp2
        generalize (((w4.setCell ⟨w2.heap.size, 0, none⟩ (.slice A3 g.arena.owner.length c3)).setCell ⟨w2.heap.size, 1, none⟩ (.slice none 0 0)).setCell ⟨w2.heap.size, 2, none⟩ (.slice A4 g.prio.length c4)) = w5 at *
        obtain ⟨M, hM⟩ : ∃ M, w5.heap.size = M := ⟨_, rfl⟩
        have hMle : M ≤ w5.heap.size := Nat.le_of_eq hM.symm
        have hXM : w2.heap.size < M := hM ▸ hXM0
        have hrows := nil_rows w5 M w5.heap.size
        rw [hM] at hpi hs3
        obtain ⟨X, hX'⟩ : ∃ X, w2.heap.size = X := ⟨_, rfl⟩
        have hX0 : Arr w5 X 42 [.slice A3 g.arena.owner.length c3, .slice none 0 0, .slice A4 g.prio.length c4] := hX' ▸ hX0
        replace hXo : ∀ b, (Value.slice A3 g.arena.owner.length c3).ownBlock = some b → b ≠ X := hX' ▸ hXo
        replace hXp : ∀ b, (Value.slice A4 g.prio.length c4).ownBlock = some b → b ≠ X := hX' ▸ hXp
        replace hXM : X < M := hX' ▸ hXM
        replace hX2 : w2.heap.size ≤ X := Nat.le_of_eq hX'
        rw [hX']
        replace hoi := hoi.mono (Nat.le_succ _) (Nat.le_refl _)
        clear hXM0 hX'
        have Hall := Lib.hid (show (fixTo g.arena l g.arena.next.length).take g.arena.next.length = fixTo g.arena l g.arena.next.length from List.take_of_length_le (by simp))
        go_loopw [7] (fun i wr => ∃ (k : Nat) (nv : Value) (vs : List Value), k ≤ l.length ∧ M ≤ wr.heap.size ∧ i = .int .i64 k ∧ Arr wr w.heap.size 42 [.slice A g.arena.owner.length c, .slice A' g.arena.next.length c', .slice P g.prio.length pc] ∧ Arr wr (w.heap.size + 1) 42 [.slice none 0 0, .slice none 0 0, .slice none 0 0] ∧ Arr wr X 42 [.slice A3 g.arena.owner.length c3, nv, .slice A4 g.prio.length c4] ∧ OI wr w2.heap.size w3.heap.size (.slice A3 g.arena.owner.length c3) g.arena.owner ∧ OI wr w3.heap.size M (.slice A4 g.prio.length c4) g.prio ∧ RowsV wr M wr.heap.size nv vs ((fixTo g.arena l g.arena.next.length).take k) ∧ Below w.heap.size w wr) (fun i _ => l.length - (intOf i).toNat)
        case atStart => exact ⟨0, _, [], Nat.zero_le _, hMle, rfl, hB, hR, hX0, hoi, hpi, hrows, hbw⟩
        case round =>
          obtain ⟨k, nv, vs, hk, hMr, rfl, hB, hR, hX, hoi, hpi, hrw, hbw⟩ := hrel
          have hXlt := hX.lt
          by_cases hlt : k < l.length
          · have hkn : k < g.arena.next.length := by rw [← Hln.out]; exact hlt
            obtain ⟨N, nc, en, _⟩ := hrw.rows.form
            have hlk : ((fixTo g.arena l g.arena.next.length).take k).length = k := by simp; omega
            rw [hlk] at en
            have Hlk := Lib.hid hlk
            have hlen : ((fixTo g.arena l g.arena.next.length).take k).length ≤ 1099511627776 := by rw [hlk]; omega
            clear hlk
            subst en
            have hXc1 := hX.c1
            have hBc1 := hB.c1
            obtain ⟨a2, R, r, ea, hc2, hrow⟩ := ((hn.kept (Kept.of hbw))).at_ hkn
            subst ea
            obtain ⟨a1, ea, hc1⟩ := ((hu.kept (Kept.of hbw))).at_ hlt
            subst ea
            have hkn' : (k : Int) < g.arena.next.length := by omega
            have hkl' : (k : Int) < l.length := by omega
            have hd16 := hdeg.out k hkn
            have Hs := Lib.hid (show (fixTo g.arena l g.arena.next.length).take (k + 1) = (fixTo g.arena l g.arena.next.length).take k ++ [fixAt g.arena l k] by rw [rx_snoc (by simpa using hkn), rx_fixTo hkn, if_pos hkn])
            go_wp2_with fail
            refine (l1Copy_any _ (rx g.arena.next k) _ hrow (by omega)).mono ?_
            rintro e w5 ⟨u5, rfl, ho5, hb5⟩
            obtain ⟨A5, c5, e5, _⟩ := ho5.ints.form
            subst e5
            have hc15 := (Kept.of hb5).cell hc1
            have hs5 := hb5.size
            have hX5 := hX.below hb5 hX.lt
            have hX5c1 := hX5.c1
            clear hXc1 hBc1 hc2 hc1
            by_cases e : 0 ≤ ix l k
            · have hX5a := (hX5.alloc (.cells #[.int .i64 (ix l k)] 2)).c1
              have hbn6 := (Below.refl w5.heap.size w5).alloc (Nat.le_refl _) (.cells #[.int .i64 (ix l k)] 2)
              have hb6 : Below wr.heap.size wr (w5.alloc (.cells #[.int .i64 (ix l k)] 2)) := Below.up hb5 hbn6
              have hyo : OwnInts (w5.alloc (.cells #[.int .i64 (ix l k)] 2)) wr.heap.size (.slice (some ⟨w5.heap.size, 0, none⟩) 1 1) [ix l k] := IArr.own (ione_new w5 (ix l k)) hb5.size (by simp)
              have Hat := Lib.hid (show fixAt g.arena l k = [ix l k] by unfold fixAt; rw [if_pos e])
              have hrw6 := hrw.kept (Only.of_below (B := wr.heap.size) (C := wr.heap.size) hb6) (.inl (Nat.le_refl _))
              have hs6 := hb6.size
              go_wp2_with (at_builtin; refine append_oneH elem_rows (w5.alloc (.cells #[.int .i64 (ix l k)] 2)) rfl (.tmp 53) (.tmp 55) rfl M (.slice N k nc) _ vs rfl hrw6.own (.slice (some ⟨w5.heap.size, 0, none⟩) 1 1) rfl (w5.heap.size + 1) (by simp) rfl (by omega) (by omega) ?_; intro v7 w7 ho7 hg7 hl7; have hbX : Below M wr w7 := (hb6.mono (by omega)).grown hg7 (by omega) (fun b hb => (hrw6.own.lt b hb).1); have hX7 := hX.below hbX hXM; have q5 := hX7.c1; have q6 := hX7.frozen 1; obtain ⟨A7, c7, e7, _⟩ := SlF.of_own ho7; rw [Hlk.out] at e7; subst e7)
              have hB7 := (hB.below hbX (by omega)).far (p := ⟨X, 1, none⟩) (by simp; omega) (.slice A7 (k + 1) c7)
              have hR7 := (hR.below hbX (by omega)).far (p := ⟨X, 1, none⟩) (by simp; omega) (.slice A7 (k + 1) c7)
              have hX8 := hX7.set_ 1 (.slice A7 (k + 1) c7)
              have hoi7 := (hoi.heap fun b hb => hbX.block b (by have := hoi.2 b hb; omega)).heap (w' := w7.setCell ⟨X, 1, none⟩ (.slice A7 (k + 1) c7)) fun b hb => Below.heap_setCell _ _ _ _ (by have := hXo b hb; simp; omega)
              have hpi7 := (hpi.heap fun b hb => hbX.block b (by have := hpi.2 b hb; omega)).heap (w' := w7.setCell ⟨X, 1, none⟩ (.slice A7 (k + 1) c7)) fun b hb => Below.heap_setCell _ _ _ _ (by have := hXp b hb; simp; omega)
              have hnew : OI (w5.alloc (.cells #[.int .i64 (ix l k)] 2)) M (w5.alloc (.cells #[.int .i64 (ix l k)] 2)).heap.size (.slice (some ⟨w5.heap.size, 0, none⟩) 1 1) [ix l k] := ⟨hyo.more (by omega), fun b hb => (hyo.lt b hb).2⟩
              have hne : ∀ j, j < ((fixTo g.arena l g.arena.next.length).take k).length → ∀ b, (vx vs j).ownBlock = some b → ((.slice (some ⟨w5.heap.size, 0, none⟩) 1 1) : Value).ownBlock ≠ some b := fun j hj b hb e2 => by have h3 := (hrw6.row j hj).2 b hb; have h4 := (hyo.lt b e2).1; omega
              have hrw7 := RowsV.snoc (hrw6.mono (Nat.le_refl _) (C' := (w5.alloc (.cells #[.int .i64 (ix l k)] 2)).heap.size) hs6) hnew hne ho7 hg7 hg7.size (Nat.le_refl _)
              have hrw8 := hrw7.heap (w' := w7.setCell ⟨X, 1, none⟩ (.slice A7 (k + 1) c7)) (fun b hb => Below.heap_setCell _ _ _ _ (by have := (hrw7.own.lt b hb).1; simp; omega)) (fun j hj b hb => Below.heap_setCell _ _ _ _ (by have := ((hrw7.row j hj).1.lt b hb).1; simp; omega))
              have hbw8 : Below w.heap.size w (w7.setCell ⟨X, 1, none⟩ (.slice A7 (k + 1) c7)) := (hbw.trans (hbX.mono (by omega))).setCell (by simp; omega) _
              have hbXs := hbX.size
              have Hsz8 := Lib.hid (show (w7.setCell ⟨X, 1, none⟩ (.slice A7 (k + 1) c7)).heap.size = w7.heap.size by simp)
              exact ⟨⟨k + 1, _, _, by omega, by rw [Hsz8.out]; omega, by go_num, hB7, hR7, hX8, hoi7, hpi7, by rw [Hs.out, Hat.out, Hsz8.out]; exact hrw8, hbw8⟩, by simp [intOf]; omega⟩
            · skip
              have hb6 := hb5
              have hyo := ho5
              have Hat := Lib.hid (show fixAt g.arena l k = rx g.arena.next k by unfold fixAt; rw [if_neg e])
              have hrw6 := hrw.kept (Only.of_below (B := wr.heap.size) (C := wr.heap.size) hb6) (.inl (Nat.le_refl _))
              have hs6 := hb6.size
              go_wp2_with (at_builtin; refine append_one elem_rows w5 rfl (.tmp 53) (.tmp 55) rfl M (.slice N k nc) _ vs rfl hrw6.own (.slice A5 (rx g.arena.next k).length c5) rfl rfl (by omega) (by omega) ?_; intro v7 w7 ho7 hg7 hl7; have hbX : Below M wr w7 := (hb6.mono (by omega)).grown hg7 (by omega) (fun b hb => (hrw6.own.lt b hb).1); have hX7 := hX.below hbX hXM; have q5 := hX7.c1; have q6 := hX7.frozen 1; obtain ⟨A7, c7, e7, _⟩ := SlF.of_own ho7; rw [Hlk.out] at e7; subst e7)
              have hB7 := (hB.below hbX (by omega)).far (p := ⟨X, 1, none⟩) (by simp; omega) (.slice A7 (k + 1) c7)
              have hR7 := (hR.below hbX (by omega)).far (p := ⟨X, 1, none⟩) (by simp; omega) (.slice A7 (k + 1) c7)
              have hX8 := hX7.set_ 1 (.slice A7 (k + 1) c7)
              have hoi7 := (hoi.heap fun b hb => hbX.block b (by have := hoi.2 b hb; omega)).heap (w' := w7.setCell ⟨X, 1, none⟩ (.slice A7 (k + 1) c7)) fun b hb => Below.heap_setCell _ _ _ _ (by have := hXo b hb; simp; omega)
              have hpi7 := (hpi.heap fun b hb => hbX.block b (by have := hpi.2 b hb; omega)).heap (w' := w7.setCell ⟨X, 1, none⟩ (.slice A7 (k + 1) c7)) fun b hb => Below.heap_setCell _ _ _ _ (by have := hXp b hb; simp; omega)
              have hnew : OI w5 M w5.heap.size (.slice A5 (rx g.arena.next k).length c5) (rx g.arena.next k) := ⟨hyo.more (by omega), fun b hb => (hyo.lt b hb).2⟩
              have hne : ∀ j, j < ((fixTo g.arena l g.arena.next.length).take k).length → ∀ b, (vx vs j).ownBlock = some b → ((.slice A5 (rx g.arena.next k).length c5) : Value).ownBlock ≠ some b := fun j hj b hb e2 => by have h3 := (hrw6.row j hj).2 b hb; have h4 := (hyo.lt b e2).1; omega
              have hrw7 := RowsV.snoc (hrw6.mono (Nat.le_refl _) (C' := w5.heap.size) hs6) hnew hne ho7 hg7 hg7.size (Nat.le_refl _)
              have hrw8 := hrw7.heap (w' := w7.setCell ⟨X, 1, none⟩ (.slice A7 (k + 1) c7)) (fun b hb => Below.heap_setCell _ _ _ _ (by have := (hrw7.own.lt b hb).1; simp; omega)) (fun j hj b hb => Below.heap_setCell _ _ _ _ (by have := ((hrw7.row j hj).1.lt b hb).1; simp; omega))
              have hbw8 : Below w.heap.size w (w7.setCell ⟨X, 1, none⟩ (.slice A7 (k + 1) c7)) := (hbw.trans (hbX.mono (by omega))).setCell (by simp; omega) _
              have hbXs := hbX.size
              have Hsz8 := Lib.hid (show (w7.setCell ⟨X, 1, none⟩ (.slice A7 (k + 1) c7)).heap.size = w7.heap.size by simp)
              exact ⟨⟨k + 1, _, _, by omega, by rw [Hsz8.out]; omega, by go_num, hB7, hR7, hX8, hoi7, hpi7, by rw [Hs.out, Hat.out, Hsz8.out]; exact hrw8, hbw8⟩, by simp [intOf]; omega⟩
          · obtain rfl : k = l.length := by omega
            have hrw' : RowsV wr M wr.heap.size nv vs (fixTo g.arena l g.arena.next.length) := by rw [Hln.out, Hall.out] at hrw; exact hrw
            clear hrw
            obtain ⟨N, nc, en, _⟩ := hrw'.rows.form
            rw [length_fixTo] at en
            subst en
            have hXc0 := hX.c0
            have hXc1 := hX.c1
            have hXc2 := hX.c2
            have hRc0 := hR.c0
            have hRc1 := hR.c1
            have hRc2 := hR.c2
            have hRf0 := hR.frozen 0
            have hRf1 := hR.frozen 1
            have hRf2 := hR.frozen 2
            go_wp2
            have hop : OP wr w2.heap.size wr.heap.size (.agg #[.slice A3 g.arena.owner.length c3, .slice N g.arena.next.length nc, .slice A4 g.prio.length c4]) (onlyP g l) :=
              ⟨_, _, _, vs, rfl, hoi.mono (Nat.le_refl _) (by omega), hrw'.mono (by omega) (Nat.le_refl _), hpi.mono (by omega) (by omega),
                fun b hb j hj e => by have h1 := hoi.2 b hb; have h2 := ((hrw'.row j (by simpa [onlyP, fixA] using hj)).1.lt b e).1; omega,
                fun b hb e => by have h1 := (hpi.1.lt b hb).1; have h2 := hoi.2 b e; omega,
                fun b hb j hj e => by have h1 := hpi.2 b hb; have h2 := ((hrw'.row j (by simpa [onlyP, fixA] using hj)).1.lt b e).1; omega⟩
            have hR6 := ((hR.set_ 0 (.slice A3 g.arena.owner.length c3)).set_ 1 (.slice N g.arena.next.length nc)).set_ 2 (.slice A4 g.prio.length c4)
            have hbw6 : Below w.heap.size w (((wr.setCell ⟨w.heap.size + 1, 0, none⟩ (.slice A3 g.arena.owner.length c3)).setCell ⟨w.heap.size + 1, 1, none⟩ (.slice N g.arena.next.length nc)).setCell ⟨w.heap.size + 1, 2, none⟩ (.slice A4 g.prio.length c4)) := ((hbw.setCell (by simp) _).setCell (by simp) _).setCell (by simp) _
            have hcb : ∀ b, w2.heap.size ≤ b → (((wr.setCell ⟨w.heap.size + 1, 0, none⟩ (.slice A3 g.arena.owner.length c3)).setCell ⟨w.heap.size + 1, 1, none⟩ (.slice N g.arena.next.length nc)).setCell ⟨w.heap.size + 1, 2, none⟩ (.slice A4 g.prio.length c4)).heap[b]? = wr.heap[b]? := fun b hb => by
              rw [Below.heap_setCell _ _ _ _ (by simp; omega), Below.heap_setCell _ _ _ _ (by simp; omega), Below.heap_setCell _ _ _ _ (by simp; omega)]
            have hsz : (((wr.setCell ⟨w.heap.size + 1, 0, none⟩ (.slice A3 g.arena.owner.length c3)).setCell ⟨w.heap.size + 1, 1, none⟩ (.slice N g.arena.next.length nc)).setCell ⟨w.heap.size + 1, 2, none⟩ (.slice A4 g.prio.length c4)).heap.size = wr.heap.size := by simp
            generalize ((wr.setCell ⟨w.heap.size + 1, 0, none⟩ (.slice A3 g.arena.owner.length c3)).setCell ⟨w.heap.size + 1, 1, none⟩ (.slice N g.arena.next.length nc)).setCell ⟨w.heap.size + 1, 2, none⟩ (.slice A4 g.prio.length c4) = w6 at *
            have q0 := hR6.c0
            have q1 := hR6.c1
            have q2 := hR6.c2
            refine bodyPost_ret (v := .tuple #[.agg #[.slice A3 g.arena.owner.length c3, .slice N g.arena.next.length nc, .slice A4 g.prio.length c4], .bool true]) (by simp [results, Try.results50, go_sem, q0, q1, q2]) rfl ?_
            exact .mk' ((hop.heapFrom hcb).mono (by omega) (by omega)) hbw6

end Go.Proofs.Ytigjhhcndigncaa
