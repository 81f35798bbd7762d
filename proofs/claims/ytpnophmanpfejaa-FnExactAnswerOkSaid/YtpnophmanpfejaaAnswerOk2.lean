/- The walk of AnswerOk, the reference's. Conditions: the lengths. -/
import Derived.Test.YtpnophmanpfejaaAnswerOk
import Derived.Deep.RegionHeld3
namespace Go.Proofs.Ytpnophmanpfejaa
set_option linter.unusedSimpArgs false
set_option linter.unusedVariables false
open Go.RowKit

set_option maxRecDepth 100000 in
set_option maxHeartbeats 4000000 in
theorem specAnswerOk_no (v : Value) (g : ParityD) (u : Value) (l : TwoD) (w : World) (hv : IsParity w v g) (hu : IsTwo w u l) (hA : ansSide g l 0 = false) :
    Calls Try.prog 35 #[v, u] w fun e w' => e = .returned (.bool (ansOkB g l)) ∧ Below w.heap.size w w' := by
  obtain ⟨o, n, p, s, t, rfl, rfl, hbw, hB, hD⟩ := parity_answer_box hv hu
  have hf := fun W (hW : Kept w W) => l6Form_any _ g _ l W (hv.kept hW) (hu.kept hW)
  cases hE : (parityOkB g && isAnsB g l)
  · have hres : ansOkB g l = false := by unfold ansOkB; rw [hE]; rfl
    rw [hres]; clear hres
    rw [hE] at hf
    go_enter Try.func35, Try.ntmps35
    have hBz := hB.lt
    have hBc0 := hB.c0
    have hBc1 := hB.c1
    have hBc2 := hB.c2
    have hDz := hD.lt
    have hDc0 := hD.c0
    have hDc1 := hD.c1
    go_wp2_with fail
    refine (hf _ (Kept.of hbw)).mono ?_
    rintro e w1 ⟨rfl, hb1⟩
    clear hBc0 hBc1 hBc2 hDc0 hDc1 hBz hDz
    replace hB := hB.below hb1 hB.lt
    replace hD := hD.below hb1 hD.lt
    replace hbw := Below.up hbw hb1
    have hb1s := hb1.size
    clear hb1
    have hBz := hB.lt
    have hBc0 := hB.c0
    have hBc1 := hB.c1
    have hBc2 := hB.c2
    have hDz := hD.lt
    have hDc0 := hD.c0
    have hDc1 := hD.c1
    go_wp2
    go_ret
    exact ⟨rfl, hbw⟩
  · have hres : ansOkB g l = (ansSide g l 0 && ansSide g l 1) := by unfold ansOkB; rw [hE]; rfl
    rw [hres, hA]; clear hres
    rw [hE] at hf
    have hf' := Lib.hid hf
    clear hf
    rw [Bool.and_eq_true] at hE
    have hok := parityOkB_iff.1 hE.1
    have hans := isAnsB_iff.1 hE.2
    have hside : ∀ k : Int, playerB k = true → ∀ W rv pv, Kept w W → Ints W rv (regionOf l k) → Ints W pv (partTo g.arena k l.snd g.prio.length) → Calls Try.prog 32 #[.agg #[o, n, p], .int .i64 k, rv, pv] W fun e w' => e = .returned (.bool (ansSide g l k)) ∧ Below W.heap.size W w' := fun k hk W rv pv hW h1 h2 => by
      rw [← ansSide_G hok hans hk]
      exact specWinsBy_any _ g _ _ _ _ _ W (hv.kept hW) h1 h2
    have Hc0w := Lib.hid (hside 0 rfl)
    have Hc1w := Lib.hid (hside 1 rfl)
    have Hc1 := Lib.hid (fun (k : Int) W (hW : Kept w W) => specRegionOf_any _ l k W (hu.kept hW))
    have Hc2 := Lib.hid (fun (k : Int) W (hW : Kept w W) => l6Part_any _ g _ l k W (hv.kept hW) (hu.kept hW) hok hans)
    clear hside hE
    go_enter Try.func35, Try.ntmps35
    have hBz := hB.lt
    have hBc0 := hB.c0
    have hBc1 := hB.c1
    have hBc2 := hB.c2
    have hDz := hD.lt
    have hDc0 := hD.c0
    have hDc1 := hD.c1
    go_wp2_with fail
    refine (hf'.out _ (Kept.of hbw)).mono ?_
    rintro e w1 ⟨rfl, hb1⟩
    clear hBc0 hBc1 hBc2 hDc0 hDc1 hBz hDz
    replace hB := hB.below hb1 hB.lt
    replace hD := hD.below hb1 hD.lt
    replace hbw := Below.up hbw hb1
    have hb1s := hb1.size
    clear hb1
    have hBz := hB.lt
    have hBc0 := hB.c0
    have hBc1 := hB.c1
    have hBc2 := hB.c2
    have hDz := hD.lt
    have hDc0 := hD.c0
    have hDc1 := hD.c1
    clear hBc0 hBc1 hBc2 hDc0 hDc1 hBz hDz
    obtain ⟨wo, rfl⟩ : ∃ wo : World, wo = w1 := ⟨_, rfl⟩
    have hbwo := hbw
    have HS := Lib.hid (fun W (hW : Below wo.heap.size wo W) => show W.cell? ⟨w.heap.size, 0, none⟩ = some o ∧ W.cell? ⟨w.heap.size, 1, none⟩ = some n ∧ W.cell? ⟨w.heap.size, 2, none⟩ = some p ∧ W.cell? ⟨w.heap.size + 1, 0, none⟩ = some s ∧ W.cell? ⟨w.heap.size + 1, 1, none⟩ = some t from
      ⟨(hB.below hW hB.lt).c0, (hB.below hW hB.lt).c1, (hB.below hW hB.lt).c2, (hD.below hW hD.lt).c0, (hD.below hW hD.lt).c1⟩)
    have hR0 : Below wo.heap.size wo wo.drew := below_drw1 (Below.refl _ _)
    rw [hA] at Hc0w
    go_wp2
    refine wp_region_held_drew (S := (fun W => W.cell? ⟨w.heap.size, 0, none⟩ = some o ∧ W.cell? ⟨w.heap.size, 1, none⟩ = some n ∧ W.cell? ⟨w.heap.size, 2, none⟩ = some p ∧ W.cell? ⟨w.heap.size + 1, 0, none⟩ = some s ∧ W.cell? ⟨w.heap.size + 1, 1, none⟩ = some t)) rfl (HS.out _ hR0) (fun hHeld => ?_)
    refine wpAnyH_take (i := 0) (v := ?v0) rfl (by kernel_rfl) (by kernel_rfl) (by kernel_rfl) (fun _ _ _ h => h) (Or.inl ⟨by rfl, ?y0⟩) (by assumption) ?r0
    case y0 =>
      intro w hSw; (try dsimp only at hSw); go_simp; (try with_reducible rfl)
    case' r0 => try simp only [Act.put, List.setIfInBounds_toArray, List.set_cons_zero, List.set_cons_succ]
    refine wpAnyH_take (i := 1) (v := ?v1) rfl (by kernel_rfl) (by kernel_rfl) (by kernel_rfl) (fun _ _ _ h => h) (Or.inl ⟨by rfl, ?y1⟩) (by assumption) ?r1
    case y1 =>
      intro w hSw; (try dsimp only at hSw); go_simp; (try with_reducible rfl)
    case' r1 => try simp only [Act.put, List.setIfInBounds_toArray, List.set_cons_zero, List.set_cons_succ]
    refine wpAnyH_take (i := 3) (v := ?v3) rfl (by kernel_rfl) (by kernel_rfl) (by kernel_rfl) (fun _ _ _ h => h) (Or.inl ⟨by rfl, ?y3⟩) (by assumption) ?r3
    case y3 =>
      intro w hSw; (try dsimp only at hSw); go_simp; (try with_reducible rfl)
    case' r3 => try simp only [Act.put, List.setIfInBounds_toArray, List.set_cons_zero, List.set_cons_succ]
    refine wpAnyH_take (i := 4) (v := ?v4) rfl (by kernel_rfl) (by kernel_rfl) (by kernel_rfl) (fun _ _ _ h => h) (Or.inl ⟨by rfl, ?y4⟩) (by assumption) ?r4
    case y4 =>
      intro w hSw; (try dsimp only at hSw); go_simp; (try with_reducible rfl)
    case' r4 => try simp only [Act.put, List.setIfInBounds_toArray, List.set_cons_zero, List.set_cons_succ]
    refine wpAnyH_ready (rs := [2]) (by kernel_rfl) (by simp) ?_
    refine AllReadyH.cons rfl (fun K hK => ?_) AllReadyH.nil
    go_simp
    refine (Hc1.out 0 _ (Kept.of (Below.up hbwo hR0))).mono ?_; rintro e w3 ⟨v3, rfl, ho3, hb3⟩; have hR3 := Below.up hR0 hb3
    refine hK.out _ _ (HS.out _ hR3) (fun hHeld => ?_)
    clear hK K
    try simp only [Act.put, List.setIfInBounds_toArray, List.set_cons_zero, List.set_cons_succ]
    refine wpAnyH_ready (rs := [5]) (by kernel_rfl) (by simp) ?_
    refine AllReadyH.cons rfl (fun K hK => ?_) AllReadyH.nil
    go_simp
    refine (Hc2.out 0 _ (Kept.of (Below.up hbwo hR3))).mono ?_; rintro e w4 ⟨v4, rfl, ho4, hb4⟩; have hR4 := Below.up hR3 hb4
    refine hK.out _ _ (HS.out _ hR4) (fun hHeld => ?_)
    clear hK K
    try simp only [Act.put, List.setIfInBounds_toArray, List.set_cons_zero, List.set_cons_succ]
    refine wpAnyH_ready (rs := [6]) (by kernel_rfl) (by simp) ?_
    refine AllReadyH.cons rfl (fun K hK => ?_) AllReadyH.nil
    go_simp
    refine (Hc0w.out _ _ _ (Kept.of (Below.up hbwo hR4)) (ho3.ints.kept (Kept.of hb4)) ho4.ints).mono ?_; rintro e w5 ⟨rfl, hb5⟩; have hR5 := Below.up hR4 hb5
    refine hK.out _ _ (HS.out _ hR5) (fun hHeld => ?_)
    clear hK K
    try simp only [Act.put, List.setIfInBounds_toArray, List.set_cons_zero, List.set_cons_succ]
    refine wpAnyH_take (i := 7) (v := ?v7) rfl (by kernel_rfl) (by kernel_rfl) (by kernel_rfl) (fun _ _ _ h => h) (Or.inl ⟨by rfl, ?y7⟩) (by assumption) ?r7
    case y7 =>
      intro w hSw; (try dsimp only at hSw); go_simp; (try with_reducible rfl)
    case' r7 => try simp only [Act.put, List.setIfInBounds_toArray, List.set_cons_zero, List.set_cons_succ]
    refine wpAnyH_take (i := 8) (v := undef) rfl (by kernel_rfl) (by kernel_rfl) (by kernel_rfl) (fun _ _ _ h => h) (Or.inr ⟨by rfl, rfl⟩) (by assumption) ?_
    try simp only [Act.put, List.setIfInBounds_toArray, List.set_cons_zero, List.set_cons_succ]
    refine wpAnyH_take (i := 9) (v := undef) rfl (by kernel_rfl) (by kernel_rfl) (by kernel_rfl) (fun _ _ _ h => h) (Or.inr ⟨by rfl, rfl⟩) (by assumption) ?_
    try simp only [Act.put, List.setIfInBounds_toArray, List.set_cons_zero, List.set_cons_succ]
    refine wpAnyH_take (i := 10) (v := undef) rfl (by kernel_rfl) (by kernel_rfl) (by kernel_rfl) (fun _ _ _ h => h) (Or.inr ⟨by rfl, rfl⟩) (by assumption) ?_
    try simp only [Act.put, List.setIfInBounds_toArray, List.set_cons_zero, List.set_cons_succ]
    refine wpAnyH_take (i := 11) (v := undef) rfl (by kernel_rfl) (by kernel_rfl) (by kernel_rfl) (fun _ _ _ h => h) (Or.inr ⟨by rfl, rfl⟩) (by assumption) ?_
    try simp only [Act.put, List.setIfInBounds_toArray, List.set_cons_zero, List.set_cons_succ]
    refine wpAnyH_take (i := 12) (v := undef) rfl (by kernel_rfl) (by kernel_rfl) (by kernel_rfl) (fun _ _ _ h => h) (Or.inr ⟨by rfl, rfl⟩) (by assumption) ?_
    try simp only [Act.put, List.setIfInBounds_toArray, List.set_cons_zero, List.set_cons_succ]
    refine wpAnyH_take (i := 13) (v := undef) rfl (by kernel_rfl) (by kernel_rfl) (by kernel_rfl) (fun _ _ _ h => h) (Or.inr ⟨by rfl, rfl⟩) (by assumption) ?_
    try simp only [Act.put, List.setIfInBounds_toArray, List.set_cons_zero, List.set_cons_succ]
    refine wpAnyH_take (i := 14) (v := undef) rfl (by kernel_rfl) (by kernel_rfl) (by kernel_rfl) (fun _ _ _ h => h) (Or.inr ⟨by rfl, rfl⟩) (by assumption) ?_
    try simp only [Act.put, List.setIfInBounds_toArray, List.set_cons_zero, List.set_cons_succ]
    refine wpAnyH_ready (rs := [15]) (by kernel_rfl) (by simp) ?_
    refine AllReadyH.cons rfl (fun K hK => ?_) AllReadyH.nil
    go_simp
    refine hK.out _ _ (by assumption) (fun hHeld' => ?_)
    clear hK K
    try simp only [Act.put, List.setIfInBounds_toArray, List.set_cons_zero, List.set_cons_succ]
    refine wpAnyH_ready (rs := [16]) (by kernel_rfl) (by simp) ?_
    refine AllReadyH.cons rfl (fun K hK => ?_) AllReadyH.nil
    go_simp
    refine hK.out _ _ (by assumption) (fun hHeld' => ?_)
    clear hK K
    try simp only [Act.put, List.setIfInBounds_toArray, List.set_cons_zero, List.set_cons_succ]
    refine wpAnyH_done (by kernel_rfl) ?_ _
    go_wp2
    go_ret
    exact ⟨rfl, Below.up hbwo hR5⟩

set_option maxRecDepth 100000 in
set_option maxHeartbeats 4000000 in
theorem specAnswerOk_yes (v : Value) (g : ParityD) (u : Value) (l : TwoD) (w : World) (hv : IsParity w v g) (hu : IsTwo w u l) (hA : ansSide g l 0 = true) :
    Calls Try.prog 35 #[v, u] w fun e w' => e = .returned (.bool (ansOkB g l)) ∧ Below w.heap.size w w' := by
  obtain ⟨o, n, p, s, t, rfl, rfl, hbw, hB, hD⟩ := parity_answer_box hv hu
  have hf := fun W (hW : Kept w W) => l6Form_any _ g _ l W (hv.kept hW) (hu.kept hW)
  cases hE : (parityOkB g && isAnsB g l)
  · have hres : ansOkB g l = false := by unfold ansOkB; rw [hE]; rfl
    rw [hres]; clear hres
    rw [hE] at hf
    go_enter Try.func35, Try.ntmps35
    have hBz := hB.lt
    have hBc0 := hB.c0
    have hBc1 := hB.c1
    have hBc2 := hB.c2
    have hDz := hD.lt
    have hDc0 := hD.c0
    have hDc1 := hD.c1
    go_wp2_with fail
    refine (hf _ (Kept.of hbw)).mono ?_
    rintro e w1 ⟨rfl, hb1⟩
    clear hBc0 hBc1 hBc2 hDc0 hDc1 hBz hDz
    replace hB := hB.below hb1 hB.lt
    replace hD := hD.below hb1 hD.lt
    replace hbw := Below.up hbw hb1
    have hb1s := hb1.size
    clear hb1
    have hBz := hB.lt
    have hBc0 := hB.c0
    have hBc1 := hB.c1
    have hBc2 := hB.c2
    have hDz := hD.lt
    have hDc0 := hD.c0
    have hDc1 := hD.c1
    go_wp2
    go_ret
    exact ⟨rfl, hbw⟩
  · have hres : ansOkB g l = (ansSide g l 0 && ansSide g l 1) := by unfold ansOkB; rw [hE]; rfl
    rw [hres, hA]; clear hres
    rw [hE] at hf
    have hf' := Lib.hid hf
    clear hf
    rw [Bool.and_eq_true] at hE
    have hok := parityOkB_iff.1 hE.1
    have hans := isAnsB_iff.1 hE.2
    have hside : ∀ k : Int, playerB k = true → ∀ W rv pv, Kept w W → Ints W rv (regionOf l k) → Ints W pv (partTo g.arena k l.snd g.prio.length) → Calls Try.prog 32 #[.agg #[o, n, p], .int .i64 k, rv, pv] W fun e w' => e = .returned (.bool (ansSide g l k)) ∧ Below W.heap.size W w' := fun k hk W rv pv hW h1 h2 => by
      rw [← ansSide_G hok hans hk]
      exact specWinsBy_any _ g _ _ _ _ _ W (hv.kept hW) h1 h2
    have Hc0w := Lib.hid (hside 0 rfl)
    have Hc1w := Lib.hid (hside 1 rfl)
    have Hc1 := Lib.hid (fun (k : Int) W (hW : Kept w W) => specRegionOf_any _ l k W (hu.kept hW))
    have Hc2 := Lib.hid (fun (k : Int) W (hW : Kept w W) => l6Part_any _ g _ l k W (hv.kept hW) (hu.kept hW) hok hans)
    clear hside hE
    go_enter Try.func35, Try.ntmps35
    have hBz := hB.lt
    have hBc0 := hB.c0
    have hBc1 := hB.c1
    have hBc2 := hB.c2
    have hDz := hD.lt
    have hDc0 := hD.c0
    have hDc1 := hD.c1
    go_wp2_with fail
    refine (hf'.out _ (Kept.of hbw)).mono ?_
    rintro e w1 ⟨rfl, hb1⟩
    clear hBc0 hBc1 hBc2 hDc0 hDc1 hBz hDz
    replace hB := hB.below hb1 hB.lt
    replace hD := hD.below hb1 hD.lt
    replace hbw := Below.up hbw hb1
    have hb1s := hb1.size
    clear hb1
    have hBz := hB.lt
    have hBc0 := hB.c0
    have hBc1 := hB.c1
    have hBc2 := hB.c2
    have hDz := hD.lt
    have hDc0 := hD.c0
    have hDc1 := hD.c1
    clear hBc0 hBc1 hBc2 hDc0 hDc1 hBz hDz
    obtain ⟨wo, rfl⟩ : ∃ wo : World, wo = w1 := ⟨_, rfl⟩
    have hbwo := hbw
    have HS := Lib.hid (fun W (hW : Below wo.heap.size wo W) => show W.cell? ⟨w.heap.size, 0, none⟩ = some o ∧ W.cell? ⟨w.heap.size, 1, none⟩ = some n ∧ W.cell? ⟨w.heap.size, 2, none⟩ = some p ∧ W.cell? ⟨w.heap.size + 1, 0, none⟩ = some s ∧ W.cell? ⟨w.heap.size + 1, 1, none⟩ = some t from
      ⟨(hB.below hW hB.lt).c0, (hB.below hW hB.lt).c1, (hB.below hW hB.lt).c2, (hD.below hW hD.lt).c0, (hD.below hW hD.lt).c1⟩)
    have hR0 : Below wo.heap.size wo wo.drew := below_drw1 (Below.refl _ _)
    rw [hA] at Hc0w
    go_wp2
    refine wp_region_held_drew (S := (fun W => W.cell? ⟨w.heap.size, 0, none⟩ = some o ∧ W.cell? ⟨w.heap.size, 1, none⟩ = some n ∧ W.cell? ⟨w.heap.size, 2, none⟩ = some p ∧ W.cell? ⟨w.heap.size + 1, 0, none⟩ = some s ∧ W.cell? ⟨w.heap.size + 1, 1, none⟩ = some t)) rfl (HS.out _ hR0) (fun hHeld => ?_)
    refine wpAnyH_take (i := 0) (v := ?v0) rfl (by kernel_rfl) (by kernel_rfl) (by kernel_rfl) (fun _ _ _ h => h) (Or.inl ⟨by rfl, ?y0⟩) (by assumption) ?r0
    case y0 =>
      intro w hSw; (try dsimp only at hSw); go_simp; (try with_reducible rfl)
    case' r0 => try simp only [Act.put, List.setIfInBounds_toArray, List.set_cons_zero, List.set_cons_succ]
    refine wpAnyH_take (i := 1) (v := ?v1) rfl (by kernel_rfl) (by kernel_rfl) (by kernel_rfl) (fun _ _ _ h => h) (Or.inl ⟨by rfl, ?y1⟩) (by assumption) ?r1
    case y1 =>
      intro w hSw; (try dsimp only at hSw); go_simp; (try with_reducible rfl)
    case' r1 => try simp only [Act.put, List.setIfInBounds_toArray, List.set_cons_zero, List.set_cons_succ]
    refine wpAnyH_take (i := 3) (v := ?v3) rfl (by kernel_rfl) (by kernel_rfl) (by kernel_rfl) (fun _ _ _ h => h) (Or.inl ⟨by rfl, ?y3⟩) (by assumption) ?r3
    case y3 =>
      intro w hSw; (try dsimp only at hSw); go_simp; (try with_reducible rfl)
    case' r3 => try simp only [Act.put, List.setIfInBounds_toArray, List.set_cons_zero, List.set_cons_succ]
    refine wpAnyH_take (i := 4) (v := ?v4) rfl (by kernel_rfl) (by kernel_rfl) (by kernel_rfl) (fun _ _ _ h => h) (Or.inl ⟨by rfl, ?y4⟩) (by assumption) ?r4
    case y4 =>
      intro w hSw; (try dsimp only at hSw); go_simp; (try with_reducible rfl)
    case' r4 => try simp only [Act.put, List.setIfInBounds_toArray, List.set_cons_zero, List.set_cons_succ]
    refine wpAnyH_ready (rs := [2]) (by kernel_rfl) (by simp) ?_
    refine AllReadyH.cons rfl (fun K hK => ?_) AllReadyH.nil
    go_simp
    refine (Hc1.out 0 _ (Kept.of (Below.up hbwo hR0))).mono ?_; rintro e w3 ⟨v3, rfl, ho3, hb3⟩; have hR3 := Below.up hR0 hb3
    refine hK.out _ _ (HS.out _ hR3) (fun hHeld => ?_)
    clear hK K
    try simp only [Act.put, List.setIfInBounds_toArray, List.set_cons_zero, List.set_cons_succ]
    refine wpAnyH_ready (rs := [5]) (by kernel_rfl) (by simp) ?_
    refine AllReadyH.cons rfl (fun K hK => ?_) AllReadyH.nil
    go_simp
    refine (Hc2.out 0 _ (Kept.of (Below.up hbwo hR3))).mono ?_; rintro e w4 ⟨v4, rfl, ho4, hb4⟩; have hR4 := Below.up hR3 hb4
    refine hK.out _ _ (HS.out _ hR4) (fun hHeld => ?_)
    clear hK K
    try simp only [Act.put, List.setIfInBounds_toArray, List.set_cons_zero, List.set_cons_succ]
    refine wpAnyH_ready (rs := [6]) (by kernel_rfl) (by simp) ?_
    refine AllReadyH.cons rfl (fun K hK => ?_) AllReadyH.nil
    go_simp
    refine (Hc0w.out _ _ _ (Kept.of (Below.up hbwo hR4)) (ho3.ints.kept (Kept.of hb4)) ho4.ints).mono ?_; rintro e w5 ⟨rfl, hb5⟩; have hR5 := Below.up hR4 hb5
    refine hK.out _ _ (HS.out _ hR5) (fun hHeld => ?_)
    clear hK K
    try simp only [Act.put, List.setIfInBounds_toArray, List.set_cons_zero, List.set_cons_succ]
    refine wpAnyH_take (i := 7) (v := ?v7) rfl (by kernel_rfl) (by kernel_rfl) (by kernel_rfl) (fun _ _ _ h => h) (Or.inl ⟨by rfl, ?y7⟩) (by assumption) ?r7
    case y7 =>
      intro w hSw; (try dsimp only at hSw); go_simp; (try with_reducible rfl)
    case' r7 => try simp only [Act.put, List.setIfInBounds_toArray, List.set_cons_zero, List.set_cons_succ]
    refine wpAnyH_take (i := 8) (v := ?v8) rfl (by kernel_rfl) (by kernel_rfl) (by kernel_rfl) (fun _ _ _ h => h) (Or.inl ⟨by rfl, ?y8⟩) (by assumption) ?r8
    case y8 =>
      intro w hSw; (try dsimp only at hSw); go_simp; (try with_reducible rfl)
    case' r8 => try simp only [Act.put, List.setIfInBounds_toArray, List.set_cons_zero, List.set_cons_succ]
    refine wpAnyH_take (i := 9) (v := ?v9) rfl (by kernel_rfl) (by kernel_rfl) (by kernel_rfl) (fun _ _ _ h => h) (Or.inl ⟨by rfl, ?y9⟩) (by assumption) ?r9
    case y9 =>
      intro w hSw; (try dsimp only at hSw); go_simp; (try with_reducible rfl)
    case' r9 => try simp only [Act.put, List.setIfInBounds_toArray, List.set_cons_zero, List.set_cons_succ]
    refine wpAnyH_take (i := 11) (v := ?v11) rfl (by kernel_rfl) (by kernel_rfl) (by kernel_rfl) (fun _ _ _ h => h) (Or.inl ⟨by rfl, ?y11⟩) (by assumption) ?r11
    case y11 =>
      intro w hSw; (try dsimp only at hSw); go_simp; (try with_reducible rfl)
    case' r11 => try simp only [Act.put, List.setIfInBounds_toArray, List.set_cons_zero, List.set_cons_succ]
    refine wpAnyH_take (i := 12) (v := ?v12) rfl (by kernel_rfl) (by kernel_rfl) (by kernel_rfl) (fun _ _ _ h => h) (Or.inl ⟨by rfl, ?y12⟩) (by assumption) ?r12
    case y12 =>
      intro w hSw; (try dsimp only at hSw); go_simp; (try with_reducible rfl)
    case' r12 => try simp only [Act.put, List.setIfInBounds_toArray, List.set_cons_zero, List.set_cons_succ]
    refine wpAnyH_ready (rs := [10]) (by kernel_rfl) (by simp) ?_
    refine AllReadyH.cons rfl (fun K hK => ?_) AllReadyH.nil
    go_simp
    refine (Hc1.out 1 _ (Kept.of (Below.up hbwo hR5))).mono ?_; rintro e w6 ⟨v6, rfl, ho6, hb6⟩; have hR6 := Below.up hR5 hb6
    refine hK.out _ _ (HS.out _ hR6) (fun hHeld => ?_)
    clear hK K
    try simp only [Act.put, List.setIfInBounds_toArray, List.set_cons_zero, List.set_cons_succ]
    refine wpAnyH_ready (rs := [13]) (by kernel_rfl) (by simp) ?_
    refine AllReadyH.cons rfl (fun K hK => ?_) AllReadyH.nil
    go_simp
    refine (Hc2.out 1 _ (Kept.of (Below.up hbwo hR6))).mono ?_; rintro e w7 ⟨v7, rfl, ho7, hb7⟩; have hR7 := Below.up hR6 hb7
    refine hK.out _ _ (HS.out _ hR7) (fun hHeld => ?_)
    clear hK K
    try simp only [Act.put, List.setIfInBounds_toArray, List.set_cons_zero, List.set_cons_succ]
    refine wpAnyH_ready (rs := [14]) (by kernel_rfl) (by simp) ?_
    refine AllReadyH.cons rfl (fun K hK => ?_) AllReadyH.nil
    go_simp
    refine (Hc1w.out _ _ _ (Kept.of (Below.up hbwo hR7)) (ho6.ints.kept (Kept.of hb7)) ho7.ints).mono ?_; rintro e w8 ⟨rfl, hb8⟩; have hR8 := Below.up hR7 hb8
    refine hK.out _ _ (HS.out _ hR8) (fun hHeld => ?_)
    clear hK K
    try simp only [Act.put, List.setIfInBounds_toArray, List.set_cons_zero, List.set_cons_succ]
    refine wpAnyH_ready (rs := [15]) (by kernel_rfl) (by simp) ?_
    refine AllReadyH.cons rfl (fun K hK => ?_) AllReadyH.nil
    go_simp
    refine hK.out _ _ (by assumption) (fun hHeld' => ?_)
    clear hK K
    try simp only [Act.put, List.setIfInBounds_toArray, List.set_cons_zero, List.set_cons_succ]
    refine wpAnyH_ready (rs := [16]) (by kernel_rfl) (by simp) ?_
    refine AllReadyH.cons rfl (fun K hK => ?_) AllReadyH.nil
    go_simp
    refine hK.out _ _ (by assumption) (fun hHeld' => ?_)
    clear hK K
    try simp only [Act.put, List.setIfInBounds_toArray, List.set_cons_zero, List.set_cons_succ]
    refine wpAnyH_done (by kernel_rfl) ?_ _
    go_wp2
    go_ret
    exact ⟨rfl, Below.up hbwo hR8⟩

theorem specAnswerOk_any (v : Value) (g : ParityD) (u : Value) (l : TwoD) (w : World) (hv : IsParity w v g) (hu : IsTwo w u l) :
    Calls Try.prog 35 #[v, u] w fun e w' => e = .returned (.bool (ansOkB g l)) ∧ Below w.heap.size w w' := by
  cases hA : ansSide g l 0
  · exact specAnswerOk_no v g u l w hv hu hA
  · exact specAnswerOk_yes v g u l w hv hu hA
end Go.Proofs.Ytpnophmanpfejaa
