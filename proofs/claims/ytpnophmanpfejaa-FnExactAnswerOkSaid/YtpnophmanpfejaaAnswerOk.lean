/- The walks of AnswerOk, of the program and of the reference. -/
import Derived.Test.YtpnophmanpfejaaBadWalks3
import Derived.Test.YtpnophmanpfejaaAnswerWalks
import Derived.Test.YtpnophmanpfejaaRegionOf
import Derived.Deep.RegionHeld3
namespace Go.Proofs.Ytpnophmanpfejaa
set_option linter.unusedSimpArgs false
set_option linter.unusedVariables false
open Go.RowKit

theorem ans_region {g : ParityD} {l : TwoD} (hok : ParityOk g) (hans : AnsOk g l) (who : Int) : IsSet (regionOf l who) g.arena.owner.length := by
  unfold regionOf
  split
  · unfold places placesTo
    have hp : (upFrom 0 l.fst.length).Pairwise (· < ·) := by
      unfold upFrom
      rw [List.pairwise_map]
      exact List.pairwise_lt_range.imp fun h => by omega
    have hf := hp.sublist (List.filter_sublist (p := fun v => decide (ix l.fst v.toNat = who)) (l := upFrom 0 l.fst.length))
    intro k hk
    have hm : ix ((upFrom 0 l.fst.length).filter fun v => decide (ix l.fst v.toNat = who)) k ∈ upFrom 0 l.fst.length := (List.mem_filter.1 (mem_ix.2 ⟨k, hk, rfl⟩)).1
    obtain ⟨j, hj, e⟩ := mem_upFrom.1 hm
    have h1 := hans.won
    have h2 := hok.len
    refine ⟨by omega, by omega, fun h0 => ?_⟩
    have := List.pairwise_iff_getElem.1 hf (k - 1) k (by omega) hk (by omega)
    rwa [← ix_lt, ← ix_lt] at this
  · intro k hk; simp at hk
theorem ans_plan {g : ParityD} {l : TwoD} (hok : ParityOk g) (hans : AnsOk g l) (who : Int) : PlanOk g.arena who (partTo g.arena who l.snd g.prio.length) := by
  refine ⟨by rw [length_partTo, hok.len], fun v hv => ?_⟩
  rw [length_partTo] at hv
  rw [ix_partTo hv]
  unfold planAtB partAt
  by_cases e : ix g.arena.owner v = who
  · rw [if_pos e]
    have h := hans.vert v (by rw [hans.won]; exact hv)
    unfold ansAt at h
    rw [Bool.and_eq_true] at h
    have h2 := h.2
    split at h2
    · simp [e, h2]
    · have h3 := of_decide_eq_true h2
      simp [h3]
  · rw [if_neg e]; simp
theorem ans_check {g : ParityD} {l : TwoD} (hok : ParityOk g) (hans : AnsOk g l) {who : Int} (hw : playerB who = true) : CheckOk g.arena who (regionOf l who) (partTo g.arena who l.snd g.prio.length) :=
  ⟨hok.arena, hw, ans_region hok hans who, ans_plan hok hans who⟩
noncomputable def ansSide (g : ParityD) (l : TwoD) (who : Int) : Bool := winsB g who (regionOf l who) (partTo g.arena who l.snd g.prio.length)
noncomputable def ansOkB (g : ParityD) (l : TwoD) : Bool := (parityOkB g && isAnsB g l) && (ansSide g l 0 && ansSide g l 1)
theorem ansSide_G {g : ParityD} {l : TwoD} (hok : ParityOk g) (hans : AnsOk g l) {who : Int} (hw : playerB who = true) : winsG g who (regionOf l who) (partTo g.arena who l.snd g.prio.length) = ansSide g l who := by
  unfold winsG badOkB ansSide
  rw [checkB_iff.2 (ans_check hok hans hw), parityOkB_iff.2 hok]; rfl
theorem below_drw1 {B : Nat} {a w : World} (h : Below B a w) : Below B a w.drew := ⟨h.os, h.tape, h.output, h.size, h.block⟩

set_option maxRecDepth 100000 in
set_option maxHeartbeats 4000000 in
theorem AnswerOk_any (v : Value) (g : ParityD) (u : Value) (l : TwoD) (w : World) (hv : IsParity w v g) (hu : IsTwo w u l) :
    Calls Try.prog 37 #[v, u] w fun e w' => e = .returned (.bool (ansOkB g l)) ∧ Below w.heap.size w w' := by
  obtain ⟨o, n, p, s, t, rfl, rfl, hbw, hB, hD⟩ := parity_answer_box hv hu
  cases hE : parityOkB g
  · have hres : ansOkB g l = false := by unfold ansOkB; rw [hE]; rfl
    rw [hres]; clear hres
    go_enter Try.func37, Try.ntmps37
    have hBz := hB.lt
    have hBc0 := hB.c0
    have hBc1 := hB.c1
    have hBc2 := hB.c2
    have hDz := hD.lt
    have hDc0 := hD.c0
    have hDc1 := hD.c1
    go_wp2_with fail
    refine (ParityOk_any _ g _ (hv.kept (Kept.of hbw))).mono ?_
    rintro e w1 ⟨rfl, hb1⟩
    clear hBc0 hBc1 hBc2 hDc0 hDc1 hBz hDz
    replace hB := hB.below hb1 hB.lt
    replace hD := hD.below hb1 hD.lt
    replace hbw := Below.up hbw hb1
    have hb1s := hb1.size
    clear hb1
    have hBz := hB.lt
    have hBc0 := hB.c0
    have hBc1 := hB.c1
    have hBc2 := hB.c2
    have hDz := hD.lt
    have hDc0 := hD.c0
    have hDc1 := hD.c1
    go_wp2
    go_ret
    exact ⟨rfl, hbw⟩
  · have hok := parityOkB_iff.1 hE
    cases hE2 : isAnsB g l
    · have hres : ansOkB g l = false := by unfold ansOkB; rw [hE, hE2]; rfl
      rw [hres]; clear hres
      go_enter Try.func37, Try.ntmps37
      have hBz := hB.lt
      have hBc0 := hB.c0
      have hBc1 := hB.c1
      have hBc2 := hB.c2
      have hDz := hD.lt
      have hDc0 := hD.c0
      have hDc1 := hD.c1
      go_wp2_with fail
      refine (ParityOk_any _ g _ (hv.kept (Kept.of hbw))).mono ?_
      rintro e w1 ⟨rfl, hb1⟩
      clear hBc0 hBc1 hBc2 hDc0 hDc1 hBz hDz
      replace hB := hB.below hb1 hB.lt
      replace hD := hD.below hb1 hD.lt
      replace hbw := Below.up hbw hb1
      have hb1s := hb1.size
      clear hb1
      have hBz := hB.lt
      have hBc0 := hB.c0
      have hBc1 := hB.c1
      have hBc2 := hB.c2
      have hDz := hD.lt
      have hDc0 := hD.c0
      have hDc1 := hD.c1
      go_wp2_with fail
      refine (isAnswer_any _ g _ l _ (hv.kept (Kept.of hbw)) (hu.kept (Kept.of hbw)) hok).mono ?_
      rintro e w2 ⟨rfl, hb2⟩
      clear hBc0 hBc1 hBc2 hDc0 hDc1 hBz hDz
      replace hB := hB.below hb2 hB.lt
      replace hD := hD.below hb2 hD.lt
      replace hbw := Below.up hbw hb2
      have hb2s := hb2.size
      clear hb2
      have hBz := hB.lt
      have hBc0 := hB.c0
      have hBc1 := hB.c1
      have hBc2 := hB.c2
      have hDz := hD.lt
      have hDc0 := hD.c0
      have hDc1 := hD.c1
      go_wp2
      go_ret
      exact ⟨rfl, hbw⟩
    · have hans := isAnsB_iff.1 hE2
      have hres : ansOkB g l = (ansSide g l 0 && ansSide g l 1) := by unfold ansOkB; rw [hE, hE2]; rfl
      have hside : ∀ k : Nat, k ≤ 1 → ∀ W rv pv, Kept w W → Ints W rv (regionOf l (k : Int)) → Ints W pv (partTo g.arena (k : Int) l.snd g.prio.length) → Calls Try.prog 90 #[.agg #[o, n, p], .int .i64 (k : Int), rv, pv] W fun e w' => e = .returned (.bool (ansSide g l (k : Int))) ∧ Below W.heap.size W w' := fun k hk W rv pv hW h1 h2 =>
        winsBy_any _ g _ _ _ _ _ W (hv.kept hW) h1 h2 hok (ans_check hok hans (by unfold playerB; simp; omega))
      have Hside := Lib.hid hside
      have Hreg := Lib.hid (fun (k : Int) W (hW : Kept w W) => implRegionOf_any _ l k W (hu.kept hW))
      have Hpart := Lib.hid (fun (k : Int) W (hW : Kept w W) => partOf_any _ g _ l k W (hv.kept hW) (hu.kept hW) hok hans)
      rw [hres]; clear hres hside
      go_enter Try.func37, Try.ntmps37
      have hBz := hB.lt
      have hBc0 := hB.c0
      have hBc1 := hB.c1
      have hBc2 := hB.c2
      have hDz := hD.lt
      have hDc0 := hD.c0
      have hDc1 := hD.c1
      go_wp2_with fail
      refine (ParityOk_any _ g _ (hv.kept (Kept.of hbw))).mono ?_
      rintro e w1 ⟨rfl, hb1⟩
      clear hBc0 hBc1 hBc2 hDc0 hDc1 hBz hDz
      replace hB := hB.below hb1 hB.lt
      replace hD := hD.below hb1 hD.lt
      replace hbw := Below.up hbw hb1
      have hb1s := hb1.size
      clear hb1
      have hBz := hB.lt
      have hBc0 := hB.c0
      have hBc1 := hB.c1
      have hBc2 := hB.c2
      have hDz := hD.lt
      have hDc0 := hD.c0
      have hDc1 := hD.c1
      go_wp2_with fail
      refine (isAnswer_any _ g _ l _ (hv.kept (Kept.of hbw)) (hu.kept (Kept.of hbw)) hok).mono ?_
      rintro e w2 ⟨rfl, hb2⟩
      clear hBc0 hBc1 hBc2 hDc0 hDc1 hBz hDz
      replace hB := hB.below hb2 hB.lt
      replace hD := hD.below hb2 hD.lt
      replace hbw := Below.up hbw hb2
      have hb2s := hb2.size
      clear hb2
      have hBz := hB.lt
      have hBc0 := hB.c0
      have hBc1 := hB.c1
      have hBc2 := hB.c2
      have hDz := hD.lt
      have hDc0 := hD.c0
      have hDc1 := hD.c1
      go_wp2
      clear hBc0 hBc1 hBc2 hDc0 hDc1 hBz hDz
      have hw2 := hbw.size
      have hBz := hB.lt
      have hDz := hD.lt
      go_loopw [5] (fun i wr => ∃ k : Nat, k ≤ 2 ∧ i = .int .i64 (k : Int) ∧ Hid (∀ j : Nat, j < k → ansSide g l (j : Int) = true) ∧ Below w2.heap.size w2 wr) (fun i _ => 2 - (intOf i).toNat)
      case atStart => exact ⟨0, by omega, rfl, Lib.hid (fun j hj => by omega), Below.refl _ _⟩
      case round =>
        obtain ⟨k, hk, rfl, Hk, hbr⟩ := hrel
        obtain ⟨wo, rfl⟩ : ∃ wo : World, wo = wr := ⟨_, rfl⟩
        have hbwo := Below.up hbw hbr
        have hBr := hB.below hbr hBz
        have hDr := hD.below hbr hDz
        by_cases hlt : k ≤ 1
        · have hlt' : (k : Int) ≤ 1 := by omega
          have Hc := Lib.hid (Hside.out k hlt)
          have Hc1 := Lib.hid (Hreg.out k)
          have Hc2 := Lib.hid (Hpart.out k)
          have HS := Lib.hid (fun W (hW : Below wo.heap.size wo W) => show W.cell? ⟨w.heap.size, 0, none⟩ = some o ∧ W.cell? ⟨w.heap.size, 1, none⟩ = some n ∧ W.cell? ⟨w.heap.size, 2, none⟩ = some p ∧ W.cell? ⟨w.heap.size + 1, 0, none⟩ = some s ∧ W.cell? ⟨w.heap.size + 1, 1, none⟩ = some t from
            ⟨(hBr.below hW hBr.lt).c0, (hBr.below hW hBr.lt).c1, (hBr.below hW hBr.lt).c2, (hDr.below hW hDr.lt).c0, (hDr.below hW hDr.lt).c1⟩)
          have hR0 : Below wo.heap.size wo wo.drew := below_drw1 (Below.refl _ _)
          go_wp2
          go_region_held3 (fun W => W.cell? ⟨w.heap.size, 0, none⟩ = some o ∧ W.cell? ⟨w.heap.size, 1, none⟩ = some n ∧ W.cell? ⟨w.heap.size, 2, none⟩ = some p ∧ W.cell? ⟨w.heap.size + 1, 0, none⟩ = some s ∧ W.cell? ⟨w.heap.size + 1, 1, none⟩ = some t)
            (first | exact HS.out _ hR0 | exact HS.out _ hR3 | exact HS.out _ hR4 | exact HS.out _ hR5)
            (first | (go_at_call 95; refine (Hc1.out _ (Kept.of (Below.up hbwo hR0))).mono ?_; rintro e w3 ⟨v3, rfl, ho3, hb3⟩; have hR3 := Below.up hR0 hb3) | (go_at_call 96; refine (Hc2.out _ (Kept.of (Below.up hbwo hR3))).mono ?_; rintro e w4 ⟨v4, rfl, ho4, hb4⟩; have hR4 := Below.up hR3 hb4) | (go_at_call 90; refine (Hc.out _ _ _ (Kept.of (Below.up hbwo hR4)) (ho3.ints.kept (Kept.of hb4)) ho4.ints).mono ?_; rintro e w5 ⟨rfl, hb5⟩; have hR5 := Below.up hR4 hb5))
          cases hA : ansSide g l (k : Int)
          · go_wp2
            go_ret
            refine ⟨?_, Below.up hbwo hR5⟩
            have hf : (ansSide g l 0 && ansSide g l 1) = false := by
              rcases (show k = 0 ∨ k = 1 by omega) with rfl | rfl
              · have : ansSide g l 0 = false := hA
                rw [this]; rfl
              · have : ansSide g l 1 = false := hA
                rw [this]; simp
            rw [hf]; rfl
          · go_wp2
            exact ⟨⟨k + 1, by omega, by go_num, Lib.hid (fun j hj => by
              by_cases e : j = k
              · subst e; exact hA
              · exact Hk.out j (by omega)), Below.up hbr hR5⟩, by simp [intOf]; omega⟩
        · obtain rfl : k = 2 := by omega
          have h0 := Hk.out 0 (by omega)
          have h1 := Hk.out 1 (by omega)
          have hf : (ansSide g l 0 && ansSide g l 1) = true := by
            rw [show ansSide g l 0 = true from h0, show ansSide g l 1 = true from h1]; rfl
          clear h0 h1
          go_wp2
          go_ret
          exact ⟨by rw [hf]; rfl, hbwo⟩
end Go.Proofs.Ytpnophmanpfejaa
