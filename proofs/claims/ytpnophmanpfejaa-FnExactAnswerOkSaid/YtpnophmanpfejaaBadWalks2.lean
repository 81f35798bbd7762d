/- The walks of BadLoops, CleanIn and WinsBy. -/
import Derived.Test.YtpnophmanpfejaaBadWalks
import Derived.Test.YtpnophmanpfejaaEdgesWalks
namespace Go.Proofs.Ytpnophmanpfejaa
set_option linter.unusedSimpArgs false
set_option linter.unusedVariables false
open Go.RowKit

def badOkB (g : ParityD) (who : Int) (s plan : List Int) : Bool := parityOkB g && checkB g.arena who s plan
noncomputable def badG (g : ParityD) (who : Int) (s plan : List Int) : List Int := if badOkB g who s plan then badL g who s plan else []
theorem badOkB_spec (g : ParityD) (who : Int) (s plan : List Int) : badOkB g who s plan = (parityOkB g && (planOkB g.arena who plan && isSetB s g.prio.length)) := by
  unfold badOkB
  cases hE : parityOkB g
  · rfl
  · rw [checkB_spec, (parityOkB_iff.1 hE).len]
theorem badG_len (g : ParityD) (who : Int) (s plan : List Int) : (badG g who s plan).length ≤ 1048576 := by
  unfold badG
  split
  · rename_i h
    unfold badOkB at h
    rw [Bool.and_eq_true] at h
    have h2 := checkB_iff.1 h.2
    have := h2.set.length_le
    have := h2.arena.le
    have := badL_len g who s plan
    omega
  · simp

set_option maxHeartbeats 1000000 in
theorem l6Right_any (v : Value) (g : ParityD) (who : Int) (u : Value) (s : List Int) (y : Value) (plan : List Int) (w : World) (hv : IsParity w v g) (hu : Ints w u s) (hy : Ints w y plan) :
    Calls Try.prog 84 #[v, .int .i64 who, u, y] w fun e w' => e = .returned (.bool (badOkB g who s plan)) ∧ Below w.heap.size w w' := by
  obtain ⟨o, n, p, rfl, hbw, hB⟩ := parity_box hv
  obtain ⟨ha, hp⟩ := hv.parts
  rw [badOkB_spec]
  cases hE : parityOkB g
  · skip
    go_enter Try.func84, Try.ntmps84
    have hBz := hB.lt
    have hBc0 := hB.c0
    have hBc1 := hB.c1
    have hBc2 := hB.c2
    go_wp2_with fail
    refine (specParityOk_any _ g _ (hv.kept (Kept.of hbw))).mono ?_
    rintro e w1 ⟨rfl, hb1⟩
    clear hBc0 hBc1 hBc2 hBz
    replace hB := hB.below hb1 hB.lt
    replace hbw := Below.up hbw hb1
    have hb1s := hb1.size
    clear hb1
    have hBz := hB.lt
    have hBc0 := hB.c0
    have hBc1 := hB.c1
    have hBc2 := hB.c2
    go_wp2
    go_ret
    exact ⟨rfl, hbw⟩
  · cases hE2 : planOkB g.arena who plan
    · skip
      go_enter Try.func84, Try.ntmps84
      have hBz := hB.lt
      have hBc0 := hB.c0
      have hBc1 := hB.c1
      have hBc2 := hB.c2
      go_wp2_with fail
      refine (specParityOk_any _ g _ (hv.kept (Kept.of hbw))).mono ?_
      rintro e w1 ⟨rfl, hb1⟩
      clear hBc0 hBc1 hBc2 hBz
      replace hB := hB.below hb1 hB.lt
      replace hbw := Below.up hbw hb1
      have hb1s := hb1.size
      clear hb1
      have hBz := hB.lt
      have hBc0 := hB.c0
      have hBc1 := hB.c1
      have hBc2 := hB.c2
      go_wp2_with fail
      refine (specPlanOk_any _ g.arena who _ plan _ (ha.kept (Kept.of hbw)) (hy.kept (Kept.of hbw))).mono ?_
      rintro e w2 ⟨rfl, hb2⟩
      clear hBc0 hBc1 hBc2 hBz
      replace hB := hB.below hb2 hB.lt
      replace hbw := Below.up hbw hb2
      have hb2s := hb2.size
      clear hb2
      have hBz := hB.lt
      have hBc0 := hB.c0
      have hBc1 := hB.c1
      have hBc2 := hB.c2
      go_wp2
      go_ret
      exact ⟨rfl, hbw⟩
    · skip
      go_enter Try.func84, Try.ntmps84
      have hBz := hB.lt
      have hBc0 := hB.c0
      have hBc1 := hB.c1
      have hBc2 := hB.c2
      go_wp2_with fail
      refine (specParityOk_any _ g _ (hv.kept (Kept.of hbw))).mono ?_
      rintro e w1 ⟨rfl, hb1⟩
      clear hBc0 hBc1 hBc2 hBz
      replace hB := hB.below hb1 hB.lt
      replace hbw := Below.up hbw hb1
      have hb1s := hb1.size
      clear hb1
      have hBz := hB.lt
      have hBc0 := hB.c0
      have hBc1 := hB.c1
      have hBc2 := hB.c2
      go_wp2_with fail
      refine (specPlanOk_any _ g.arena who _ plan _ (ha.kept (Kept.of hbw)) (hy.kept (Kept.of hbw))).mono ?_
      rintro e w2 ⟨rfl, hb2⟩
      clear hBc0 hBc1 hBc2 hBz
      replace hB := hB.below hb2 hB.lt
      replace hbw := Below.up hbw hb2
      have hb2s := hb2.size
      clear hb2
      have hBz := hB.lt
      have hBc0 := hB.c0
      have hBc1 := hB.c1
      have hBc2 := hB.c2
      go_wp2_with fail
      refine (l4Set_any _ g _ s _ (hv.kept (Kept.of hbw)) (hu.kept (Kept.of hbw))).mono ?_
      rintro e w3 ⟨rfl, hb3⟩
      clear hBc0 hBc1 hBc2 hBz
      replace hB := hB.below hb3 hB.lt
      replace hbw := Below.up hbw hb3
      have hb3s := hb3.size
      clear hb3
      have hBz := hB.lt
      have hBc0 := hB.c0
      have hBc1 := hB.c1
      have hBc2 := hB.c2
      go_wp2
      go_ret
      exact ⟨rfl, hbw⟩

set_option maxHeartbeats 1000000 in
theorem BadLoops_any (v : Value) (g : ParityD) (who : Int) (u : Value) (s : List Int) (y : Value) (plan : List Int) (w : World) (hv : IsParity w v g) (hu : Ints w u s) (hy : Ints w y plan) :
    Calls Try.prog 31 #[v, .int .i64 who, u, y] w (RetInts w (badG g who s plan)) := by
  obtain ⟨o, n, p, rfl, hbw, hB⟩ := parity_box hv
  obtain ⟨ha, hp⟩ := hv.parts
  cases hE : parityOkB g
  · have hres : badG g who s plan = [] := by unfold badG badOkB; rw [hE]; rfl
    rw [hres]; clear hres
    go_enter Try.func31, Try.ntmps31
    have hBz := hB.lt
    have hBc0 := hB.c0
    have hBc1 := hB.c1
    have hBc2 := hB.c2
    go_wp2_with fail
    refine (ParityOk_any _ g _ (hv.kept (Kept.of hbw))).mono ?_
    rintro e w1 ⟨rfl, hb1⟩
    clear hBc0 hBc1 hBc2 hBz
    replace hB := hB.below hb1 hB.lt
    replace hbw := Below.up hbw hb1
    have hb1s := hb1.size
    clear hb1
    have hBz := hB.lt
    have hBc0 := hB.c0
    have hBc1 := hB.c1
    have hBc2 := hB.c2
    go_wp2
    go_ret
    exact .mk' (OwnInts.nil _ _) hbw
  · cases hE2 : checkB g.arena who s plan
    · have hres : badG g who s plan = [] := by unfold badG badOkB; rw [hE, hE2]; rfl
      rw [hres]; clear hres
      go_enter Try.func31, Try.ntmps31
      have hBz := hB.lt
      have hBc0 := hB.c0
      have hBc1 := hB.c1
      have hBc2 := hB.c2
      go_wp2_with fail
      refine (ParityOk_any _ g _ (hv.kept (Kept.of hbw))).mono ?_
      rintro e w1 ⟨rfl, hb1⟩
      clear hBc0 hBc1 hBc2 hBz
      replace hB := hB.below hb1 hB.lt
      replace hbw := Below.up hbw hb1
      have hb1s := hb1.size
      clear hb1
      have hBz := hB.lt
      have hBc0 := hB.c0
      have hBc1 := hB.c1
      have hBc2 := hB.c2
      go_wp2_with fail
      refine (canCheck_any _ g.arena who _ s _ plan _ (ha.kept (Kept.of hbw)) (hu.kept (Kept.of hbw)) (hy.kept (Kept.of hbw))).mono ?_
      rintro e w2 ⟨rfl, hb2⟩
      clear hBc0 hBc1 hBc2 hBz
      replace hB := hB.below hb2 hB.lt
      replace hbw := Below.up hbw hb2
      have hb2s := hb2.size
      clear hb2
      have hBz := hB.lt
      have hBc0 := hB.c0
      have hBc1 := hB.c1
      have hBc2 := hB.c2
      go_wp2
      go_ret
      exact .mk' (OwnInts.nil _ _) hbw
    · have hres : badG g who s plan = badL g who s plan := by unfold badG badOkB; rw [hE, hE2]; rfl
      rw [hres]; clear hres
      go_enter Try.func31, Try.ntmps31
      have hBz := hB.lt
      have hBc0 := hB.c0
      have hBc1 := hB.c1
      have hBc2 := hB.c2
      go_wp2_with fail
      refine (ParityOk_any _ g _ (hv.kept (Kept.of hbw))).mono ?_
      rintro e w1 ⟨rfl, hb1⟩
      clear hBc0 hBc1 hBc2 hBz
      replace hB := hB.below hb1 hB.lt
      replace hbw := Below.up hbw hb1
      have hb1s := hb1.size
      clear hb1
      have hBz := hB.lt
      have hBc0 := hB.c0
      have hBc1 := hB.c1
      have hBc2 := hB.c2
      go_wp2_with fail
      refine (canCheck_any _ g.arena who _ s _ plan _ (ha.kept (Kept.of hbw)) (hu.kept (Kept.of hbw)) (hy.kept (Kept.of hbw))).mono ?_
      rintro e w2 ⟨rfl, hb2⟩
      clear hBc0 hBc1 hBc2 hBz
      replace hB := hB.below hb2 hB.lt
      replace hbw := Below.up hbw hb2
      have hb2s := hb2.size
      clear hb2
      have hBz := hB.lt
      have hBc0 := hB.c0
      have hBc1 := hB.c1
      have hBc2 := hB.c2
      go_wp2_with fail
      refine (badLoops_any _ g who _ s _ plan _ (hv.kept (Kept.of hbw)) (hu.kept (Kept.of hbw)) (hy.kept (Kept.of hbw)) (parityOkB_iff.1 hE) (checkB_iff.1 hE2)).mono ?_
      rintro e w9 ⟨u9, rfl, ho9, hb9⟩
      go_wp2
      go_ret
      exact .at_ hbw ho9 hb9

noncomputable def cleanB (g : ParityD) (who : Int) (s plan : List Int) : Bool := badOkB g who s plan && ((badL g who s plan).length == (0 : Int))
set_option maxHeartbeats 1000000 in
theorem CleanIn_any (v : Value) (g : ParityD) (who : Int) (u : Value) (s : List Int) (y : Value) (plan : List Int) (w : World) (hv : IsParity w v g) (hu : Ints w u s) (hy : Ints w y plan) :
    Calls Try.prog 29 #[v, .int .i64 who, u, y] w fun e w' => e = .returned (.bool (cleanB g who s plan)) ∧ Below w.heap.size w w' := by
  obtain ⟨o, n, p, rfl, hbw, hB⟩ := parity_box hv
  obtain ⟨ha, hp⟩ := hv.parts
  cases hE : parityOkB g
  · have hres : cleanB g who s plan = false := by unfold cleanB badOkB; rw [hE]; rfl
    rw [hres]; clear hres
    go_enter Try.func29, Try.ntmps29
    have hBz := hB.lt
    have hBc0 := hB.c0
    have hBc1 := hB.c1
    have hBc2 := hB.c2
    go_wp2_with fail
    refine (ParityOk_any _ g _ (hv.kept (Kept.of hbw))).mono ?_
    rintro e w1 ⟨rfl, hb1⟩
    clear hBc0 hBc1 hBc2 hBz
    replace hB := hB.below hb1 hB.lt
    replace hbw := Below.up hbw hb1
    have hb1s := hb1.size
    clear hb1
    have hBz := hB.lt
    have hBc0 := hB.c0
    have hBc1 := hB.c1
    have hBc2 := hB.c2
    go_wp2
    go_ret
    exact ⟨rfl, hbw⟩
  · cases hE2 : checkB g.arena who s plan
    · have hres : cleanB g who s plan = false := by unfold cleanB badOkB; rw [hE, hE2]; rfl
      rw [hres]; clear hres
      go_enter Try.func29, Try.ntmps29
      have hBz := hB.lt
      have hBc0 := hB.c0
      have hBc1 := hB.c1
      have hBc2 := hB.c2
      go_wp2_with fail
      refine (ParityOk_any _ g _ (hv.kept (Kept.of hbw))).mono ?_
      rintro e w1 ⟨rfl, hb1⟩
      clear hBc0 hBc1 hBc2 hBz
      replace hB := hB.below hb1 hB.lt
      replace hbw := Below.up hbw hb1
      have hb1s := hb1.size
      clear hb1
      have hBz := hB.lt
      have hBc0 := hB.c0
      have hBc1 := hB.c1
      have hBc2 := hB.c2
      go_wp2_with fail
      refine (canCheck_any _ g.arena who _ s _ plan _ (ha.kept (Kept.of hbw)) (hu.kept (Kept.of hbw)) (hy.kept (Kept.of hbw))).mono ?_
      rintro e w2 ⟨rfl, hb2⟩
      clear hBc0 hBc1 hBc2 hBz
      replace hB := hB.below hb2 hB.lt
      replace hbw := Below.up hbw hb2
      have hb2s := hb2.size
      clear hb2
      have hBz := hB.lt
      have hBc0 := hB.c0
      have hBc1 := hB.c1
      have hBc2 := hB.c2
      go_wp2
      go_ret
      exact ⟨rfl, hbw⟩
    · have hres : cleanB g who s plan = ((badL g who s plan).length == (0 : Int)) := by unfold cleanB badOkB; rw [hE, hE2]; rfl
      rw [hres]; clear hres
      go_enter Try.func29, Try.ntmps29
      have hBz := hB.lt
      have hBc0 := hB.c0
      have hBc1 := hB.c1
      have hBc2 := hB.c2
      go_wp2_with fail
      refine (ParityOk_any _ g _ (hv.kept (Kept.of hbw))).mono ?_
      rintro e w1 ⟨rfl, hb1⟩
      clear hBc0 hBc1 hBc2 hBz
      replace hB := hB.below hb1 hB.lt
      replace hbw := Below.up hbw hb1
      have hb1s := hb1.size
      clear hb1
      have hBz := hB.lt
      have hBc0 := hB.c0
      have hBc1 := hB.c1
      have hBc2 := hB.c2
      go_wp2_with fail
      refine (canCheck_any _ g.arena who _ s _ plan _ (ha.kept (Kept.of hbw)) (hu.kept (Kept.of hbw)) (hy.kept (Kept.of hbw))).mono ?_
      rintro e w2 ⟨rfl, hb2⟩
      clear hBc0 hBc1 hBc2 hBz
      replace hB := hB.below hb2 hB.lt
      replace hbw := Below.up hbw hb2
      have hb2s := hb2.size
      clear hb2
      have hBz := hB.lt
      have hBc0 := hB.c0
      have hBc1 := hB.c1
      have hBc2 := hB.c2
      go_wp2_with fail
      refine (badLoops_any _ g who _ s _ plan _ (hv.kept (Kept.of hbw)) (hu.kept (Kept.of hbw)) (hy.kept (Kept.of hbw)) (parityOkB_iff.1 hE) (checkB_iff.1 hE2)).mono ?_
      rintro e w9 ⟨u9, rfl, ho9, hb9⟩
      obtain ⟨A9, c9, rfl, _⟩ := ho9.ints.form
      go_wp2
      go_ret
      exact ⟨rfl, Below.up hbw hb9⟩

noncomputable def winsB (g : ParityD) (who : Int) (s plan : List Int) : Bool := closedL g.arena who s plan && ((badL g who s plan).length == (0 : Int))
noncomputable def winsG (g : ParityD) (who : Int) (s plan : List Int) : Bool := badOkB g who s plan && winsB g who s plan
set_option maxHeartbeats 1000000 in
theorem winsBy_any (v : Value) (g : ParityD) (who : Int) (u : Value) (s : List Int) (y : Value) (plan : List Int) (w : World) (hv : IsParity w v g) (hu : Ints w u s) (hy : Ints w y plan) (hok : ParityOk g) (hck : CheckOk g.arena who s plan) :
    Calls Try.prog 90 #[v, .int .i64 who, u, y] w fun e w' => e = .returned (.bool (winsB g who s plan)) ∧ Below w.heap.size w w' := by
  obtain ⟨o, n, p, rfl, hbw, hB⟩ := parity_box hv
  obtain ⟨ha, hp⟩ := hv.parts
  cases hE : closedL g.arena who s plan
  · have hres : winsB g who s plan = false := by unfold winsB; rw [hE]; rfl
    rw [hres]; clear hres
    go_enter Try.func90, Try.ntmps90
    have hBz := hB.lt
    have hBc0 := hB.c0
    have hBc1 := hB.c1
    have hBc2 := hB.c2
    go_wp2_with fail
    refine (closedIn_any _ g.arena who _ s _ plan _ (ha.kept (Kept.of hbw)) (hu.kept (Kept.of hbw)) (hy.kept (Kept.of hbw)) hck).mono ?_
    rintro e w1 ⟨rfl, hb1⟩
    clear hBc0 hBc1 hBc2 hBz
    replace hB := hB.below hb1 hB.lt
    replace hbw := Below.up hbw hb1
    have hb1s := hb1.size
    clear hb1
    have hBz := hB.lt
    have hBc0 := hB.c0
    have hBc1 := hB.c1
    have hBc2 := hB.c2
    go_wp2
    go_ret
    exact ⟨rfl, hbw⟩
  · have hres : winsB g who s plan = ((badL g who s plan).length == (0 : Int)) := by unfold winsB; rw [hE]; rfl
    rw [hres]; clear hres
    go_enter Try.func90, Try.ntmps90
    have hBz := hB.lt
    have hBc0 := hB.c0
    have hBc1 := hB.c1
    have hBc2 := hB.c2
    go_wp2_with fail
    refine (closedIn_any _ g.arena who _ s _ plan _ (ha.kept (Kept.of hbw)) (hu.kept (Kept.of hbw)) (hy.kept (Kept.of hbw)) hck).mono ?_
    rintro e w1 ⟨rfl, hb1⟩
    clear hBc0 hBc1 hBc2 hBz
    replace hB := hB.below hb1 hB.lt
    replace hbw := Below.up hbw hb1
    have hb1s := hb1.size
    clear hb1
    have hBz := hB.lt
    have hBc0 := hB.c0
    have hBc1 := hB.c1
    have hBc2 := hB.c2
    go_wp2_with fail
    refine (badLoops_any _ g who _ s _ plan _ (hv.kept (Kept.of hbw)) (hu.kept (Kept.of hbw)) (hy.kept (Kept.of hbw)) hok hck).mono ?_
    rintro e w9 ⟨u9, rfl, ho9, hb9⟩
    obtain ⟨A9, c9, rfl, _⟩ := ho9.ints.form
    go_wp2
    go_ret
    exact ⟨rfl, Below.up hbw hb9⟩

set_option maxHeartbeats 1000000 in
theorem WinsBy_any (v : Value) (g : ParityD) (who : Int) (u : Value) (s : List Int) (y : Value) (plan : List Int) (w : World) (hv : IsParity w v g) (hu : Ints w u s) (hy : Ints w y plan) :
    Calls Try.prog 33 #[v, .int .i64 who, u, y] w fun e w' => e = .returned (.bool (winsG g who s plan)) ∧ Below w.heap.size w w' := by
  obtain ⟨o, n, p, rfl, hbw, hB⟩ := parity_box hv
  obtain ⟨ha, hp⟩ := hv.parts
  cases hE : parityOkB g
  · have hres : winsG g who s plan = false := by unfold winsG badOkB; rw [hE]; rfl
    rw [hres]; clear hres
    go_enter Try.func33, Try.ntmps33
    have hBz := hB.lt
    have hBc0 := hB.c0
    have hBc1 := hB.c1
    have hBc2 := hB.c2
    go_wp2_with fail
    refine (ParityOk_any _ g _ (hv.kept (Kept.of hbw))).mono ?_
    rintro e w1 ⟨rfl, hb1⟩
    clear hBc0 hBc1 hBc2 hBz
    replace hB := hB.below hb1 hB.lt
    replace hbw := Below.up hbw hb1
    have hb1s := hb1.size
    clear hb1
    have hBz := hB.lt
    have hBc0 := hB.c0
    have hBc1 := hB.c1
    have hBc2 := hB.c2
    go_wp2
    go_ret
    exact ⟨rfl, hbw⟩
  · cases hE2 : checkB g.arena who s plan
    · have hres : winsG g who s plan = false := by unfold winsG badOkB; rw [hE, hE2]; rfl
      rw [hres]; clear hres
      go_enter Try.func33, Try.ntmps33
      have hBz := hB.lt
      have hBc0 := hB.c0
      have hBc1 := hB.c1
      have hBc2 := hB.c2
      go_wp2_with fail
      refine (ParityOk_any _ g _ (hv.kept (Kept.of hbw))).mono ?_
      rintro e w1 ⟨rfl, hb1⟩
      clear hBc0 hBc1 hBc2 hBz
      replace hB := hB.below hb1 hB.lt
      replace hbw := Below.up hbw hb1
      have hb1s := hb1.size
      clear hb1
      have hBz := hB.lt
      have hBc0 := hB.c0
      have hBc1 := hB.c1
      have hBc2 := hB.c2
      go_wp2_with fail
      refine (canCheck_any _ g.arena who _ s _ plan _ (ha.kept (Kept.of hbw)) (hu.kept (Kept.of hbw)) (hy.kept (Kept.of hbw))).mono ?_
      rintro e w2 ⟨rfl, hb2⟩
      clear hBc0 hBc1 hBc2 hBz
      replace hB := hB.below hb2 hB.lt
      replace hbw := Below.up hbw hb2
      have hb2s := hb2.size
      clear hb2
      have hBz := hB.lt
      have hBc0 := hB.c0
      have hBc1 := hB.c1
      have hBc2 := hB.c2
      go_wp2
      go_ret
      exact ⟨rfl, hbw⟩
    · have hres : winsG g who s plan = winsB g who s plan := by unfold winsG badOkB; rw [hE, hE2]; rfl
      rw [hres]; clear hres
      go_enter Try.func33, Try.ntmps33
      have hBz := hB.lt
      have hBc0 := hB.c0
      have hBc1 := hB.c1
      have hBc2 := hB.c2
      go_wp2_with fail
      refine (ParityOk_any _ g _ (hv.kept (Kept.of hbw))).mono ?_
      rintro e w1 ⟨rfl, hb1⟩
      clear hBc0 hBc1 hBc2 hBz
      replace hB := hB.below hb1 hB.lt
      replace hbw := Below.up hbw hb1
      have hb1s := hb1.size
      clear hb1
      have hBz := hB.lt
      have hBc0 := hB.c0
      have hBc1 := hB.c1
      have hBc2 := hB.c2
      go_wp2_with fail
      refine (canCheck_any _ g.arena who _ s _ plan _ (ha.kept (Kept.of hbw)) (hu.kept (Kept.of hbw)) (hy.kept (Kept.of hbw))).mono ?_
      rintro e w2 ⟨rfl, hb2⟩
      clear hBc0 hBc1 hBc2 hBz
      replace hB := hB.below hb2 hB.lt
      replace hbw := Below.up hbw hb2
      have hb2s := hb2.size
      clear hb2
      have hBz := hB.lt
      have hBc0 := hB.c0
      have hBc1 := hB.c1
      have hBc2 := hB.c2
      go_wp2_with fail
      refine (winsBy_any _ g who _ s _ plan _ (hv.kept (Kept.of hbw)) (hu.kept (Kept.of hbw)) (hy.kept (Kept.of hbw)) (parityOkB_iff.1 hE) (checkB_iff.1 hE2)).mono ?_
      rintro e w3 ⟨rfl, hb3⟩
      clear hBc0 hBc1 hBc2 hBz
      replace hB := hB.below hb3 hB.lt
      replace hbw := Below.up hbw hb3
      have hb3s := hb3.size
      clear hb3
      have hBz := hB.lt
      have hBc0 := hB.c0
      have hBc1 := hB.c1
      have hBc2 := hB.c2
      go_wp2
      go_ret
      exact ⟨rfl, hbw⟩
end Go.Proofs.Ytpnophmanpfejaa
