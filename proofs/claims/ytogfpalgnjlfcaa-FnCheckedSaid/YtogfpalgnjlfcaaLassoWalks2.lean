/- The walk of LassoOk, the reference's. No condition. -/
import Derived.Test.YtogfpalgnjlfcaaLassoWalks
import Derived.Test.YtogfpalgnjlfcaaClass
namespace Go.Proofs.Ytogfpalgnjlfcaa
set_option linter.unusedSimpArgs false
set_option linter.unusedVariables false
open Go.RowKit

theorem below_drewL {B : Nat} {a w : World} (h : Below B a w) : Below B a w.drew := ⟨h.os, h.tape, h.output, h.size, h.block⟩
theorem Kept.cellB {B : Nat} {w w' : World} (h : Below B w w') {p : Addr} {v : Value} (hp : p.block < B) (hc : w.cell? p = some v) : w'.cell? p = some v := (h.cell hp).trans hc

set_option maxRecDepth 100000 in
set_option maxHeartbeats 4000000 in
theorem specLassoOk_any (v : Value) (a : ArenaD) (u : Value) (l : TwoD) (w : World) (hv : IsArena w v a) (hu : IsTwo w u l) :
    Calls Try.prog 14 #[v, u] w fun e w' => e = .returned (.bool (lassoB a l)) ∧ Below w.heap.size w w' := by
  obtain ⟨o, n, s, t, rfl, rfl, hbw, hB, hD⟩ := arena_lasso_box hv hu
  obtain ⟨ho, hn⟩ := hv.parts
  obtain ⟨hs, ht⟩ := hu.parts
  obtain ⟨A, c, rfl, hlc, hcm⟩ := ho.form
  obtain ⟨A', c', rfl, hlc', hcm'⟩ := hn.form
  obtain ⟨S, sc, rfl, hsl, hsm⟩ := hs.form
  obtain ⟨T, tc, rfl, htl, htm⟩ := ht.form
  cases hE : arenaOkB a
  · have hres : lassoB a l = false := by unfold lassoB; rw [hE]; rfl
    rw [hres]; clear hres
    go_enter Try.func14, Try.ntmps14
    have hBz := hB.lt
    have hBc0 := hB.c0
    have hBc1 := hB.c1
    have hDz := hD.lt
    have hDc0 := hD.c0
    have hDc1 := hD.c1
    go_wp2_with fail
    refine (specArenaOk_any _ a _ (hv.kept (Kept.of hbw))).mono ?_
    rintro e w1 ⟨rfl, hb1⟩
    clear hBc0 hBc1 hDc0 hDc1 hBz hDz
    replace hB := hB.below hb1 hB.lt
    replace hD := hD.below hb1 hD.lt
    replace hbw := Below.up hbw hb1
    have hb1s := hb1.size
    clear hb1
    have hBz := hB.lt
    have hBc0 := hB.c0
    have hBc1 := hB.c1
    have hDz := hD.lt
    have hDc0 := hD.c0
    have hDc1 := hD.c1
    go_wp2
    go_ret
    exact ⟨rfl, hbw⟩
  · by_cases h1 : l.fst.length ≤ 256
    · by_cases h2 : 1 ≤ l.snd.length
      · by_cases h3 : l.snd.length ≤ 256
        · have hok := arenaOkB_iff.1 hE
          have hsz : sizesB l = true := sizesB_iff.2 ⟨h1, h2, h3⟩
          have hres : lassoB a l = sstepsB a (roundL l) := by unfold lassoB isLassoB; rw [hE, hsz, lasso_spec hsz]; rfl
          rw [hres]; clear hres hsz
          have Hlen := Lib.hid hok.len
          have hle := hok.le
          obtain ⟨a4, ea, hc4⟩ := ht.at_ (k := 0) (by omega)
          subst ea
          rw [add_zero'] at hc4
          have hc4b := World.block_lt_of_cell? w _ hc4
          have h0l : (0 : Int) < l.snd.length := by omega
          have h0n : 0 < l.snd.length := by omega
          obtain ⟨res, hres⟩ : ∃ r, sstepsB a (roundL l) = r := ⟨_, rfl⟩
          rw [hres]
          have Hres := Lib.hid hres
          clear hres
          have d1 : decide ((256 : Int) < l.fst.length) = false := by simp; omega
          have d2 : decide ((l.snd.length : Int) < 1) = false := by simp; omega
          have d3 : decide ((256 : Int) < l.snd.length) = false := by simp; omega
          go_enter Try.func14, Try.ntmps14
          have hBz := hB.lt
          have hBc0 := hB.c0
          have hBc1 := hB.c1
          have hDz := hD.lt
          have hDc0 := hD.c0
          have hDc1 := hD.c1
          go_wp2_with fail
          refine (specArenaOk_any _ a _ (hv.kept (Kept.of hbw))).mono ?_
          rintro e w1 ⟨rfl, hb1⟩
          clear hBc0 hBc1 hDc0 hDc1 hBz hDz
          replace hB := hB.below hb1 hB.lt
          replace hD := hD.below hb1 hD.lt
          replace hbw := Below.up hbw hb1
          have hb1s := hb1.size
          clear hb1
          have hBz := hB.lt
          have hBc0 := hB.c0
          have hBc1 := hB.c1
          have hDz := hD.lt
          have hDc0 := hD.c0
          have hDc1 := hD.c1
          go_wp2_with fail
          have hw0 := hbw.size
          have hDl := hD.lt
          have hBl := hB.lt
          clear d1 d2 d3
          have hcall := fun W (hW : Below w1.heap.size w1 W) => l1Copy_any _ l.fst W (((hs.kept (Kept.of hbw))).kept (Kept.of hW)) (by omega)
          have Hc := Lib.hid hcall
          have hSW : ∀ W, Below w1.heap.size w1 W → W.cell? ⟨w.heap.size + 1, 0, none⟩ = some (.slice S l.fst.length sc) ∧ W.cell? ⟨w.heap.size + 1, 1, none⟩ = some (.slice (some a4) l.snd.length tc) ∧ W.cell? a4 = some (.int .i64 (ix l.snd 0)) :=
            fun W h => ⟨(hD.below h hD.lt).c0, (hD.below h hD.lt).c1, Kept.cellB (Below.up hbw h) hc4b hc4⟩
          have HS := Lib.hid hSW
          have Ht := Lib.hid (fun W (hW : Below w1.heap.size w1 W) => ((ht.kept (Kept.of hbw))).kept (Kept.of hW))
          have hR0 : Below w1.heap.size w1 w1.drew := below_drewL (Below.refl _ _)
          have hRA : Below w1.heap.size w1 (w1.alloc (.cells #[.int .i64 (ix l.snd 0)] 2)).drew := below_drewL ((Below.refl _ _).alloc (Nat.le_refl _) _)
          have hszA : (w1.alloc (.cells #[.int .i64 (ix l.snd 0)] 2)).drew.heap.size = w1.heap.size + 1 := by simp
          have HszA := Lib.hid hszA
          have hxA : IArr (w1.alloc (.cells #[.int .i64 (ix l.snd 0)] 2)).drew w1.heap.size [ix l.snd 0] := Arr.new w1 2 [.int .i64 (ix l.snd 0)]
          have hcA : (w1.alloc (.cells #[.int .i64 (ix l.snd 0)] 2)).drew.cell? ⟨w1.heap.size, 0, none⟩ = some (.int .i64 (ix l.snd 0)) := (Arr.new w1 2 [.int .i64 (ix l.snd 0)]).c0
          clear hcall hSW hszA hc4
          clear hBc0 hBc1 hDc0 hDc1 hBz hDz
          go_region_held3 (fun W => W.cell? ⟨w.heap.size + 1, 0, none⟩ = some (.slice S l.fst.length sc) ∧ W.cell? ⟨w.heap.size + 1, 1, none⟩ = some (.slice (some a4) l.snd.length tc) ∧ W.cell? a4 = some (.int .i64 (ix l.snd 0)))
            (first | exact HS.out _ hR0 | exact HS.out _ hRA | exact HS.out _ hR2 | exact HS.out _ hR2a | exact HS.out _ hR3 | exact HS.out _ hR3a | exact HS.out _ hR4)
            (first | (go_at_call 48; refine (Hc.out w1.drew hR0).mono ?_; rintro e w2 ⟨u2, rfl, ho2, hb2⟩; obtain ⟨A2, c2, e2, _⟩ := ho2.ints.form; subst e2; replace ho2 : OwnInts w2 w1.heap.size (.slice A2 l.fst.length c2) l.fst := ho2; have hlt2 := ho2.lt; have hR2 : Below w1.heap.size w1 w2 := below_of_drew hb2; have hb2s := hR2.size; have hR2a := hR2.alloc hR2.size (.cells #[.int .i64 (ix l.snd 0)] 2); have hx2 := ione_new w2 (ix l.snd 0)) | (go_at_call 48; refine (Hc.out _ hRA).mono ?_; rintro e w2 ⟨u2, rfl, ho2, hb2⟩; obtain ⟨A2, c2, e2, _⟩ := ho2.ints.form; subst e2; rw [HszA.out] at ho2; have hR2 : Below w1.heap.size w1 w2 := hRA.trans (hb2.mono hRA.size); have hx2 : IArr w2 w1.heap.size [ix l.snd 0] := hxA.below' hb2 (by rw [HszA.out]; exact Nat.lt_succ_self _); have hb2s : w1.heap.size + 1 ≤ w2.heap.size := by have h := hb2.size; rw [HszA.out] at h; exact h) | (refine step_append_ints w2 rfl (.tmp 30) (.tmp 32) rfl w1.heap.size (.slice A2 l.fst.length c2) l.fst rfl ho2 (.slice (some a4) l.snd.length tc) l.snd rfl (Ht.out _ hR2) (by omega) hb2s ?_; intro v3 w3 ho3 hb3 hg3 hl3; obtain ⟨A3, c3, e3, _⟩ := ho3.ints.form; rw [List.length_append] at e3; subst e3; replace ho3 : OwnInts w3 w1.heap.size (.slice A3 (l.fst.length + l.snd.length) c3) (wayL l) := ho3; have hR3 := hR2.trans hb3; have hb3s := hR3.size; have hR3a := hR3.alloc hR3.size (.cells #[.int .i64 (ix l.snd 0)] 2); have ho3a : OwnInts (w3.alloc (.cells #[.int .i64 (ix l.snd 0)] 2)) w1.heap.size (.slice A3 (l.fst.length + l.snd.length) c3) (wayL l) := ho3.alloc _; have hx3a := (ione_new w3 (ix l.snd 0)).one_ints; have hb3z : w1.heap.size ≤ (w3.alloc (.cells #[.int .i64 (ix l.snd 0)] 2)).heap.size := by simp; omega) | (refine step_append_ints w2 rfl (.tmp 30) (.tmp 32) rfl (w1.heap.size + 1) (.slice A2 l.fst.length c2) l.fst rfl ho2 (.slice (some a4) l.snd.length tc) l.snd rfl (Ht.out _ hR2) (by omega) hb2s ?_; intro v3 w3 ho3 hb3 hg3 hl3; obtain ⟨A3, c3, e3, _⟩ := ho3.ints.form; rw [List.length_append] at e3; subst e3; replace ho3 : OwnInts w3 w1.heap.size (.slice A3 (l.fst.length + l.snd.length) c3) (wayL l) := ho3.more (Nat.le_succ _); have hR3 := hR2.trans (hb3.mono (Nat.le_succ _)); have hb3s := hR3.size; have hx3 := (hx2.below' hb3 (Nat.lt_succ_self _)).one_ints) | (refine step_append_ints (w2.alloc (.cells #[.int .i64 (ix l.snd 0)] 2)) rfl (.tmp 30) (.tmp 32) rfl w1.heap.size (.slice A2 l.fst.length c2) l.fst rfl (ho2.alloc _) (.slice (some a4) l.snd.length tc) l.snd rfl (Ht.out _ hR2a) (by omega) hR2a.size ?_; intro v3 w3 ho3 hb3 hg3 hl3; obtain ⟨A3, c3, e3, _⟩ := ho3.ints.form; rw [List.length_append] at e3; subst e3; replace ho3 : OwnInts w3 w1.heap.size (.slice A3 (l.fst.length + l.snd.length) c3) (wayL l) := ho3; have hR3 := hR2a.trans hb3; have hb3s := hR3.size; have hx3 := (hx2.heap' (hg3.block _ (Arr.lt hx2) (fun e => absurd (hlt2 _ e.symm).2 (Nat.lt_irrefl _)))).one_ints) | (refine step_append_ints w3 rfl (.tmp 33) (.tmp 38) rfl w1.heap.size (.slice A3 (l.fst.length + l.snd.length) c3) (wayL l) rfl ho3 _ [ix l.snd 0] rfl hx3 (by rw [length_wayL]; simp; omega) hb3s ?_; intro v4 w5 ho4 hb4 hg4 hl4; obtain ⟨A5, c5, e5, _⟩ := ho4.ints.form; rw [show (wayL l ++ [ix l.snd 0]).length = l.fst.length + l.snd.length + 1 from length_roundL l] at e5; subst e5; have hR4 := hR3.trans hb4) | (refine step_append_ints (w3.alloc (.cells #[.int .i64 (ix l.snd 0)] 2)) rfl (.tmp 33) (.tmp 38) rfl w1.heap.size (.slice A3 (l.fst.length + l.snd.length) c3) (wayL l) rfl ho3a _ [ix l.snd 0] rfl hx3a (by rw [length_wayL]; simp; omega) hb3z ?_; intro v4 w5 ho4 hb4 hg4 hl4; obtain ⟨A5, c5, e5, _⟩ := ho4.ints.form; rw [show (wayL l ++ [ix l.snd 0]).length = l.fst.length + l.snd.length + 1 from length_roundL l] at e5; subst e5; have hR4 := hR3a.trans hb4))
          all_goals
            have how : Ints w5 (.slice A5 (l.fst.length + l.snd.length + 1) c5) (roundL l) := ho4.ints
            have hB5 : Arr w5 w.heap.size _ _ := hB.below hR4 hBl
            have hbw5 : Below w.heap.size w w5 := Below.up hbw hR4
            clear hc4b HS Hc Ht hxA hcA hR0 hRA HszA hR2 hR3 hR4 ho4 hb4 hg4 hl4 ho3 hb3 hg3 hl3 ho2 hb2 hx2
            try clear hR2a
            try clear hx3
            try clear hR3a ho3a hx3a hb3z
            try clear hlt2
            clear hB hD hbw
            have hB := hB5
            have hbw := hbw5
            clear hB5 hbw5
            go_wp2
            go_loopw [6] (fun i wr => ∃ k : Nat, k ≤ l.fst.length + l.snd.length + 1 ∧ i = .int .i64 k ∧ Below w5.heap.size w5 wr ∧ ∀ j, j < k → sstepB a (roundL l) j = true) (fun i _ => l.fst.length + l.snd.length + 1 - (intOf i).toNat)
            case atStart => exact ⟨0, Nat.zero_le _, rfl, Below.refl _ _, fun j hj => by omega⟩
            case round =>
              obtain ⟨k, hk, rfl, hbr, hm⟩ := hrel
              have Hm := Lib.hid hm
              clear hm
              have hB6 : Arr wr w.heap.size _ _ := hB.below hbr hB.lt
              have hbw6 := Below.up hbw hbr
              have how6 := how.kept (Kept.of hbr)
              by_cases hlt : k < l.fst.length + l.snd.length + 1
              · obtain ⟨a6, ea6, hc6⟩ := how6.at_ (k := k) (by rw [length_roundL]; exact hlt)
                subst ea6
                have hcon := fun W (hW : Kept w W) => l1There_any _ a (ix (roundL l) k) W (hv.kept hW)
                have hkl : (k : Int) < (l.fst.length : Int) + l.snd.length + 1 := by omega
                cases e : thereB a (ix (roundL l) k)
                · have Hb := Lib.hid (sstepsB_bad (a := a) (w := roundL l) (k := k) (by rw [length_roundL]; omega) (by unfold sstepB; rw [e]; rfl))
                  rw [e] at hcon
                  have Hc := Lib.hid hcon
                  clear hcon e
                  go_wp2_with fail
                  have q0 := Cls.cell hB6.c0
                  have q1 := Cls.cell hB6.c1
                  have q2 := Cls.cell hc6
                  refine wp_region_cls (by kernel_rfl) (by kernel_rfl) ?_
                  repeat (first | go_big_quiet_step ((go_at_call 49; exact calls_cls (Hc.out _ ((Kept.of hbw6).trans (Cls.kept _) hbw6.size)))) | quiet_step ((go_at_call 49; exact calls_cls (Hc.out _ ((Kept.of hbw6).trans (Cls.kept _) hbw6.size)))))
                  refine wpQuiet_nil ?_
                  intro _ hw'
                  obtain ⟨⟨w7, hb7⟩, rfl⟩ := hw'
                  clear q0 q1 q2
                  go_wp2
                  go_ret
                  exact ⟨by rw [← Hres.out, Hb.out]; rfl, Below.up hbw6 hb7⟩
                · by_cases hk0 : k = 0
                  · subst hk0
                    have E := Lib.hid (show sstepB a (roundL l) 0 = true by unfold sstepB; rw [e]; rfl)
                    rw [e] at hcon
                    have Hc := Lib.hid hcon
                    clear hcon e
                    rw [add_zero'] at hc6
                    have hz : decide ((0 : Int) < ((0 : Nat) : Int)) = false := by decide
                    go_wp2_with fail
                    have q0 := Cls.cell hB6.c0
                    have q1 := Cls.cell hB6.c1
                    have q2 := Cls.cell hc6
                    refine wp_region_cls (by kernel_rfl) (by kernel_rfl) ?_
                    repeat (first | go_big_quiet_step ((go_at_call 49; exact calls_cls (Hc.out _ ((Kept.of hbw6).trans (Cls.kept _) hbw6.size)))) | quiet_step ((go_at_call 49; exact calls_cls (Hc.out _ ((Kept.of hbw6).trans (Cls.kept _) hbw6.size)))))
                    refine wpQuiet_nil ?_
                    intro _ hw'
                    obtain ⟨⟨w7, hb7⟩, rfl⟩ := hw'
                    clear q0 q1 q2
                    go_wp2
                    exact ⟨⟨1, by omega, by go_num, Below.up hbr hb7, fun j hj => by
                      obtain rfl : j = 0 := by omega
                      exact E.out⟩, by simp [intOf] <;> omega⟩
                  · obtain ⟨m, rfl⟩ : ∃ m, k = m + 1 := ⟨k - 1, by omega⟩
                    clear hk0
                    have hpre := Hm.out m (by omega)
                    unfold sstepB at hpre
                    rw [Bool.and_eq_true] at hpre
                    obtain ⟨j, hj, hjn⟩ := there_nat hpre.1
                    clear hpre
                    obtain ⟨_, e8, hc8⟩ := how6.at_ (k := m) (by rw [length_roundL]; omega)
                    injection e8 with e8
                    subst e8
                    obtain ⟨a9, R, r, ea9, hc9, hrow⟩ := (hn.kept (Kept.of hbw6)).at_ (k := j) (by rw [Hlen.out]; exact hjn)
                    subst ea9
                    have hc6' : wr.cell? ⟨a6.block, a6.off + (m + 1), none⟩ = some (.int .i64 (ix (roundL l) (m + 1))) := by
                      have h := hc6
                      unfold Addr.add at h
                      simpa using h
                    rw [hj] at hc8
                    have hstep : sstepB a (roundL l) (m + 1) = hasB (rx a.next j) (ix (roundL l) (m + 1)) := by
                      unfold sstepB stepB
                      rw [e, Nat.add_sub_cancel, hj, Int.toNat_natCast]; simp
                    have hcon2 := fun W (hW : Kept wr W) => l1Has_any _ (rx a.next j) (ix (roundL l) (m + 1)) W (hrow.kept hW)
                    rw [e] at hcon
                    rw [← hstep] at hcon2
                    have Hc := Lib.hid hcon
                    clear hcon e hj hstep
                    have hz : decide ((0 : Int) < ((m + 1 : Nat) : Int)) = true := decide_eq_true (by omega)
                    have hz2 : decide ((0 : Int) < (m : Int) + 1) = true := decide_eq_true (by omega)
                    have hjl : (j : Int) < a.next.length := by rw [Hlen.out]; omega
                    have hs1 : IntKind.i64.wrap (((m + 1 : Nat) : Int) - 1) = (m : Int) := by rw [show ((m + 1 : Nat) : Int) - 1 = m by omega]; exact IntWalk.i64_in _ (by omega)
                    have hs1a : IntKind.i64.wrap ((m : Int) + 1 - 1) = (m : Int) := by rw [Int.add_sub_cancel]; exact IntWalk.i64_in _ (by omega)
                    have hs1b : IntKind.i64.wrap (m : Int) = (m : Int) := IntWalk.i64_in _ (by omega)
                    have hml : (m : Int) < (l.fst.length : Int) + l.snd.length + 1 := by omega
                    have hml2 : (m : Int) + 1 < (l.fst.length : Int) + l.snd.length + 1 := by omega
                    have hml3 : m + 1 < l.fst.length + l.snd.length + 1 := by omega
                    cases e : sstepB a (roundL l) (m + 1)
                    · have Hb := Lib.hid (sstepsB_bad (a := a) (w := roundL l) (k := m + 1) (by rw [length_roundL]; omega) e)
                      rw [e] at hcon2
                      have Hc2 := Lib.hid hcon2
                      clear hcon2 e
                      go_wp2_with fail
                      have q0 := Cls.cell hB6.c0
                      have q1 := Cls.cell hB6.c1
                      have q2 := Cls.cell hc6'
                      have q3 := Cls.cell hc8
                      have q4 := Cls.cell hc9
                      refine wp_region_cls (by kernel_rfl) (by kernel_rfl) ?_
                      repeat (first | go_big_quiet_step ((first | (go_at_call 49; exact calls_cls (Hc.out _ ((Kept.of hbw6).trans (Cls.kept _) hbw6.size))) | (go_at_call 50; exact calls_cls_same (Hc2.out _ (Cls.kept _))))) | quiet_step ((first | (go_at_call 49; exact calls_cls (Hc.out _ ((Kept.of hbw6).trans (Cls.kept _) hbw6.size))) | (go_at_call 50; exact calls_cls_same (Hc2.out _ (Cls.kept _))))))
                      refine wpQuiet_nil ?_
                      intro _ hw'
                      obtain ⟨⟨w7, hb7⟩, rfl⟩ := hw'
                      clear q0 q1 q2 q3 q4
                      go_wp2
                      go_ret
                      exact ⟨by rw [← Hres.out, Hb.out]; rfl, Below.up hbw6 hb7⟩
                    · have E := Lib.hid e
                      rw [e] at hcon2
                      have Hc2 := Lib.hid hcon2
                      clear hcon2 e
                      go_wp2_with fail
                      have q0 := Cls.cell hB6.c0
                      have q1 := Cls.cell hB6.c1
                      have q2 := Cls.cell hc6'
                      have q3 := Cls.cell hc8
                      have q4 := Cls.cell hc9
                      refine wp_region_cls (by kernel_rfl) (by kernel_rfl) ?_
                      repeat (first | go_big_quiet_step ((first | (go_at_call 49; exact calls_cls (Hc.out _ ((Kept.of hbw6).trans (Cls.kept _) hbw6.size))) | (go_at_call 50; exact calls_cls_same (Hc2.out _ (Cls.kept _))))) | quiet_step ((first | (go_at_call 49; exact calls_cls (Hc.out _ ((Kept.of hbw6).trans (Cls.kept _) hbw6.size))) | (go_at_call 50; exact calls_cls_same (Hc2.out _ (Cls.kept _))))))
                      refine wpQuiet_nil ?_
                      intro _ hw'
                      obtain ⟨⟨w7, hb7⟩, rfl⟩ := hw'
                      clear q0 q1 q2 q3 q4
                      go_wp2
                      exact ⟨⟨m + 1 + 1, by omega, by go_num, Below.up hbr hb7, fun i hi => by
                        by_cases ei : i = m + 1
                        · rw [ei]; exact E.out
                        · exact Hm.out i (by omega)⟩, by simp [intOf]; omega⟩
              · have Hsb := Lib.hid (show sstepsB a (roundL l) = true by
                  unfold sstepsB
                  rw [decide_eq_true_eq]
                  intro j hj
                  rw [length_roundL] at hj
                  exact Hm.out j (by omega))
                go_wp2
                go_ret
                exact ⟨by rw [← Hres.out, Hsb.out]; rfl, hbw6⟩
        · have hres : lassoB a l = false := by unfold lassoB isLassoB sizesB; rw [decide_eq_false h3]; simp
          rw [hres]; clear hres
          go_enter Try.func14, Try.ntmps14
          have hBz := hB.lt
          have hBc0 := hB.c0
          have hBc1 := hB.c1
          have hDz := hD.lt
          have hDc0 := hD.c0
          have hDc1 := hD.c1
          go_wp2_with fail
          refine (specArenaOk_any _ a _ (hv.kept (Kept.of hbw))).mono ?_
          rintro e w1 ⟨rfl, hb1⟩
          clear hBc0 hBc1 hDc0 hDc1 hBz hDz
          replace hB := hB.below hb1 hB.lt
          replace hD := hD.below hb1 hD.lt
          replace hbw := Below.up hbw hb1
          have hb1s := hb1.size
          clear hb1
          have hBz := hB.lt
          have hBc0 := hB.c0
          have hBc1 := hB.c1
          have hDz := hD.lt
          have hDc0 := hD.c0
          have hDc1 := hD.c1
          go_wp2
          go_ret
          exact ⟨rfl, hbw⟩
      · have hres : lassoB a l = false := by unfold lassoB isLassoB sizesB; rw [decide_eq_false h2]; simp
        rw [hres]; clear hres
        go_enter Try.func14, Try.ntmps14
        have hBz := hB.lt
        have hBc0 := hB.c0
        have hBc1 := hB.c1
        have hDz := hD.lt
        have hDc0 := hD.c0
        have hDc1 := hD.c1
        go_wp2_with fail
        refine (specArenaOk_any _ a _ (hv.kept (Kept.of hbw))).mono ?_
        rintro e w1 ⟨rfl, hb1⟩
        clear hBc0 hBc1 hDc0 hDc1 hBz hDz
        replace hB := hB.below hb1 hB.lt
        replace hD := hD.below hb1 hD.lt
        replace hbw := Below.up hbw hb1
        have hb1s := hb1.size
        clear hb1
        have hBz := hB.lt
        have hBc0 := hB.c0
        have hBc1 := hB.c1
        have hDz := hD.lt
        have hDc0 := hD.c0
        have hDc1 := hD.c1
        go_wp2
        go_ret
        exact ⟨rfl, hbw⟩
    · have hres : lassoB a l = false := by unfold lassoB isLassoB sizesB; rw [decide_eq_false h1]; simp
      rw [hres]; clear hres
      go_enter Try.func14, Try.ntmps14
      have hBz := hB.lt
      have hBc0 := hB.c0
      have hBc1 := hB.c1
      have hDz := hD.lt
      have hDc0 := hD.c0
      have hDc1 := hD.c1
      go_wp2_with fail
      refine (specArenaOk_any _ a _ (hv.kept (Kept.of hbw))).mono ?_
      rintro e w1 ⟨rfl, hb1⟩
      clear hBc0 hBc1 hDc0 hDc1 hBz hDz
      replace hB := hB.below hb1 hB.lt
      replace hD := hD.below hb1 hD.lt
      replace hbw := Below.up hbw hb1
      have hb1s := hb1.size
      clear hb1
      have hBz := hB.lt
      have hBc0 := hB.c0
      have hBc1 := hB.c1
      have hDz := hD.lt
      have hDc0 := hD.c0
      have hDc1 := hD.c1
      go_wp2
      go_ret
      exact ⟨rfl, hbw⟩

/-- Behind the boxes of a game and a lasso. -/
theorem parity_lasso_box {w : World} {v u : Value} {g : ParityD} {l : TwoD} (hv : IsParity w v g) (hu : IsTwo w u l) : ∃ o n p s t, v = .agg #[o, n, p] ∧ u = .agg #[s, t] ∧
    Below w.heap.size w ((w.alloc (.cells #[o, n, p] 32)).alloc (.cells #[s, t] 37)) ∧ Arr ((w.alloc (.cells #[o, n, p] 32)).alloc (.cells #[s, t] 37)) w.heap.size 32 [o, n, p] ∧
    Arr ((w.alloc (.cells #[o, n, p] 32)).alloc (.cells #[s, t] 37)) (w.heap.size + 1) 37 [s, t] := by
  obtain ⟨o, n, p, rfl⟩ := hv.open
  obtain ⟨s, t, rfl, _⟩ := hu
  have h2 := Arr.new (w.alloc (.cells #[o, n, p] 32)) 37 [s, t]
  exact ⟨o, n, p, s, t, rfl, rfl, ((Below.refl _ _).alloc (Nat.le_refl _) _).alloc (by simp) _, (Arr.new _ _ _).alloc _, by simpa using h2⟩
theorem topL_nonneg {g : ParityD} {l : TwoD} (hok : ParityOk g) (hl : isLassoB g.arena l = true) : 0 ≤ topL g.prio l.snd := by
  have hv := isLasso_verts hl
  have h1 : 1 ≤ l.snd.length := by
    unfold isLassoB at hl
    rw [Bool.and_eq_true] at hl
    exact (sizesB_iff.1 hl.1).2.1
  rw [← topTo_all]
  suffices h : ∀ k, 0 < k → k ≤ l.snd.length → 0 ≤ topTo g.prio l.snd k from h _ h1 (Nat.le_refl _)
  intro k h0 hk
  obtain ⟨m, rfl⟩ : ∃ m, k = m + 1 := ⟨k - 1, by omega⟩
  rw [topTo_succ (by omega)]
  obtain ⟨j, hj, hjn⟩ := hv m (by omega)
  rw [hj, Int.toNat_natCast]
  have := hok.prio j (by rw [hok.len]; exact hjn)
  omega

set_option maxHeartbeats 1000000 in
theorem PlayWon_any (v : Value) (g : ParityD) (u : Value) (l : TwoD) (w : World) (hv : IsParity w v g) (hu : IsTwo w u l) :
    Calls Try.prog 16 #[v, u] w fun e w' => e = .returned (.int .i64 (wonL g l)) ∧ Below w.heap.size w w' := by
  obtain ⟨o, n, p, s, t, rfl, rfl, hbw, hB, hD⟩ := parity_lasso_box hv hu
  obtain ⟨ha, hp⟩ := hv.parts
  obtain ⟨hs, ht⟩ := hu.parts
  cases hE : parityOkB g
  · have hres : wonL g l = -1 := by unfold wonL; rw [hE]; rfl
    rw [hres]; clear hres
    go_enter Try.func16, Try.ntmps16
    have hBz := hB.lt
    have hBc0 := hB.c0
    have hBc1 := hB.c1
    have hBc2 := hB.c2
    have hDz := hD.lt
    have hDc0 := hD.c0
    have hDc1 := hD.c1
    go_wp2_with fail
    refine (ParityOk_any _ g _ (hv.kept (Kept.of hbw))).mono ?_
    rintro e w1 ⟨rfl, hb1⟩
    clear hBc0 hBc1 hBc2 hDc0 hDc1 hBz hDz
    replace hB := hB.below hb1 hB.lt
    replace hD := hD.below hb1 hD.lt
    replace hbw := Below.up hbw hb1
    have hb1s := hb1.size
    clear hb1
    have hBz := hB.lt
    have hBc0 := hB.c0
    have hBc1 := hB.c1
    have hBc2 := hB.c2
    have hDz := hD.lt
    have hDc0 := hD.c0
    have hDc1 := hD.c1
    go_wp2
    go_ret
    exact ⟨rfl, hbw⟩
  · have hok := parityOkB_iff.1 hE
    cases hE2 : isLassoB g.arena l
    · have hres : wonL g l = -1 := by unfold wonL lassoB; rw [hE, hE2]; simp
      rw [hres]; clear hres
      go_enter Try.func16, Try.ntmps16
      have hBz := hB.lt
      have hBc0 := hB.c0
      have hBc1 := hB.c1
      have hBc2 := hB.c2
      have hDz := hD.lt
      have hDc0 := hD.c0
      have hDc1 := hD.c1
      go_wp2_with fail
      refine (ParityOk_any _ g _ (hv.kept (Kept.of hbw))).mono ?_
      rintro e w1 ⟨rfl, hb1⟩
      clear hBc0 hBc1 hBc2 hDc0 hDc1 hBz hDz
      replace hB := hB.below hb1 hB.lt
      replace hD := hD.below hb1 hD.lt
      replace hbw := Below.up hbw hb1
      have hb1s := hb1.size
      clear hb1
      have hBz := hB.lt
      have hBc0 := hB.c0
      have hBc1 := hB.c1
      have hBc2 := hB.c2
      have hDz := hD.lt
      have hDc0 := hD.c0
      have hDc1 := hD.c1
      go_wp2_with fail
      refine (isLasso_any _ g.arena _ l _ (ha.kept (Kept.of hbw)) (hu.kept (Kept.of hbw)) hok.arena).mono ?_
      rintro e w2 ⟨rfl, hb2⟩
      clear hBc0 hBc1 hBc2 hDc0 hDc1 hBz hDz
      replace hB := hB.below hb2 hB.lt
      replace hD := hD.below hb2 hD.lt
      replace hbw := Below.up hbw hb2
      have hb2s := hb2.size
      clear hb2
      have hBz := hB.lt
      have hBc0 := hB.c0
      have hBc1 := hB.c1
      have hBc2 := hB.c2
      have hDz := hD.lt
      have hDc0 := hD.c0
      have hDc1 := hD.c1
      go_wp2
      go_ret
      exact ⟨rfl, hbw⟩
    · have hres : wonL g l = topL g.prio l.snd % 2 := by unfold wonL lassoB; rw [hE, hE2, arenaOkB_iff.2 hok.arena]; rfl
      rw [hres]; clear hres
      have hr : ∀ k, k < l.snd.length → ∃ j : Nat, ix l.snd k = (j : Int) ∧ j < g.prio.length := fun k hk => by rw [hok.len]; exact isLasso_verts hE2 k hk
      have hb1 := topL_nonneg hok hE2
      have hb2 := (topL_bounds (l := l.snd) hok.prio).2
      go_enter Try.func16, Try.ntmps16
      have hBz := hB.lt
      have hBc0 := hB.c0
      have hBc1 := hB.c1
      have hBc2 := hB.c2
      have hDz := hD.lt
      have hDc0 := hD.c0
      have hDc1 := hD.c1
      go_wp2_with fail
      refine (ParityOk_any _ g _ (hv.kept (Kept.of hbw))).mono ?_
      rintro e w1 ⟨rfl, hb1⟩
      clear hBc0 hBc1 hBc2 hDc0 hDc1 hBz hDz
      replace hB := hB.below hb1 hB.lt
      replace hD := hD.below hb1 hD.lt
      replace hbw := Below.up hbw hb1
      have hb1s := hb1.size
      clear hb1
      have hBz := hB.lt
      have hBc0 := hB.c0
      have hBc1 := hB.c1
      have hBc2 := hB.c2
      have hDz := hD.lt
      have hDc0 := hD.c0
      have hDc1 := hD.c1
      go_wp2_with fail
      refine (isLasso_any _ g.arena _ l _ (ha.kept (Kept.of hbw)) (hu.kept (Kept.of hbw)) hok.arena).mono ?_
      rintro e w2 ⟨rfl, hb2⟩
      clear hBc0 hBc1 hBc2 hDc0 hDc1 hBz hDz
      replace hB := hB.below hb2 hB.lt
      replace hD := hD.below hb2 hD.lt
      replace hbw := Below.up hbw hb2
      have hb2s := hb2.size
      clear hb2
      have hBz := hB.lt
      have hBc0 := hB.c0
      have hBc1 := hB.c1
      have hBc2 := hB.c2
      have hDz := hD.lt
      have hDc0 := hD.c0
      have hDc1 := hD.c1
      go_wp2_with fail
      refine (topIn_any _ g _ l.snd _ (hv.kept (Kept.of hbw)) (ht.kept (Kept.of hbw)) hr).mono ?_
      rintro e w3 ⟨rfl, hb3⟩
      clear hBc0 hBc1 hBc2 hDc0 hDc1 hBz hDz
      replace hB := hB.below hb3 hB.lt
      replace hD := hD.below hb3 hD.lt
      replace hbw := Below.up hbw hb3
      have hb3s := hb3.size
      clear hb3
      have hBz := hB.lt
      have hBc0 := hB.c0
      have hBc1 := hB.c1
      have hBc2 := hB.c2
      have hDz := hD.lt
      have hDc0 := hD.c0
      have hDc1 := hD.c1
      go_wp2
      go_ret
      exact ⟨rfl, hbw⟩

set_option maxRecDepth 100000 in
set_option maxHeartbeats 1000000 in
theorem specPlayWon_any (v : Value) (g : ParityD) (u : Value) (l : TwoD) (w : World) (hv : IsParity w v g) (hu : IsTwo w u l) :
    Calls Try.prog 17 #[v, u] w fun e w' => e = .returned (.int .i64 (wonL g l)) ∧ Below w.heap.size w w' := by
  obtain ⟨o, n, p, s, t, rfl, rfl, hbw, hB, hD⟩ := parity_lasso_box hv hu
  obtain ⟨ha, hp⟩ := hv.parts
  obtain ⟨hs, ht⟩ := hu.parts
  obtain ⟨A, c, rfl, hlc, hcm⟩ := hp.form
  obtain ⟨T, tc, rfl, htl, htm⟩ := ht.form
  cases hE : parityOkB g
  · have hres : wonL g l = -1 := by unfold wonL; rw [hE]; rfl
    rw [hres]; clear hres
    go_enter Try.func17, Try.ntmps17
    have hBz := hB.lt
    have hBc0 := hB.c0
    have hBc1 := hB.c1
    have hBc2 := hB.c2
    have hDz := hD.lt
    have hDc0 := hD.c0
    have hDc1 := hD.c1
    go_wp2_with fail
    refine (specParityOk_any _ g _ (hv.kept (Kept.of hbw))).mono ?_
    rintro e w1 ⟨rfl, hb1⟩
    clear hBc0 hBc1 hBc2 hDc0 hDc1 hBz hDz
    replace hB := hB.below hb1 hB.lt
    replace hD := hD.below hb1 hD.lt
    replace hbw := Below.up hbw hb1
    have hb1s := hb1.size
    clear hb1
    have hBz := hB.lt
    have hBc0 := hB.c0
    have hBc1 := hB.c1
    have hBc2 := hB.c2
    have hDz := hD.lt
    have hDc0 := hD.c0
    have hDc1 := hD.c1
    go_wp2
    go_ret
    exact ⟨rfl, hbw⟩
  · have hok := parityOkB_iff.1 hE
    cases hE2 : lassoB g.arena l
    · have hres : wonL g l = -1 := by unfold wonL; rw [hE, hE2]; simp
      rw [hres]; clear hres
      go_enter Try.func17, Try.ntmps17
      have hBz := hB.lt
      have hBc0 := hB.c0
      have hBc1 := hB.c1
      have hBc2 := hB.c2
      have hDz := hD.lt
      have hDc0 := hD.c0
      have hDc1 := hD.c1
      go_wp2_with fail
      refine (specParityOk_any _ g _ (hv.kept (Kept.of hbw))).mono ?_
      rintro e w1 ⟨rfl, hb1⟩
      clear hBc0 hBc1 hBc2 hDc0 hDc1 hBz hDz
      replace hB := hB.below hb1 hB.lt
      replace hD := hD.below hb1 hD.lt
      replace hbw := Below.up hbw hb1
      have hb1s := hb1.size
      clear hb1
      have hBz := hB.lt
      have hBc0 := hB.c0
      have hBc1 := hB.c1
      have hBc2 := hB.c2
      have hDz := hD.lt
      have hDc0 := hD.c0
      have hDc1 := hD.c1
      go_wp2_with fail
      refine (specLassoOk_any _ g.arena _ l _ (ha.kept (Kept.of hbw)) (hu.kept (Kept.of hbw))).mono ?_
      rintro e w2 ⟨rfl, hb2⟩
      clear hBc0 hBc1 hBc2 hDc0 hDc1 hBz hDz
      replace hB := hB.below hb2 hB.lt
      replace hD := hD.below hb2 hD.lt
      replace hbw := Below.up hbw hb2
      have hb2s := hb2.size
      clear hb2
      have hBz := hB.lt
      have hBc0 := hB.c0
      have hBc1 := hB.c1
      have hBc2 := hB.c2
      have hDz := hD.lt
      have hDc0 := hD.c0
      have hDc1 := hD.c1
      go_wp2
      go_ret
      exact ⟨rfl, hbw⟩
    · have hres : wonL g l = topL g.prio l.snd % 2 := by unfold wonL; rw [hE, hE2]; rfl
      have hE3 : isLassoB g.arena l = true := by unfold lassoB at hE2; rw [Bool.and_eq_true] at hE2; exact hE2.2
      rw [hres]; clear hres
      have hr : ∀ k, k < l.snd.length → ∃ j : Nat, ix l.snd k = (j : Int) ∧ j < g.prio.length := fun k hk => by rw [hok.len]; exact isLasso_verts hE3 k hk
      have hb1 := topL_nonneg hok hE3
      have hb2 := (topL_bounds (l := l.snd) hok.prio).2
      have hall : max (topTo g.prio l.snd l.snd.length) 0 = topL g.prio l.snd := by rw [topTo_all]; omega
      have Hall := Lib.hid hall
      clear hall
      have Hprio := Lib.hid hok.prio
      clear hok
      go_enter Try.func17, Try.ntmps17
      have hBz := hB.lt
      have hBc0 := hB.c0
      have hBc1 := hB.c1
      have hBc2 := hB.c2
      have hDz := hD.lt
      have hDc0 := hD.c0
      have hDc1 := hD.c1
      go_wp2_with fail
      refine (specParityOk_any _ g _ (hv.kept (Kept.of hbw))).mono ?_
      rintro e w1 ⟨rfl, hb1⟩
      clear hBc0 hBc1 hBc2 hDc0 hDc1 hBz hDz
      replace hB := hB.below hb1 hB.lt
      replace hD := hD.below hb1 hD.lt
      replace hbw := Below.up hbw hb1
      have hb1s := hb1.size
      clear hb1
      have hBz := hB.lt
      have hBc0 := hB.c0
      have hBc1 := hB.c1
      have hBc2 := hB.c2
      have hDz := hD.lt
      have hDc0 := hD.c0
      have hDc1 := hD.c1
      go_wp2_with fail
      refine (specLassoOk_any _ g.arena _ l _ (ha.kept (Kept.of hbw)) (hu.kept (Kept.of hbw))).mono ?_
      rintro e w2 ⟨rfl, hb2⟩
      clear hBc0 hBc1 hBc2 hDc0 hDc1 hBz hDz
      replace hB := hB.below hb2 hB.lt
      replace hD := hD.below hb2 hD.lt
      replace hbw := Below.up hbw hb2
      have hb2s := hb2.size
      clear hb2
      have hBz := hB.lt
      have hBc0 := hB.c0
      have hBc1 := hB.c1
      have hBc2 := hB.c2
      have hDz := hD.lt
      have hDc0 := hD.c0
      have hDc1 := hD.c1
      have ht1 := (ht.kept (Kept.of hbw))
      have hp1 := (hp.kept (Kept.of hbw))
      go_wp2
      go_loopw [5, 6] (fun t i wr => ∃ k q : Nat, k ≤ l.snd.length ∧ i = .int .i64 k ∧ t = .int .i64 (max (topTo g.prio l.snd k) 0) ∧ wr = w2.drewN q) (fun _ i _ => l.snd.length - (intOf i).toNat)
      case atStart => exact ⟨0, 0, Nat.zero_le _, rfl, rfl, rfl⟩
      case round =>
        obtain ⟨k, q, hk, rfl, rfl, rfl⟩ := hrel
        by_cases hlt : k < l.snd.length
        · obtain ⟨a1, ea, hc1⟩ := ht1.at_ hlt
          subst ea
          obtain ⟨j, hj, hjl⟩ := hr k hlt
          obtain ⟨a2, ea, hc2⟩ := hp1.at_ hjl
          subst ea
          have Hs := Lib.hid (topTo_succ (p := g.prio) hlt)
          rw [hj] at hc1
          have Hj := Lib.hid hj
          clear hj
          have hjl' : (j : Int) < g.prio.length := by omega
          have hkl' : (k : Int) < l.snd.length := by omega
          go_wp2
          go_quiet ((go_at_call 57; first | exact Calls.quiet_of_same (l1Max_any _ _ _) | exact Calls.quiet_of (l1Max_any _ _ _) | exact quiet_add (quiet_same (l1Max_any _ _ _)) | exact quiet_add (l1Max_any _ _ _)))
          go_wp2
          exact ⟨⟨k + 1, q + nq, by omega, by go_num, by rw [Hs.out, Hj.out, Int.toNat_natCast]; congr 1; omega, by simp⟩, by simp [intOf]; omega⟩
        · obtain rfl : k = l.snd.length := by omega
          rw [Hall.out]
          go_wp2
          go_ret
          exact ⟨rfl, below_drewN hbw q⟩
end Go.Proofs.Ytogfpalgnjlfcaa
