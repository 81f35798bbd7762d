/- The walks of LassoOk, PlayWon and what they call. No condition. -/
import Derived.Test.YtogfpalgnjlfcaaLassoPlain
import Derived.Test.YtogfpalgnjlfcaaPkB
import Derived.Test.YtogfpalgnjlfcaaTrapWalks2
import Derived.Test.YtogfpalgnjlfcaaPkA
import Derived.Test.YtogfpalgnjlfcaaFullWalks
namespace Go.Proofs.Ytogfpalgnjlfcaa
set_option linter.unusedSimpArgs false
set_option linter.unusedVariables false
open Go.RowKit

theorem arena_lasso_box {w : World} {v u : Value} {a : ArenaD} {l : TwoD} (hv : IsArena w v a) (hu : IsTwo w u l) : ∃ o n s t, v = .agg #[o, n] ∧ u = .agg #[s, t] ∧
    Below w.heap.size w ((w.alloc (.cells #[o, n] 30)).alloc (.cells #[s, t] 37)) ∧ Arr ((w.alloc (.cells #[o, n] 30)).alloc (.cells #[s, t] 37)) w.heap.size 30 [o, n] ∧
    Arr ((w.alloc (.cells #[o, n] 30)).alloc (.cells #[s, t] 37)) (w.heap.size + 1) 37 [s, t] := by
  obtain ⟨o, n, rfl, _⟩ := hv
  obtain ⟨s, t, rfl, _⟩ := hu
  have h2 := Arr.new (w.alloc (.cells #[o, n] 30)) 37 [s, t]
  exact ⟨o, n, s, t, rfl, rfl, ((Below.refl _ _).alloc (Nat.le_refl _) _).alloc (by simp) _, (Arr.new _ _ _).alloc _, by simpa using h2⟩

set_option maxRecDepth 100000 in
set_option maxHeartbeats 2000000 in
theorem isLasso_any (v : Value) (a : ArenaD) (u : Value) (l : TwoD) (w : World) (hv : IsArena w v a) (hu : IsTwo w u l) (hok : ArenaOk a) :
    Calls Try.prog 46 #[v, u] w fun e w' => e = .returned (.bool (isLassoB a l)) ∧ Below w.heap.size w w' := by
  obtain ⟨o, n, s, t, rfl, rfl, hbw, hB, hD⟩ := arena_lasso_box hv hu
  obtain ⟨ho, hn⟩ := hv.parts
  obtain ⟨hs, ht⟩ := hu.parts
  obtain ⟨A, c, rfl, hlc, hcm⟩ := ho.form
  obtain ⟨A', c', rfl, hlc', hcm'⟩ := hn.form
  obtain ⟨S, sc, rfl, hsl, hsm⟩ := hs.form
  obtain ⟨T, tc, rfl, htl, htm⟩ := ht.form
  by_cases h1 : l.fst.length ≤ 256
  · by_cases h2 : 1 ≤ l.snd.length
    · by_cases h3 : l.snd.length ≤ 256
      · have hsz : sizesB l = true := sizesB_iff.2 ⟨h1, h2, h3⟩
        have hres : isLassoB a l = (vertsB a (wayL l) && stepsB a (roundL l)) := by unfold isLassoB; rw [hsz]; rfl
        rw [hres]; clear hres hsz
        obtain ⟨res, hres⟩ : ∃ r, (vertsB a (wayL l) && stepsB a (roundL l)) = r := ⟨_, rfl⟩
        rw [hres]
        have Hres := Lib.hid hres
        clear hres
        have Hlen := Lib.hid hok.len
        have hle := hok.le
        have d1 : decide ((256 : Int) < l.fst.length) = false := by simp; omega
        have d2 : decide ((l.snd.length : Int) < 1) = false := by simp; omega
        have d3 : decide ((256 : Int) < l.snd.length) = false := by simp; omega
        go_enter Try.func46, Try.ntmps46
        have hBz := hB.lt
        have hBc0 := hB.c0
        have hBc1 := hB.c1
        have hDz := hD.lt
        have hDc0 := hD.c0
        have hDc1 := hD.c1
        go_wp2_with fail
        generalize (w.alloc (.cells #[.slice A a.owner.length c, .slice A' a.next.length c'] 30)).alloc (.cells #[.slice S l.fst.length sc, .slice T l.snd.length tc] 37) = w0 at *
        obtain ⟨hn0', hbn'⟩ := new_ints w0
        have hn0 : OwnInts (w0.alloc (.cells #[] 2)).drew w0.heap.size (.slice (some ⟨w0.heap.size, 0, none⟩) 0 0) [] := hn0'
        have hbn : Below w0.heap.size w0 (w0.alloc (.cells #[] 2)).drew := ⟨hbn'.os, hbn'.tape, hbn'.output, hbn'.size, hbn'.block⟩
        clear hn0' hbn'
        have hbs0 : w0.heap.size ≤ (w0.alloc (.cells #[] 2)).drew.heap.size := hbn.size
        have hD1 := hD.below hbn hD.lt
        have hs1 : Ints (w0.alloc (.cells #[] 2)).drew (.slice S l.fst.length sc) l.fst := ((hs.kept (Kept.of hbw))).kept (Kept.of hbn)
        have ht1 : Ints (w0.alloc (.cells #[] 2)).drew (.slice T l.snd.length tc) l.snd := ((ht.kept (Kept.of hbw))).kept (Kept.of hbn)
        go_region_held3 (fun W => W.cell? ⟨w.heap.size + 1, 0, none⟩ = some (.slice S l.fst.length sc) ∧ W.cell? ⟨w.heap.size + 1, 1, none⟩ = some (.slice T l.snd.length tc))
          (first | exact ⟨hD.c0, hD.c1⟩ | exact ⟨hD1.c0, hD1.c1⟩ | exact ⟨hD2.c0, hD2.c1⟩ | exact ⟨hD3.c0, hD3.c1⟩)
          (first | (refine step_append_ints _ rfl (.tmp 25) (.tmp 27) rfl w0.heap.size (.slice (some ⟨w0.heap.size, 0, none⟩) 0 0) [] rfl hn0 (.slice S l.fst.length sc) l.fst rfl hs1 (by simp; omega) hbs0 ?_; intro v1 w1 ho1 hb1 hg1 hl1; rw [List.nil_append] at ho1; obtain ⟨A1, c1, e1, _⟩ := ho1.ints.form; subst e1; have hD2 := hD1.below hb1 hD.lt; have ht2 := ((ht.kept (Kept.of hbw))).kept (Kept.of (hbn.trans hb1))) | (refine step_append_ints w1 rfl (.tmp 28) (.tmp 30) rfl w0.heap.size (.slice A1 l.fst.length c1) l.fst rfl ho1 (.slice T l.snd.length tc) l.snd rfl ht2 (by omega) (Nat.le_trans hbs0 hb1.size) ?_; intro v2 w2 ho2 hb2 hg2 hl2; have hD3 := hD2.below hb2 hD.lt; obtain ⟨A2, c2, e2, _⟩ := ho2.ints.form; rw [List.length_append] at e2; subst e2))
        replace ho2 : OwnInts w2 w0.heap.size (.slice A2 (l.fst.length + l.snd.length) c2) (wayL l) := ho2
        have hbw2 := Below.up hbw ((hbn.trans hb1).trans hb2)
        have hBl0 := hB.lt
        have hB3 : Arr w2 w.heap.size 30 _ := hB.below ((hbn.trans hb1).trans hb2) hB.lt
        have hw0 := hbw.size
        have hw02 : w0.heap.size ≤ w2.heap.size := ((hbn.trans hb1).trans hb2).size
        clear ho1 hg1 hl1 hg2 hl2 hs1 ht1 ht2 hn0 d1 d2 d3
        replace hB := hB3
        replace hD := hD3
        replace hbw := hbw2
        clear hB3 hD3 hbw2 hD1 hD2
        clear hBc0 hBc1 hDc0 hDc1 hBz hDz
        have hBz := hB.lt
        have hBc0 := hB.c0
        have hBc1 := hB.c1
        have hDz := hD.lt
        have hDc0 := hD.c0
        have hDc1 := hD.c1
        go_wp2
        clear hBc0 hBc1 hDc0 hDc1 hBz hDz
        go_loopw [34] (fun i wr => ∃ k : Nat, k ≤ l.fst.length + l.snd.length ∧ i = .int .i64 k ∧ Below w2.heap.size w2 wr ∧ ∀ j, j < k → thereB a (ix (wayL l) j) = true) (fun i _ => l.fst.length + l.snd.length - (intOf i).toNat)
        case atStart => exact ⟨0, Nat.zero_le _, rfl, Below.refl _ _, fun j hj => by omega⟩
        case round =>
          obtain ⟨k, hk, rfl, hbr, hm⟩ := hrel
          have Hm := Lib.hid hm
          clear hm
          replace hB := hB.below hbr hB.lt
          replace hD := hD.below hbr hD.lt
          replace hbw := Below.up hbw hbr
          have hbrs := hbr.size
          have hBz := hB.lt
          have hBc0 := hB.c0
          have hBc1 := hB.c1
          have hDz := hD.lt
          have hDc0 := hD.c0
          have hDc1 := hD.c1
          have how : OwnInts wr w0.heap.size (.slice A2 (l.fst.length + l.snd.length) c2) (wayL l) := ho2.below hbr (Nat.le_refl _)
          by_cases hlt : k < l.fst.length + l.snd.length
          · obtain ⟨a1, ea, hc1⟩ := how.ints.at_ (k := k) (by rw [length_wayL]; exact hlt)
            subst ea
            have hcon := hasVertex_any _ a (ix (wayL l) k) _ (hv.kept (Kept.of hbw))
            cases e : thereB a (ix (wayL l) k)
            · rw [e] at hcon
              have Hb := Lib.hid (vertsB_bad (by rw [length_wayL]; exact hlt) e)
              clear e
              go_wp2_with fail
              refine hcon.mono ?_
              rintro e w3 ⟨rfl, hb3⟩
              go_wp2
              go_ret
              exact ⟨by rw [← Hres.out, Hb.out]; rfl, Below.up hbw hb3⟩
            · rw [e] at hcon
              have E := Lib.hid e
              clear e
              go_wp2_with fail
              refine hcon.mono ?_
              rintro e w3 ⟨rfl, hb3⟩
              go_wp2
              exact ⟨⟨k + 1, by omega, by go_num, Below.up hbr hb3, fun j hj => by
                by_cases ej : j = k
                · rw [ej]; exact E.out
                · exact Hm.out j (by omega)⟩, by simp [intOf]; omega⟩
          · have hkk : k = l.fst.length + l.snd.length := by omega
            have hver : ∀ j, j < l.fst.length + l.snd.length → thereB a (ix (wayL l) j) = true := fun j hj => Hm.out j (by omega)
            have hvb : vertsB a (wayL l) = true := by unfold vertsB; rw [decide_eq_true_eq]; exact fun j hj => hver j (by rw [length_wayL] at hj; exact hj)
            rw [hvb, Bool.true_and] at Hres
            have Hver := Lib.hid hver
            clear hver hvb hkk
            obtain ⟨a4, ea, hc4⟩ := ((ht.kept (Kept.of hbw))).at_ (k := 0) (by omega)
            subst ea
            rw [add_zero'] at hc4
            have h0l : (0 : Int) < l.snd.length := by omega
            have h0n : 0 < l.snd.length := by omega
            have hwrs := hbr.size
            have hlen2 : (wayL l).length ≤ 1048576 := by rw [length_wayL]; omega
            go_wp2_with (at_builtin; refine append_int _ rfl (.tmp 43) (.tmp 48) rfl w0.heap.size (.slice A2 (l.fst.length + l.snd.length) c2) (wayL l) rfl how (ix l.snd 0) rfl (by omega) (by omega) ?_; intro v5 w5 ho5 hb5 hg5 hl5; obtain ⟨A5, c5, e5, _⟩ := ho5.ints.form; rw [show (wayL l ++ [ix l.snd 0]).length = l.fst.length + l.snd.length + 1 from length_roundL l] at e5; subst e5)
            have hbw5 : Below w.heap.size w w5 := hbw.trans (hb5.mono (by omega))
            have hB5 : Arr w5 w.heap.size _ _ := hB.below hb5 hBl0
            have hBc1' := hB5.c1
            have how5 : Ints w5 (.slice A5 (l.fst.length + l.snd.length + 1) c5) (roundL l) := ho5.ints
            have hn5 := hn.kept (Kept.of hbw5)
            clear how ho5 hb5 hg5 hl5 hc4 hbr
            clear hBc0 hBc1 hDc0 hDc1 hBz hDz
            go_loopw [8] (fun i wr => ∃ k q : Nat, k ≤ l.fst.length + l.snd.length ∧ i = .int .i64 ((k : Int) + 1) ∧ wr = w5.drewN q ∧ ∀ j, 0 < j → j < k + 1 → stepB a (roundL l) j = true) (fun i _ => l.fst.length + l.snd.length + 1 - (intOf i).toNat)
            case atStart => exact ⟨0, 0, Nat.zero_le _, rfl, rfl, fun j hj => by omega⟩
            case round =>
              obtain ⟨k, q, hk, rfl, rfl, hst⟩ := hrel
              have Hst := Lib.hid hst
              clear hst
              by_cases hlt : k < l.fst.length + l.snd.length
              · obtain ⟨j, hj, hjn⟩ := there_nat (Hver.out k hlt)
                obtain ⟨a6, ea6, hc6⟩ := how5.at_ (k := k) (by rw [length_roundL]; omega)
                obtain ⟨_, e7, hc7⟩ := how5.at_ (k := k + 1) (by rw [length_roundL]; omega)
                rw [ea6] at e7
                injection e7 with e7
                subst e7
                subst ea6
                have hc7' : w5.cell? ⟨a6.block, a6.off + (k + 1), none⟩ = some (.int .i64 (ix (roundL l) (k + 1))) := by
                  have h := hc7
                  unfold Addr.add at h
                  simpa using h
                rw [ix_roundL (by rw [length_wayL]; exact hlt), hj] at hc6
                obtain ⟨a8, R, r, ea8, hc8, hrow⟩ := hn5.at_ (k := j) (by rw [Hlen.out]; exact hjn)
                subst ea8
                have hstep : stepB a (roundL l) (k + 1) = hasB (rx a.next j) (ix (roundL l) (k + 1)) := by
                  unfold stepB
                  rw [Nat.add_sub_cancel, ix_roundL (by rw [length_wayL]; exact hlt), hj, Int.toNat_natCast]
                have hcon := fun q => Contains_any _ (rx a.next j) (ix (roundL l) (k + 1)) (w5.drewN q) (hrow.kept (Kept.drewN _ _))
                rw [← hstep] at hcon
                clear hstep hj
                have hjl : (j : Int) < a.next.length := by rw [Hlen.out]; omega
                have hkl : (k : Int) < (l.fst.length : Int) + l.snd.length + 1 := by omega
                have hkl2 : (k : Int) + 1 < (l.fst.length : Int) + l.snd.length + 1 := by omega
                have hkl3 : (k : Int) < (l.fst.length : Int) + l.snd.length := by omega
                have hs1 : IntKind.i64.wrap ((k : Int) + 1 - 1) = (k : Int) := by rw [Int.add_sub_cancel]; exact IntWalk.i64_in _ (by omega)
                have hs1' : IntKind.i64.wrap (k : Int) = (k : Int) := IntWalk.i64_in _ (by omega)
                have hs2 : ((k : Int) + 1).toNat = k + 1 := by omega
                have hs3 : 0 ≤ (k : Int) + 1 := by omega
                cases e : stepB a (roundL l) (k + 1)
                · rw [e] at hcon
                  have Hb := Lib.hid (stepsB_bad (w := roundL l) (by omega) (by rw [length_roundL]; omega) e)
                  clear e
                  go_wp2
                  go_quiet ((go_at_call 85; first | exact Calls.quiet_of_same (hcon _) | exact Calls.quiet_of (hcon _) | exact quiet_add (quiet_same (hcon _)) | exact quiet_add (hcon _)))
                  go_wp2
                  go_ret
                  exact ⟨by rw [← Hres.out, Hb.out]; rfl, below_drewN (below_drewN hbw5 _) _⟩
                · rw [e] at hcon
                  have E := Lib.hid e
                  clear e
                  go_wp2
                  go_quiet ((go_at_call 85; first | exact Calls.quiet_of_same (hcon _) | exact Calls.quiet_of (hcon _) | exact quiet_add (quiet_same (hcon _)) | exact quiet_add (hcon _)))
                  go_wp2
                  exact ⟨⟨k + 1, q + nq, by omega, by simp, by simp, fun j h0 hj => by
                    by_cases ej : j = k + 1
                    · rw [ej]; exact E.out
                    · exact Hst.out j h0 (by omega)⟩, by simp [intOf]; omega⟩
              · have Hsb := Lib.hid (show stepsB a (roundL l) = true by
                  unfold stepsB
                  rw [decide_eq_true_eq]
                  intro j hj
                  rw [length_roundL] at hj
                  rw [Bool.or_eq_true, decide_eq_true_eq]
                  by_cases h0 : j = 0
                  · exact .inl h0
                  · exact .inr (Hst.out j (by omega) (by omega)))
                go_wp2
                go_ret
                exact ⟨by rw [← Hres.out, Hsb.out]; rfl, below_drewN hbw5 _⟩
      · have hres : isLassoB a l = false := by unfold isLassoB sizesB; rw [decide_eq_false h3]; simp
        rw [hres]; clear hres
        go_enter Try.func46, Try.ntmps46
        have hBz := hB.lt
        have hBc0 := hB.c0
        have hBc1 := hB.c1
        have hDz := hD.lt
        have hDc0 := hD.c0
        have hDc1 := hD.c1
        go_wp2
        go_ret
        exact ⟨rfl, hbw⟩
    · have hres : isLassoB a l = false := by unfold isLassoB sizesB; rw [decide_eq_false h2]; simp
      rw [hres]; clear hres
      go_enter Try.func46, Try.ntmps46
      have hBz := hB.lt
      have hBc0 := hB.c0
      have hBc1 := hB.c1
      have hDz := hD.lt
      have hDc0 := hD.c0
      have hDc1 := hD.c1
      go_wp2
      go_ret
      exact ⟨rfl, hbw⟩
  · have hres : isLassoB a l = false := by unfold isLassoB sizesB; rw [decide_eq_false h1]; rfl
    rw [hres]; clear hres
    go_enter Try.func46, Try.ntmps46
    have hBz := hB.lt
    have hBc0 := hB.c0
    have hBc1 := hB.c1
    have hDz := hD.lt
    have hDc0 := hD.c0
    have hDc1 := hD.c1
    go_wp2
    go_ret
    exact ⟨rfl, hbw⟩

set_option maxHeartbeats 1000000 in
theorem LassoOk_any (v : Value) (a : ArenaD) (u : Value) (l : TwoD) (w : World) (hv : IsArena w v a) (hu : IsTwo w u l) :
    Calls Try.prog 13 #[v, u] w fun e w' => e = .returned (.bool (lassoB a l)) ∧ Below w.heap.size w w' := by
  obtain ⟨o, n, s, t, rfl, rfl, hbw, hB, hD⟩ := arena_lasso_box hv hu
  cases hE : arenaOkB a
  · have hres : lassoB a l = false := by unfold lassoB; rw [hE]; rfl
    rw [hres]; clear hres
    go_enter Try.func13, Try.ntmps13
    have hBz := hB.lt
    have hBc0 := hB.c0
    have hBc1 := hB.c1
    have hDz := hD.lt
    have hDc0 := hD.c0
    have hDc1 := hD.c1
    go_wp2_with fail
    refine (ArenaOk_any _ a _ (hv.kept (Kept.of hbw))).mono ?_
    rintro e w1 ⟨rfl, hb1⟩
    clear hBc0 hBc1 hDc0 hDc1 hBz hDz
    replace hB := hB.below hb1 hB.lt
    replace hD := hD.below hb1 hD.lt
    replace hbw := Below.up hbw hb1
    have hb1s := hb1.size
    clear hb1
    have hBz := hB.lt
    have hBc0 := hB.c0
    have hBc1 := hB.c1
    have hDz := hD.lt
    have hDc0 := hD.c0
    have hDc1 := hD.c1
    go_wp2
    go_ret
    exact ⟨rfl, hbw⟩
  · have hres : lassoB a l = isLassoB a l := by unfold lassoB; rw [hE]; rfl
    rw [hres]; clear hres
    have hok := arenaOkB_iff.1 hE
    go_enter Try.func13, Try.ntmps13
    have hBz := hB.lt
    have hBc0 := hB.c0
    have hBc1 := hB.c1
    have hDz := hD.lt
    have hDc0 := hD.c0
    have hDc1 := hD.c1
    go_wp2_with fail
    refine (ArenaOk_any _ a _ (hv.kept (Kept.of hbw))).mono ?_
    rintro e w1 ⟨rfl, hb1⟩
    clear hBc0 hBc1 hDc0 hDc1 hBz hDz
    replace hB := hB.below hb1 hB.lt
    replace hD := hD.below hb1 hD.lt
    replace hbw := Below.up hbw hb1
    have hb1s := hb1.size
    clear hb1
    have hBz := hB.lt
    have hBc0 := hB.c0
    have hBc1 := hB.c1
    have hDz := hD.lt
    have hDc0 := hD.c0
    have hDc1 := hD.c1
    go_wp2_with fail
    refine (isLasso_any _ a _ l _ (hv.kept (Kept.of hbw)) (hu.kept (Kept.of hbw)) hok).mono ?_
    rintro e w2 ⟨rfl, hb2⟩
    clear hBc0 hBc1 hDc0 hDc1 hBz hDz
    replace hB := hB.below hb2 hB.lt
    replace hD := hD.below hb2 hD.lt
    replace hbw := Below.up hbw hb2
    have hb2s := hb2.size
    clear hb2
    have hBz := hB.lt
    have hBc0 := hB.c0
    have hBc1 := hB.c1
    have hDz := hD.lt
    have hDc0 := hD.c0
    have hDc1 := hD.c1
    go_wp2
    go_ret
    exact ⟨rfl, hbw⟩
end Go.Proofs.Ytogfpalgnjlfcaa
