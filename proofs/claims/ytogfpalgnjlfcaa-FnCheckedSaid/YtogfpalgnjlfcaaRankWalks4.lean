/- The walks of the reference's ranks, all of them. Conditions: the arena is valid. -/
import Derived.Test.YtogfpalgnjlfcaaRankWalks3
import Derived.Test.YtogfpalgnjlfcaaPkB
namespace Go.Proofs.Ytogfpalgnjlfcaa
set_option linter.unusedSimpArgs false
set_option linter.unusedVariables false
open Go.RowKit

theorem OwnInts.put {w : World} {B g n cap : Nat} {l : List Int} (h : OwnInts w B (.slice (some ⟨g, 0, none⟩) n cap) l) (hn : n = l.length) (k : Nat) (x : Int) :
    OwnInts (w.setCell ⟨g, k, none⟩ (.int .i64 x)) B (.slice (some ⟨g, 0, none⟩) n cap) (l.set k x) := by
  subst hn
  exact (h.set_ k x).1
theorem OwnInts.cell' {w : World} {B g n cap : Nat} {l : List Int} (h : OwnInts w B (.slice (some ⟨g, 0, none⟩) n cap) l) {k : Nat} (hk : k < l.length) : w.cell? ⟨g, k, none⟩ = some (.int .i64 (ix l k)) := OwnInts.cell h hk
theorem OwnInts.frozen' {w : World} {B g n cap : Nat} {l : List Int} (h : OwnInts w B (.slice (some ⟨g, 0, none⟩) n cap) l) (hn : n = l.length) (k : Nat) : w.frozen? ⟨g, k, none⟩ = false := by
  subst hn
  exact OwnInts.frozen h k
theorem OwnInts.form' {w : World} {B : Nat} {v : Value} {l : List Int} {n : Nat} (h : OwnInts w B v l) (hl : l.length = n) (hn : 0 < n) : ∃ g cap, v = .slice (some ⟨g, 0, none⟩) n cap ∧ B ≤ g ∧ g < w.heap.size := by
  rcases h.form with ⟨_, rfl⟩ | ⟨g, cap, rfl, h1, h2, _⟩
  · simp at hl; omega
  · exact ⟨g, cap, by rw [hl], h1, h2⟩

set_option maxRecDepth 100000 in
set_option maxHeartbeats 8000000 in
theorem l3Ranks_any (v : Value) (a : ArenaD) (who : Int) (u : Value) (s : List Int) (y : Value) (goal : List Int) (w : World) (hv : IsArena w v a) (hu : Ints w u s) (hy : Ints w y goal) (hok : ArenaOk a) (hs : IsSet s a.owner.length) (hg : IsSet goal a.owner.length) :
    Calls Try.prog 69 #[v, .int .i64 who, u, y] w (RetInts w (ranksL a who s goal)) := by
  obtain ⟨o, n, rfl, hbw, hB⟩ := arena_open hv
  obtain ⟨ho, hn⟩ := hv.parts
  obtain ⟨A, c, rfl, hlc, hcm⟩ := ho.form
  obtain ⟨US, uc, rfl, huc, hum⟩ := hu.form
  obtain ⟨YS, yc, rfl, hyc, hym⟩ := hy.form
  have hle := hok.le
  have hpos := hok.pos
  have hsl := hs.length_le
  have hgl := hg.length_le
  go_enter Try.func69, Try.ntmps69
  have hBz := hB.lt
  have hBc0 := hB.c0
  have hBc1 := hB.c1
  go_wp2_with fail
  refine (l1Marks_any _ s a.owner.length _ (hu.kept (Kept.of hbw)) hs.vert (by omega)).mono ?_
  rintro e w2 ⟨um, rfl, hM, hb2⟩
  obtain ⟨M, mc, e1, _⟩ := hM.bools.form
  rw [length_marksL] at e1
  subst e1
  replace hM := OB.of hM
  clear hBc0 hBc1 hBz
  replace hB := hB.below hb2 hB.lt
  replace hbw := Below.up hbw hb2
  have hb2s := hb2.size
  clear hb2
  have hBz := hB.lt
  have hBc0 := hB.c0
  have hBc1 := hB.c1
  have hw2 := hbw.size
  have hBlt := hB.lt
  obtain ⟨hown, hbn⟩ := new_ints w2
  have Hml := Lib.hid (length_marksL a.owner.length s)
  have Hmv := Lib.hid (show ∀ v, v < a.owner.length → (bx (marksL a.owner.length s) v = true ↔ (v : Int) ∈ s) from fun v hv => by rw [bx_marksL hv]; simp)
  have Hrl := Lib.hid (show ranksL a who s goal = rankAt a who (marksL a.owner.length s) goal a.owner.length from rfl)
  generalize ranksL a who s goal = rl at *
  generalize marksL a.owner.length s = m at *
  clear hBc0 hBc1 hBz
  go_wp2
  generalize w2.alloc (.cells #[] 2) = w3 at *
  go_loopw [11, 12] (fun v i wr => ∃ k : Nat, k ≤ a.owner.length ∧ i = .int .i64 k ∧ OwnInts wr w2.heap.size v (noneL k) ∧ Below w2.heap.size w2 wr) (fun _ i _ => a.owner.length - (intOf i).toNat)
  case atStart => exact ⟨0, Nat.zero_le _, rfl, hown, hbn⟩
  case round =>
    obtain ⟨k, hk, rfl, hown, hbG⟩ := hrel
    have hbs := hbG.size
    by_cases hlt : k < a.owner.length
    · have hlt' : (k : Int) < a.owner.length := by omega
      have hnl : (noneL k).length ≤ 1099511627776 := by rw [length_noneL]; omega
      have Hs := Lib.hid (show noneL k ++ [-1] = noneL (k + 1) by unfold noneL; rw [← List.replicate_succ'])
      go_wp2_with (at_builtin; refine append_int _ rfl (.tmp 29) (.tmp 30) rfl w2.heap.size u11 _ rfl hown (-1) rfl hnl hbs ?_; intro v1 w4 ho1 hb1 hg1 hl1)
      exact ⟨⟨k + 1, by omega, by go_num, by rw [← Hs.out]; exact ho1, hbG.trans hb1⟩, by simp [intOf]; omega⟩
    · obtain rfl : k = a.owner.length := by omega
      obtain ⟨g0, cap0, e1, hg0, hg0l⟩ := hown.form' (length_noneL _) hpos
      subst e1
      go_wp2
      go_loopw [13] (fun i wr => ∃ (k : Nat) (l : List Int), k ≤ goal.length ∧ i = .int .i64 k ∧ OwnInts wr w2.heap.size (.slice (some ⟨g0, 0, none⟩) a.owner.length cap0) l ∧ Hid (l.length = a.owner.length) ∧ Hid (∀ v, v < a.owner.length → ix l v = if bx m v && decide ((v : Int) ∈ goal.take k) then 0 else -1) ∧ Below w2.heap.size w2 wr) (fun i _ => goal.length - (intOf i).toNat)
      case atStart => exact ⟨0, _, Nat.zero_le _, rfl, hown, Lib.hid (length_noneL _), Lib.hid (fun v hv => by rw [ix_noneL hv]; simp), hbG⟩
      case round =>
        obtain ⟨k, l, hk, rfl, hR, Hl, Hm, hbG⟩ := hrel
        have hbw3 : Below w.heap.size w wr := Below.up hbw hbG
        have hMr := (hM.below hbG).bools
        by_cases hlt : k < goal.length
        · obtain ⟨a1, rfl, hc1⟩ := (hy.kept (Kept.of hbw3)).at_ hlt
          obtain ⟨j, hj, hjn⟩ := hg.vert k hlt
          rw [hj] at hc1
          have Hj := Lib.hid hj
          clear hj
          obtain ⟨a5, rfl, hc5⟩ := hMr.at_ (k := j) (by rw [Hml.out]; exact hjn)
          have hjl : (j : Int) < a.owner.length := by omega
          have hlt' : (k : Int) < goal.length := by omega
          have hc2 := hR.cell' (k := j) (by rw [Hl.out]; exact hjn)
          have hf2 := hR.frozen' Hl.out.symm j
          have hset := hR.put Hl.out.symm j 0
          have hstep : ∀ l' : List Int, (∀ v, v < a.owner.length → ix l' v = if v = j ∧ bx m j = true then 0 else ix l v) → ∀ v, v < a.owner.length → ix l' v = if bx m v && decide ((v : Int) ∈ goal.take (k + 1)) then 0 else -1 := fun l' h v hv => by
            rw [h v hv, Hm.out v hv, take_ix hlt, Hj.out]
            by_cases e : v = j
            · subst e
              cases hb : bx m v <;> simp [hb]
            · have : ¬ (v : Int) = (j : Int) := by omega
              simp [e, this]
          have Hstep := Lib.hid hstep
          clear hstep
          cases e : bx m j
          · rw [e] at hc5
            have He := Lib.hid e
            clear e
            go_wp2
            exact ⟨⟨k + 1, l, by omega, by go_num, hR, Hl, Lib.hid (Hstep.out l fun v hv => by rw [He.out]; simp), hbG⟩, by simp [intOf]; omega⟩
          · rw [e] at hc5
            have He := Lib.hid e
            clear e
            go_wp2
            refine ⟨⟨k + 1, _, by omega, by go_num, hset, Lib.hid (by rw [List.length_set]; exact Hl.out), Lib.hid (Hstep.out _ fun v hv => ?_), hbG.setCell (by simpa using hg0) _⟩, by simp [intOf]; omega⟩
            rw [ix_set (by rw [Hl.out]; exact hjn), He.out]
            by_cases e : v = j <;> simp [e]
        · obtain rfl : k = goal.length := by omega
          have hl0 : l = rankAt a who m goal 0 := int_range_ext (by rw [Hl.out]; simp) fun v hv => by
            rw [length_rankAt] at hv
            rw [Hm.out v hv, List.take_length]
            show _ = ix (rank0 _ _ _) v
            rw [ix_rank0 hv]
          subst hl0
          clear Hm Hl
          go_wp2
          go_loopw [11, 14] (fun v i wx => ∃ (k g cap : Nat), k ≤ a.owner.length ∧ i = .int .i64 ((k : Int) + 1) ∧ v = .slice (some ⟨g, 0, none⟩) a.owner.length cap ∧ OwnInts wx w2.heap.size (.slice (some ⟨g, 0, none⟩) a.owner.length cap) (rankAt a who m goal k) ∧ Below w2.heap.size w2 wx) (fun _ i _ => a.owner.length + 1 - (intOf i).toNat)
          case atStart => exact ⟨0, g0, cap0, Nat.zero_le _, rfl, rfl, hR, hbG⟩
          case round =>
            obtain ⟨k, g, cap, hk, rfl, rfl, hR, hbG⟩ := hrel
            obtain ⟨wo, rfl⟩ : ∃ wo : World, wo = wr := ⟨_, rfl⟩
            have hbwo : Below w.heap.size w wo := Below.up hbw hbG
            have hwos := hbG.size
            have hgl := hR.lt g rfl
            by_cases hlt : k < a.owner.length
            · have hlt' : (k : Int) + 1 ≤ a.owner.length := by omega
              go_wp2_with fail
              refine (l1Copy_any _ (rankAt a who m goal k) _ hR.ints (by simp; omega)).mono ?_
              rintro e w5 ⟨u5, rfl, hC, hb5⟩
              obtain ⟨g5, cap5, e1, hg5, hg5l⟩ := hC.form' length_rankAt hpos
              subst e1
              have hrb : Hid (∀ v, v < a.owner.length → -1 ≤ ix (rankAt a who m goal k) v ∧ ix (rankAt a who m goal k) v ≤ 256) := Lib.hid fun v hv => rank_i64 hv (by omega)
              have HR : Hid (OwnInts wo w2.heap.size (.slice (some ⟨g, 0, none⟩) a.owner.length cap) (rankAt a who m goal k)) := Lib.hid hR
              go_wp2
              go_loopw [16] (fun i wr => ∃ (t : Nat) (l : List Int), t ≤ s.length ∧ i = .int .i64 t ∧ OwnInts wr wo.heap.size (.slice (some ⟨g5, 0, none⟩) a.owner.length cap5) l ∧ Hid (l.length = a.owner.length) ∧ Hid (∀ v, v < a.owner.length → ix l v = if (v : Int) ∈ s.take t ∧ newB a who m (rankAt a who m goal k) v = true then (k : Int) + 1 else ix (rankAt a who m goal k) v) ∧ Below wo.heap.size wo wr) (fun i _ => s.length - (intOf i).toNat)
              case atStart => exact ⟨0, _, Nat.zero_le _, rfl, hC, Lib.hid (by simp), Lib.hid (fun v hv => by simp), hb5⟩
              case round =>
                obtain ⟨t, l, ht, rfl, hC, Hl, Hm, hbr⟩ := hrel
                have hbwr : Below w.heap.size w wr := Below.up hbwo hbr
                have hbGr : Below w2.heap.size w2 wr := Below.up hbG hbr
                have hMr := (hM.below hbGr).bools
                have hRr : Ints wr (.slice (some ⟨g, 0, none⟩) a.owner.length cap) (rankAt a who m goal k) := HR.out.ints.kept (Kept.of hbr)
                by_cases htl : t < s.length
                · obtain ⟨a1, rfl, hc1⟩ := (hu.kept (Kept.of hbwr)).at_ htl
                  obtain ⟨j, hj, hjn⟩ := hs.vert t htl
                  rw [hj] at hc1
                  have Hj := Lib.hid hj
                  clear hj
                  have hcr := hRr.at_ (k := j) (by rw [length_rankAt]; exact hjn)
                  obtain ⟨ar, ear, hcr⟩ := hcr
                  injection ear with ear
                  subst ear
                  rw [add_head] at hcr
                  have hjl : (j : Int) < a.owner.length := by omega
                  have htl' : (t : Int) < s.length := by omega
                  have Hstep : Hid (∀ l' : List Int, (∀ v, v < a.owner.length → ix l' v = if v = j ∧ newB a who m (rankAt a who m goal k) j = true then (k : Int) + 1 else ix l v) → ∀ v, v < a.owner.length → ix l' v = if (v : Int) ∈ s.take (t + 1) ∧ newB a who m (rankAt a who m goal k) v = true then (k : Int) + 1 else ix (rankAt a who m goal k) v) := Lib.hid (fun l' h v hv => by
                    rw [h v hv, Hm.out v hv, take_ix htl, Hj.out]
                    by_cases e : v = j
                    · subst e
                      by_cases hb : newB a who m (rankAt a who m goal k) v = true <;> simp [hb]
                    · have : ¬ (v : Int) = (j : Int) := by omega
                      simp [e, this])
                  have hBr := hB.below hbGr hBlt
                  have q0 := hBr.c0
                  have q1 := hBr.c1
                  by_cases e : ix (rankAt a who m goal k) j < 0
                  · have hmj : bx m j = true := (Hmv.out j hjn).2 (Hj.out ▸ mem_ix.2 ⟨t, htl, rfl⟩)
                    have hcon := fun (x : Cls wr) => l3Rank_any _ a who _ m _ (rankAt a who m goal k) j x.val (hv.kept ((Kept.of hbwr).trans (Cls.kept x) hbwr.size)) (hMr.kept (Cls.kept x)) (hRr.kept (Cls.kept x)) Hml.out (by simp) hok hjn hrb.out
                    have hpv := rankV_pulled (a := a) (who := who) (m := m) (goal := goal) (k := k) (v := j) (vert_mem (hok.vert_next hjn)) hjn hmj e
                    have Hnew := Lib.hid (show newB a who m (rankAt a who m goal k) j = decide (rankV a who m (rankAt a who m goal k) j = (k : Int) + 1) by rw [hpv]; unfold newB; rw [hmj, decide_eq_true e]; simp)
                    clear hpv hmj
                    generalize rankV a who m (rankAt a who m goal k) j = rv at *
                    have Hcon := Lib.hid hcon
                    clear hcon
                    have hd0 : decide (ix (rankAt a who m goal k) j < 0) = true := decide_eq_true e
                    by_cases e2 : rv = (k : Int) + 1
                    · have hd : (rv == (k : Int) + 1) = true := by simpa using e2
                      have Hn := Lib.hid (Hnew.out.trans (decide_eq_true e2))
                      subst e2
                      have hcm := hC.cell' (k := j) (by rw [Hl.out]; exact hjn)
                      go_wp2_with fail
                      have p0 := Cls.cell q0
                      have p1 := Cls.cell q1
                      have p2 := Cls.cell hc1
                      have p3 := Cls.cell hcr
                      refine wp_region_cls (by kernel_rfl) (by kernel_rfl) ?_
                      repeat (first | go_big_quiet_step ((go_at_call 98; exact calls_cls (Hcon.out _))) | quiet_step ((go_at_call 98; exact calls_cls (Hcon.out _))))
                      refine wpQuiet_nil ?_
                      intro _ hw'
                      obtain ⟨⟨w7, hb7⟩, rfl⟩ := hw'
                      clear p0 p1 p2 p3
                      have hC7 := hC.below hb7 (Nat.le_refl _)
                      have hc7 := hC7.cell' (k := j) (by rw [Hl.out]; exact hjn)
                      have hf7 := hC7.frozen' Hl.out.symm j
                      have hset := hC7.put Hl.out.symm j ((k : Int) + 1)
                      have hc17 := (Kept.of hb7).cell hc1
                      go_wp2
                      refine ⟨⟨t + 1, _, by omega, by go_num, hset, Lib.hid (by rw [List.length_set]; exact Hl.out), Lib.hid (Hstep.out _ fun v hv => ?_), (Below.up hbr hb7).setCell (by simpa using hg5) _⟩, by simp [intOf]; omega⟩
                      rw [ix_set (by rw [Hl.out]; exact hjn), Hn.out]
                      by_cases e : v = j <;> simp [e]
                    · have hd : (rv == (k : Int) + 1) = false := by simpa using e2
                      have Hn := Lib.hid (Hnew.out.trans (decide_eq_false e2))
                      clear e2
                      go_wp2_with fail
                      have p0 := Cls.cell q0
                      have p1 := Cls.cell q1
                      have p2 := Cls.cell hc1
                      have p3 := Cls.cell hcr
                      refine wp_region_cls (by kernel_rfl) (by kernel_rfl) ?_
                      repeat (first | go_big_quiet_step ((go_at_call 98; exact calls_cls (Hcon.out _))) | quiet_step ((go_at_call 98; exact calls_cls (Hcon.out _))))
                      refine wpQuiet_nil ?_
                      intro _ hw'
                      obtain ⟨⟨w7, hb7⟩, rfl⟩ := hw'
                      clear p0 p1 p2 p3
                      go_wp2
                      exact ⟨⟨t + 1, l, by omega, by go_num, hC.below hb7 (Nat.le_refl _), Hl, Lib.hid (Hstep.out l fun v hv => by rw [Hn.out]; simp), Below.up hbr hb7⟩, by simp [intOf]; omega⟩
                  · have hd0 : decide (ix (rankAt a who m goal k) j < 0) = false := decide_eq_false e
                    have Hn := Lib.hid (show newB a who m (rankAt a who m goal k) j = false by unfold newB; rw [hd0]; rfl)
                    clear e
                    go_wp2_with fail
                    have p2 := Cls.cell hc1
                    have p3 := Cls.cell hcr
                    refine wp_region_cls (by kernel_rfl) (by kernel_rfl) ?_
                    repeat (first | go_big_quiet_step (fail) | quiet_step (fail))
                    refine wpQuiet_nil ?_
                    intro _ hw'
                    obtain ⟨⟨w7, hb7⟩, rfl⟩ := hw'
                    clear p2 p3
                    go_wp2
                    exact ⟨⟨t + 1, l, by omega, by go_num, hC.below hb7 (Nat.le_refl _), Hl, Lib.hid (Hstep.out l fun v hv => by rw [Hn.out]; simp), Below.up hbr hb7⟩, by simp [intOf]; omega⟩
                · obtain rfl : t = s.length := by omega
                  have hll : l = rankAt a who m goal (k + 1) := int_range_ext (by rw [Hl.out]; simp) fun v hv => by
                    rw [length_rankAt] at hv
                    rw [Hm.out v hv, List.take_length, ix_rankAt_succ hv]
                    by_cases e : newB a who m (rankAt a who m goal k) v = true
                    · have hin : (v : Int) ∈ s := (Hmv.out v hv).1 (by unfold newB at e; simp only [Bool.and_eq_true] at e; exact e.2.1)
                      rw [if_pos ⟨hin, e⟩, if_pos e]
                    · rw [if_neg (fun h => e h.2), if_neg e]
                  subst hll
                  go_wp2_with fail
                  refine (drew_below (l1Same_any _ _ _ _ _ hC.ints hRr)).mono ?_
                  rintro e w9 ⟨rfl, hb9⟩
                  have hb9' := Below.up hbr hb9
                  by_cases e : rankAt a who m goal (k + 1) = rankAt a who m goal k
                  · have hd : decide (rankAt a who m goal (k + 1) = rankAt a who m goal k) = true := decide_eq_true e
                    have Hres := Lib.hid (show rl = rankAt a who m goal k by
                      rw [Hrl.out]
                      refine rankAt_stable (fun v hv => ?_) hk
                      cases hn : newB a who m (rankAt a who m goal k) v
                      · rfl
                      · have h1 := ix_rankAt_succ (who := who) (m := m) (goal := goal) (k := k) hv
                        rw [e, hn] at h1
                        have h2 := hn
                        unfold newB at h2
                        simp only [Bool.and_eq_true, decide_eq_true_eq] at h2
                        simp only [if_true] at h1
                        omega)
                    clear e
                    have hR9 := HR.out.below hb9' (Nat.le_refl _)
                    go_wp2
                    go_ret
                    exact .mk' (by rw [Hres.out]; exact hR9.more (by omega)) (Below.up hbwo hb9')
                  · have hd : decide (rankAt a who m goal (k + 1) = rankAt a who m goal k) = false := decide_eq_false e
                    clear e
                    have hC9 := (hC.below hb9 (Nat.le_refl _)).more (B' := w2.heap.size) hwos
                    go_wp2
                    exact ⟨⟨k + 1, g5, cap5, by omega, by go_num, rfl, hC9, Below.up hbG hb9'⟩, by simp [intOf]; omega⟩
            · obtain rfl : k = a.owner.length := by omega
              have Hres := Lib.hid Hrl.out
              go_wp2
              go_ret
              exact .mk' (by rw [Hres.out]; exact hR.more (by omega)) hbwo
end Go.Proofs.Ytogfpalgnjlfcaa
