/- The walks of the program's ranks and what they call. Conditions: the arena is valid. -/
import Derived.Test.YtogfpalgnjlfcaaPkC
import Derived.Test.YtogfpalgnjlfcaaReachWalks
import Derived.Test.YtogfpalgnjlfcaaTrapWalks2
import Derived.Test.YtogfpalgnjlfcaaPredsWalks
import Derived.Test.YtogfpalgnjlfcaaFullWalks
namespace Go.Proofs.Ytogfpalgnjlfcaa
set_option linter.unusedSimpArgs false
set_option linter.unusedVariables false
open Go.RowKit

theorem OB.under {w w' : World} {B C : Nat} {v : Value} {l : List Bool} (h : OB w B C v l) (hb : Below C w w') : OB w' B C v l := ⟨h.1.heap fun b hb2 => hb.block b (h.2 b hb2), h.2⟩
theorem OwnInts.far {w : World} {B : Nat} {v : Value} {l : List Int} (h : OwnInts w B v l) {p : Addr} (hp : p.block < B) (u : Value) : OwnInts (w.setCell p u) B v l :=
  ((OI.of h).heap fun b hb => Below.heap_setCell _ _ _ _ (by have := (h.lt b hb).1; omega)).1
set_option maxHeartbeats 2000000 in
theorem isPulled_any (v : Value) (a : ArenaD) (who : Int) (um : Value) (m : List Bool) (ur : Value) (r : List Int) (j : Nat) (w : World) (hv : IsArena w v a) (hm : Bools w um m) (hr : Ints w ur r) (hml : m.length = a.owner.length) (hrl : r.length = a.owner.length) (hok : ArenaOk a) (hj : j < a.owner.length) :
    Calls Try.prog 96 #[v, .int .i64 who, um, ur, .int .i64 (j : Int)] w fun e w' => e = .returned (.bool (pulledB a who m r j)) ∧ Below w.heap.size w w' := by
  obtain ⟨o, n, rfl, hbw, hB⟩ := arena_open hv
  obtain ⟨ho, hn⟩ := hv.parts
  obtain ⟨A, c, rfl, hlc, hcm⟩ := ho.form
  obtain ⟨A', c', rfl, hlc', hcm'⟩ := hn.form
  obtain ⟨M, mc, rfl, hmc, hmm⟩ := hm.form
  obtain ⟨R0, rc, rfl, hrc, hrm⟩ := hr.form
  have hBc0 := hB.c0
  have hBc1 := hB.c1
  have hjn : j < a.next.length := by rw [hok.len]; exact hj
  have hjl : (j : Int) < a.owner.length := by omega
  have hjl2 : (j : Int) < a.next.length := by omega
  obtain ⟨a2, R, q, rfl, hc2, hrow⟩ := ((hn.kept (Kept.of hbw))).at_ hjn
  obtain ⟨a3, rfl, hc3⟩ := ((ho.kept (Kept.of hbw))).at_ hj
  obtain ⟨R', r', he, hrl2, hrm2⟩ := hrow.form
  simp only [Value.slice.injEq, true_and] at he
  obtain ⟨rfl, rfl⟩ := he
  have hm1 := (hm.kept (Kept.of hbw))
  have hr1 := (hr.kept (Kept.of hbw))
  have hvn := hok.vert_next hj
  have Hml := Lib.hid hml
  have Hrl := Lib.hid hrl
  clear hml hrl
  obtain ⟨b, hb⟩ : ∃ b, pulledB a who m r j = b := ⟨_, rfl⟩
  rw [hb]
  have Hb := Lib.hid hb
  clear hb
  go_enter Try.func96, Try.ntmps96
  go_wp2
  go_loop [11, 12, 13, 22] (fun x y z i => ∃ t : Nat, t ≤ (rx a.next j).length ∧ i = .int .i64 t ∧ x = .bool (((rx a.next j).take t).any fun u => bx m u.toNat && decide (0 ≤ ix r u.toNat)) ∧ y = .bool (((rx a.next j).take t).all fun u => !bx m u.toNat || decide (0 ≤ ix r u.toNat)) ∧ z = .bool (((rx a.next j).take t).any fun u => bx m u.toNat)) (fun _ _ _ i => (rx a.next j).length - (intOf i).toNat)
  case atStart => exact ⟨0, Nat.zero_le _, rfl, rfl, rfl, rfl⟩
  case round =>
    obtain ⟨t, ht, rfl, rfl, rfl, rfl⟩ := hrel
    by_cases htl : t < (rx a.next j).length
    · obtain ⟨a4, rfl, hc4⟩ := hrow.at_ htl
      obtain ⟨i, hi, hin⟩ := hvn t htl
      obtain ⟨a5, rfl, hc5⟩ := hm1.at_ (k := i) (by rw [Hml.out]; exact hin)
      obtain ⟨a6, rfl, hc6⟩ := hr1.at_ (k := i) (by rw [Hrl.out]; exact hin)
      have Hs1 := Lib.hid (any_take htl fun u => bx m u.toNat && decide (0 ≤ ix r u.toNat))
      have Hs2 := Lib.hid (all_take htl fun u => !bx m u.toNat || decide (0 ≤ ix r u.toNat))
      have Hs3 := Lib.hid (any_take htl fun u => bx m u.toNat)
      rw [hi] at Hs1 Hs2 Hs3
      rw [hi] at hc4
      have hil : (i : Int) < m.length := by rw [Hml.out]; omega
      have hil2 : (i : Int) < r.length := by rw [Hrl.out]; omega
      have htl' : (t : Int) < (rx a.next j).length := by omega
      clear hi
      simp only [Int.toNat_natCast] at Hs1 Hs2 Hs3
      cases h1 : ((rx a.next j).take t).any fun u => bx m u.toNat && decide (0 ≤ ix r u.toNat)
      all_goals
        cases h2 : ((rx a.next j).take t).all fun u => !bx m u.toNat || decide (0 ≤ ix r u.toNat)
        all_goals
          rw [h1] at Hs1
          rw [h2] at Hs2
          clear h1 h2
          cases e : bx m i
          · rw [e] at hc5 Hs1 Hs2 Hs3
            clear e
            go_wp2
            exact ⟨⟨t + 1, by omega, by go_num, by rw [Hs1.out]; simp, by rw [Hs2.out]; simp, by rw [Hs3.out]; simp⟩, by simp [intOf]; omega⟩
          · rw [e] at hc5 Hs1 Hs2 Hs3
            clear e
            by_cases e2 : 0 ≤ ix r i
            · have hd : decide (0 ≤ ix r i) = true := decide_eq_true e2
              rw [hd] at Hs1 Hs2
              clear e2
              go_wp2
              exact ⟨⟨t + 1, by omega, by go_num, by rw [Hs1.out]; simp, by rw [Hs2.out]; simp, by rw [Hs3.out]; simp⟩, by simp [intOf]; omega⟩
            · have hd : decide (0 ≤ ix r i) = false := decide_eq_false e2
              rw [hd] at Hs1 Hs2
              clear e2
              go_wp2
              exact ⟨⟨t + 1, by omega, by go_num, by rw [Hs1.out]; simp, by rw [Hs2.out]; simp, by rw [Hs3.out]; simp⟩, by simp [intOf]; omega⟩
    · obtain rfl : t = (rx a.next j).length := by omega
      rw [any_whole, all_whole, any_whole]
      by_cases e : ix a.owner j = who
      · have hd : (ix a.owner j == who) = true := by simpa using e
        have hp : pulledB a who m r j = (rx a.next j).any fun u => bx m u.toNat && decide (0 ≤ ix r u.toNat) := by unfold pulledB; rw [if_pos e]
        have Hp := Lib.hid hp
        clear e hp
        go_wp2
        go_ret
        exact ⟨by rw [← Hb.out, Hp.out]; rfl, hbw⟩
      · have hd : (ix a.owner j == who) = false := by simpa using e
        have hp : pulledB a who m r j = (((rx a.next j).any fun u => bx m u.toNat) && ((rx a.next j).all fun u => !bx m u.toNat || decide (0 ≤ ix r u.toNat))) := by unfold pulledB; rw [if_neg e]
        have Hp := Lib.hid hp
        clear e hp
        cases h3 : (rx a.next j).any fun u => bx m u.toNat
        all_goals
          rw [h3] at Hp
          clear h3
          go_wp2
          go_ret
          exact ⟨by rw [← Hb.out, Hp.out]; rfl, hbw⟩

set_option maxRecDepth 100000 in
set_option maxHeartbeats 4000000 in
theorem ranksIn_any (v : Value) (a : ArenaD) (who : Int) (u : Value) (s : List Int) (y : Value) (goal : List Int) (w : World) (hv : IsArena w v a) (hu : Ints w u s) (hy : Ints w y goal) (hok : ArenaOk a) (hs : IsSet s a.owner.length) (hg : IsSet goal a.owner.length) :
    Calls Try.prog 68 #[v, .int .i64 who, u, y] w (RetInts w (ranksL a who s goal)) := by
  obtain ⟨o, n, rfl, hbw, hB⟩ := arena_open hv
  obtain ⟨ho, hn⟩ := hv.parts
  obtain ⟨A, c, rfl, hlc, hcm⟩ := ho.form
  obtain ⟨US, uc, rfl, huc, hum⟩ := hu.form
  obtain ⟨YS, yc, rfl, hyc, hym⟩ := hy.form
  have hsz0 := hbw.size
  have hle := hok.le
  have hsl := hs.length_le
  have hgl := hg.length_le
  have hmk := make_one elem_int64 a.owner.length (by omega)
  go_enter Try.func68, Try.ntmps68
  have hBz := hB.lt
  have hBc0 := hB.c0
  have hBc1 := hB.c1
  go_wp2_with fail
  refine (markOf_any _ a _ s _ (hv.kept (Kept.of hbw)) (hu.kept (Kept.of hbw)) hs.vert (by omega)).mono ?_
  rintro e w1 ⟨um, rfl, hM, hb1⟩
  obtain ⟨M, mc, e1, hmc, hmm⟩ := hM.bools.form
  subst e1
  rw [length_marksL] at hM
  replace hM := OB.of hM
  clear hBc0 hBc1 hBz
  replace hB := hB.below hb1 hB.lt
  replace hbw := Below.up hbw hb1
  have hb1s := hb1.size
  clear hb1
  have hBz := hB.lt
  have hBc0 := hB.c0
  have hBc1 := hB.c1
  go_wp2
  clear hmk
  have hR := IArr.new w1 a.owner.length
  have hb2 := (Below.refl w1.heap.size w1).alloc (Nat.le_refl _) (.cells (zeros (.int .i64 0) a.owner.length).toArray 2)
  have hM2 := hM.below hb2
  have hw1 := hbw.size
  have hBlt := hB.lt
  clear hM
  have hb2n := hb2
  clear hBc0 hBc1 hBz
  replace hB := hB.below hb2 hB.lt
  replace hbw := Below.up hbw hb2
  have hb2s := hb2.size
  clear hb2
  have hBz := hB.lt
  have hBc0 := hB.c0
  have hBc1 := hB.c1
  clear hBc0 hBc1 hBz
  generalize w1.alloc (.cells (zeros (.int .i64 0) a.owner.length).toArray 2) = w2 at *
  obtain ⟨G, hG⟩ : ∃ G, w1.heap.size = G := ⟨_, rfl⟩
  rw [hG] at hR hM2 hw1 hBlt ⊢
  clear hG hb2n hb2s hb1s
  have hM3 : OB w2 w.heap.size G (.slice M a.owner.length mc) (marksL a.owner.length s) := ⟨hM2.1.more (by omega), hM2.2⟩
  have hml : (marksL a.owner.length s).length = a.owner.length := by simp
  clear hM2 hmc
  have Hml := Lib.hid hml
  clear hml
  generalize hmv : marksL a.owner.length s = m at *
  have Hmv := Lib.hid hmv
  clear hmv
  go_loopw [29] (fun i wr => ∃ (k : Nat) (l : List Int), k ≤ a.owner.length ∧ i = .int .i64 k ∧ IArr wr G l ∧ Hid (l.length = a.owner.length) ∧ Hid (∀ j, j < k → ix l j = -1) ∧ Below G w2 wr ∧ Below w.heap.size w wr) (fun i _ => a.owner.length - (intOf i).toNat)
  case atStart => exact ⟨0, _, Nat.zero_le _, rfl, hR, Lib.hid (by simp), Lib.hid (fun j hj => by omega), Below.refl _ _, hbw⟩
  case round =>
    obtain ⟨k, l, hk, rfl, hR, Hl, Hm, hbG, hbw⟩ := hrel
    by_cases hlt : k < a.owner.length
    · have hc2 := hR.cell (k := k) (by rw [Hl.out]; exact hlt)
      have hf2 := hR.frozen k
      have hset := hR.set_ k (-1)
      have hlt' : (k : Int) < a.owner.length := by omega
      go_wp2
      refine ⟨⟨k + 1, _, by omega, by go_num, hset, Lib.hid (by rw [List.length_set]; exact Hl.out), Lib.hid (fun j hj => ?_), hbG.setCell (Nat.le_refl _) _, hbw.setCell (by simp; omega) _⟩, by simp [intOf]; omega⟩
      rw [ix_set (by rw [Hl.out]; exact hlt)]
      split
      · rfl
      · exact Hm.out j (by omega)
    · obtain rfl : k = a.owner.length := by omega
      have hl0 : Hid (∀ v, v < a.owner.length → ix l v = if bx m v && decide ((v : Int) ∈ goal.take 0) then 0 else -1) := Lib.hid (fun v hv => by rw [Hm.out v hv]; simp)
      clear Hm
      go_wp2
      go_loopw [38] (fun i wr => ∃ (k : Nat) (l : List Int), k ≤ goal.length ∧ i = .int .i64 k ∧ IArr wr G l ∧ Hid (l.length = a.owner.length) ∧ Hid (∀ v, v < a.owner.length → ix l v = if bx m v && decide ((v : Int) ∈ goal.take k) then 0 else -1) ∧ Below G w2 wr ∧ Below w.heap.size w wr) (fun i _ => goal.length - (intOf i).toNat)
      case atStart => exact ⟨0, _, Nat.zero_le _, rfl, hR, Hl, hl0, hbG, hbw⟩
      case round =>
        obtain ⟨k, l, hk, rfl, hR, Hl, Hm, hbG, hbw⟩ := hrel
        by_cases hlt : k < goal.length
        · obtain ⟨a1, rfl, hc1⟩ := ((hy.kept (Kept.of hbw))).at_ hlt
          obtain ⟨j, hj, hjn⟩ := hg.vert k hlt
          rw [hj] at hc1
          have Hj := Lib.hid hj
          clear hj
          obtain ⟨a5, rfl, hc5⟩ := (hM3.under hbG).bools.at_ (k := j) (by rw [Hml.out]; exact hjn)
          have hjl : (j : Int) < a.owner.length := by omega
          have hc2 := hR.cell (k := j) (by rw [Hl.out]; exact hjn)
          have hf2 := hR.frozen j
          have hset := hR.set_ j 0
          have hstep : ∀ l' : List Int, (∀ v, v < a.owner.length → ix l' v = if v = j ∧ bx m j = true then 0 else ix l v) → ∀ v, v < a.owner.length → ix l' v = if bx m v && decide ((v : Int) ∈ goal.take (k + 1)) then 0 else -1 := fun l' h v hv => by
            rw [h v hv, Hm.out v hv, take_ix hlt, Hj.out]
            by_cases e : v = j
            · subst e
              cases hb : bx m v <;> simp [hb]
            · have : ¬ (v : Int) = (j : Int) := by omega
              simp [e, this]
          have Hstep := Lib.hid hstep
          clear hstep
          cases e : bx m j
          · rw [e] at hc5
            have He := Lib.hid e
            clear e
            go_wp2
            exact ⟨⟨k + 1, l, by omega, by go_num, hR, Hl, Lib.hid (Hstep.out l fun v hv => by rw [He.out]; simp), hbG, hbw⟩, by simp [intOf]; omega⟩
          · rw [e] at hc5
            have He := Lib.hid e
            clear e
            go_wp2
            refine ⟨⟨k + 1, _, by omega, by go_num, hset, Lib.hid (by rw [List.length_set]; exact Hl.out), Lib.hid (Hstep.out _ fun v hv => ?_), hbG.setCell (Nat.le_refl _) _, hbw.setCell (by simp; omega) _⟩, by simp [intOf]; omega⟩
            rw [ix_set (by rw [Hl.out]; exact hjn), He.out]
            by_cases e : v = j <;> simp [e]
        · obtain rfl : k = goal.length := by omega
          have hl0 : l = rankAt a who m goal 0 := int_range_ext (by rw [Hl.out]; simp) fun v hv => by
            rw [length_rankAt] at hv
            rw [Hm.out v hv, List.take_length]
            show _ = ix (rank0 _ _ _) v
            rw [ix_rank0 hv]
          subst hl0
          clear Hm Hl
          go_wp2
          go_loopg [14] a.owner.length (fun g i wx => ∃ k : Nat, i = .int .i64 k ∧ IArr wx G (rankAt a who m goal k) ∧ Hid (negTo (rankAt a who m goal k) a.owner.length ≤ g) ∧ k + g ≤ a.owner.length ∧ Below G w2 wx ∧ Below w.heap.size w wx)
          case atStart => exact ⟨0, rfl, hR, Lib.hid (negTo_le _ _), by omega, hbG, hbw⟩
          case round =>
            obtain ⟨k, rfl, hR, HN, hkg, hbG, hbw⟩ := hrel
            obtain ⟨wo, rfl⟩ : ∃ wo : World, wo = wr := ⟨_, rfl⟩
            have hgo : G < wo.heap.size := hR.lt
            have hk256 : k ≤ 256 := by omega
            have hMo := hM3.under hbG
            obtain ⟨hown, hbn⟩ := new_ints wo
            have hBo := hB.below hbG hBlt
            have hr : Ints wo (.slice (some ⟨G, 0, none⟩) a.owner.length a.owner.length) (rankAt a who m goal k) := by
              have := (hR.own (B := 0) (Nat.zero_le _) (by simp; omega)).ints
              rwa [length_rankAt] at this
            go_wp2
            generalize wo.alloc (.cells #[] 2) = w3 at *
            go_loopw [15, 55] (fun v i wr => ∃ t : Nat, t ≤ s.length ∧ i = .int .i64 t ∧ OwnInts wr wo.heap.size v (foundL a who m (rankAt a who m goal k) (s.take t)) ∧ Below wo.heap.size wo wr) (fun _ i _ => s.length - (intOf i).toNat)
            case atStart => exact ⟨0, Nat.zero_le _, rfl, hown, hbn⟩
            case round =>
              obtain ⟨t, ht, rfl, hown, hbr⟩ := hrel
              have hbs := hbr.size
              have hbwr : Below w.heap.size w wr := Below.up hbw hbr
              have hBr := hBo.below hbr hBo.lt
              have hBr0 := hBr.c0
              have hBr1 := hBr.c1
              by_cases htl : t < s.length
              · obtain ⟨a1, rfl, hc1⟩ := (hu.kept (Kept.of hbwr)).at_ htl
                obtain ⟨j, hj, hjn⟩ := hs.vert t htl
                have Hs := Lib.hid (filter_take htl fun v => decide (ix (rankAt a who m goal k) v.toNat < 0) && pulledB a who m (rankAt a who m goal k) v.toNat)
                rw [hj] at hc1 Hs
                rw [Int.toNat_natCast] at Hs
                clear hj
                have hRr := hR.below' hbr hgo
                have hcr := hRr.cell (k := j) (by rw [length_rankAt]; exact hjn)
                have hjl : (j : Int) < a.owner.length := by omega
                have hlen : (foundL a who m (rankAt a who m goal k) (s.take t)).length ≤ s.length := length_filter_take
                have Hc := Lib.hid (isPulled_any _ a who _ m _ (rankAt a who m goal k) j wr (hv.kept (Kept.of hbwr)) (hMo.below hbr).bools (hr.kept (Kept.of hbr)) Hml.out (by simp) hok hjn)
                by_cases e : ix (rankAt a who m goal k) j < 0
                · have hd : decide (ix (rankAt a who m goal k) j < 0) = true := decide_eq_true e
                  rw [hd] at Hs
                  cases e2 : pulledB a who m (rankAt a who m goal k) j
                  · rw [e2] at Hc Hs
                    clear e2 e
                    go_wp2_with (go_at_call 96; refine Hc.out.mono ?_; rintro e w4 ⟨rfl, hb4⟩)
                    exact ⟨⟨t + 1, by omega, by go_num, by unfold foundL; rw [Hs.out]; simpa [foundL] using hown.below hb4 (Nat.le_refl _), Below.up hbr hb4⟩, by simp [intOf]; omega⟩
                  · rw [e2] at Hc Hs
                    clear e2 e
                    go_wp2_with (first | (go_at_call 96; refine Hc.out.mono ?_; rintro e w4 ⟨rfl, hb4⟩; have hown4 := hown.below hb4 (Nat.le_refl _); have hbs4 := Nat.le_trans hbs hb4.size) | (at_builtin; refine append_int _ rfl (.tmp 72) (.tmp 74) rfl wo.heap.size u15 _ rfl hown4 (j : Int) rfl (by omega) hbs4 ?_; intro v1 w5 ho1 hb1 hg1 hl1))
                    exact ⟨⟨t + 1, by omega, by go_num, by unfold foundL; rw [Hs.out]; exact ho1, (Below.up hbr hb4).trans hb1⟩, by simp [intOf]; omega⟩
                · have hd : decide (ix (rankAt a who m goal k) j < 0) = false := decide_eq_false e
                  rw [hd] at Hs
                  clear e
                  go_wp2
                  exact ⟨⟨t + 1, by omega, by go_num, by unfold foundL; rw [Hs.out]; simpa [foundL] using hown, hbr⟩, by simp [intOf]; omega⟩
              · obtain rfl : t = s.length := by omega
                rw [List.take_length] at hown
                have hRr := hR.below' hbr hgo
                have hbGr : Below G w2 wr := hbG.trans (hbr.mono (by omega))
                obtain ⟨A1, c1, e1, _⟩ := hown.ints.form
                subst e1
                by_cases hf : foundL a who m (rankAt a who m goal k) s = []
                · have hst := rankAt_stable (fun v hv => by
                    have := found_none (n := a.owner.length) (a := a) (who := who) (r := rankAt a who m goal k) hs (by rw [Hmv.out]; exact hf) v hv
                    rwa [Hmv.out] at this) (show k ≤ a.owner.length by omega)
                  have hfin : ranksL a who s goal = rankAt a who m goal k := by unfold ranksL; rw [Hmv.out]; exact hst
                  have Hfin := Lib.hid hfin
                  clear hst hfin
                  rw [hf]
                  have hres := hRr.own (B := w.heap.size) (by omega) (by simp; omega)
                  rw [length_rankAt] at hres
                  go_wp2
                  go_ret
                  exact .mk' (by rw [Hfin.out]; exact hres) hbwr
                · have hpos : 0 < (foundL a who m (rankAt a who m goal k) s).length := List.length_pos_iff.2 hf
                  have hfl : (foundL a who m (rankAt a who m goal k) s).length ≤ s.length := List.length_filter_le _ _
                  have hnew : ∀ v, v < a.owner.length → ((v : Int) ∈ foundL a who m (rankAt a who m goal k) s ↔ newB a who m (rankAt a who m goal k) v = true) := fun v hv => by
                    have := found_new (a := a) (who := who) (r := rankAt a who m goal k) hs hv
                    rwa [Hmv.out] at this
                  have hvf : ∀ t, t < (foundL a who m (rankAt a who m goal k) s).length → ∃ j : Nat, ix (foundL a who m (rankAt a who m goal k) s) t = (j : Int) ∧ j < a.owner.length := fun t ht => by
                    have h1 : ix (foundL a who m (rankAt a who m goal k) s) t ∈ s := (List.mem_filter.1 (mem_ix.2 ⟨t, ht, rfl⟩)).1
                    obtain ⟨i, hi, e⟩ := mem_ix.1 h1
                    obtain ⟨j, hj, hjn⟩ := hs.vert i hi
                    exact ⟨j, by rw [← e, hj], hjn⟩
                  have hfall : negTo (rankAt a who m goal (k + 1)) a.owner.length < negTo (rankAt a who m goal k) a.owner.length := by
                    obtain ⟨j, hj, hjn⟩ := hvf 0 hpos
                    exact rankAt_falls hjn ((hnew j hjn).1 (hj ▸ mem_ix.2 ⟨0, hpos, rfl⟩))
                  have Hfall := Lib.hid hfall
                  have Hnew := Lib.hid hnew
                  clear hfall hnew hf
                  generalize foundL a who m (rankAt a who m goal k) s = fl at *
                  have hz : ((fl.length : Int) == 0) = false := by rw [beq_eq_false_iff_ne]; omega
                  go_wp2
                  clear hz
                  go_loopw [83] (fun i wx => ∃ (t : Nat) (l : List Int), t ≤ fl.length ∧ i = .int .i64 t ∧ IArr wx G l ∧ Hid (l.length = a.owner.length) ∧ Hid (∀ v, v < a.owner.length → ix l v = if (v : Int) ∈ fl.take t then (k : Int) + 1 else ix (rankAt a who m goal k) v) ∧ OwnInts wx wo.heap.size (.slice A1 fl.length c1) fl ∧ Below G w2 wx ∧ Below w.heap.size w wx) (fun i _ => fl.length - (intOf i).toNat)
                  case atStart => exact ⟨0, _, Nat.zero_le _, rfl, hRr, Lib.hid (by simp), Lib.hid (fun v hv => by simp), hown, hbGr, hbwr⟩
                  case round =>
                    obtain ⟨t, l, ht, rfl, hR, Hl, Hm, hfo, hbG, hbw⟩ := hrel
                    by_cases htl : t < fl.length
                    · obtain ⟨a1, rfl, hc1⟩ := hfo.ints.at_ htl
                      obtain ⟨j, hj, hjn⟩ := hvf t htl
                      rw [hj] at hc1
                      have Hj := Lib.hid hj
                      clear hj
                      have hc2 := hR.cell (k := j) (by rw [Hl.out]; exact hjn)
                      have hf2 := hR.frozen j
                      have hset := hR.set_ j ((k : Int) + 1)
                      have hjl : (j : Int) < a.owner.length := by omega
                      go_wp2
                      refine ⟨⟨t + 1, _, by omega, by go_num, hset, Lib.hid (by rw [List.length_set]; exact Hl.out), Lib.hid (fun v hv => ?_), hfo.far (by simpa using hgo) _, hbG.setCell (Nat.le_refl _) _, hbw.setCell (by simp; omega) _⟩, by simp [intOf]; omega⟩
                      rw [ix_set (by rw [Hl.out]; exact hjn), take_ix htl, Hj.out]
                      by_cases e : v = j
                      · subst e; simp
                      · have h1 : ¬ (v : Int) = (j : Int) := by omega
                        rw [if_neg e, Hm.out v hv]
                        simp [h1]
                    · obtain rfl : t = fl.length := by omega
                      have hll : l = rankAt a who m goal (k + 1) := int_range_ext (by rw [Hl.out]; simp) fun v hv => by
                        rw [length_rankAt] at hv
                        rw [Hm.out v hv, List.take_length, ix_rankAt_succ hv]
                        by_cases e : newB a who m (rankAt a who m goal k) v = true
                        · rw [if_pos e, if_pos ((Hnew.out v hv).2 e)]
                        · rw [if_neg e, if_neg fun h => e ((Hnew.out v hv).1 h)]
                      subst hll
                      have hgk : 0 < gk := by have := HN.out; have := Hfall.out; omega
                      go_wp2
                      go_roundg (gk - 1)
                      case measure => omega
                      case rel => exact ⟨k + 1, by go_num, hR, Lib.hid (by have := HN.out; have := Hfall.out; omega), by omega, hbG, hbw⟩
end Go.Proofs.Ytogfpalgnjlfcaa
