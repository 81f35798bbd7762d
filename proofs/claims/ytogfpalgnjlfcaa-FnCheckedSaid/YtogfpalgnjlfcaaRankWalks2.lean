/- The walks of the program's Attract and PullIn and what they call. Conditions: the arena is valid. Printed by gen_rank2.py. -/
import Derived.Test.YtogfpalgnjlfcaaRankWalks
namespace Go.Proofs.Ytogfpalgnjlfcaa
set_option linter.unusedSimpArgs false
set_option linter.unusedVariables false
open Go.RowKit

theorem rank_i64 {a : ArenaD} {who : Int} {m : List Bool} {goal : List Int} {k v : Nat} (h : v < a.owner.length) (hk : k ≤ 256) : -1 ≤ ix (rankAt a who m goal k) v ∧ ix (rankAt a who m goal k) v ≤ 256 :=
  ⟨(rankAt_bounds h).1, by have := (rankAt_bounds (who := who) (m := m) (goal := goal) (k := k) h).2.1; omega⟩
theorem find_first {l : List Int} {p : Int → Bool} {t : Nat} (h : ∀ j, j < t → p (ix l j) = false) (ht : t < l.length) (hp : p (ix l t) = true) : l.find? p = some (ix l t) := by
  induction l generalizing t with
  | nil => simp at ht
  | cons x l ih =>
    rcases t with _ | t
    · have : p x = true := by simpa [ix] using hp
      simp [List.find?_cons, this, ix]
    · have h0 : p x = false := by simpa [ix] using h 0 (by omega)
      have := ih (t := t) (fun j hj => by simpa [ix] using h (j + 1) (by omega)) (by simpa using ht) (by simpa [ix] using hp)
      simp only [List.find?_cons, h0]
      rw [this]; simp [ix]
theorem find_none {l : List Int} {p : Int → Bool} (h : ∀ j, j < l.length → p (ix l j) = false) : l.find? p = none := by
  rw [List.find?_eq_none]
  intro x hx
  obtain ⟨k, hk, e⟩ := mem_ix.1 hx
  rw [← e, h k hk]; simp

theorem OI.under {w w' : World} {B C : Nat} {v : Value} {l : List Int} (h : OI w B C v l) (hb : Below C w w') : OI w' B C v l := h.heap fun b hb2 => hb.block b (h.2 b hb2)
/-- A row of the call's own, when another one has grown. -/
theorem OI.grown {w w' : World} {B C : Nat} {v : Value} {l : List Int} {row : Option Nat} (h : OI w B C v l) (hg : w.grownBy w' row) (hne : ∀ b, row = some b → b < B ∨ C ≤ b) : OI w' B C v l :=
  h.heap fun b hb => hg.block b (h.1.lt b hb).2 fun e => by
    have h1 := hne b e.symm
    have h2 := (h.1.lt b hb).1
    have h3 := h.2 b hb
    omega

set_option maxRecDepth 100000 in
set_option maxHeartbeats 4000000 in
theorem attract_any (v : Value) (a : ArenaD) (who : Int) (u : Value) (s : List Int) (y : Value) (goal : List Int) (w : World) (hv : IsArena w v a) (hu : Ints w u s) (hy : Ints w y goal) (hok : ArenaOk a) (hs : IsSet s a.owner.length) (hg : IsSet goal a.owner.length) :
    Calls Try.prog 59 #[v, .int .i64 who, u, y] w (RetInts w (attrL a who s goal)) := by
  obtain ⟨o, n, rfl, hbw, hB⟩ := arena_open hv
  have hle := hok.le
  have hw0 : (w.alloc (.cells #[o, n] 30)).heap.size = w.heap.size + 1 := by simp
  obtain ⟨hown, hbn⟩ := new_ints (w.alloc (.cells #[o, n] 30))
  rw [hw0] at hown hbn
  clear hw0
  replace hB := hB.alloc (.cells #[] 2)
  replace hbw := hbw.trans (hbn.mono (Nat.le_succ _))
  clear hbn
  go_enter Try.func59, Try.ntmps59
  have hBz := hB.lt
  have hBc0 := hB.c0
  have hBc1 := hB.c1
  go_wp2_with fail
  generalize (w.alloc (.cells #[o, n] 30)).alloc (.cells #[] 2) = w1 at *
  refine (ranksIn_any _ a who _ s _ goal _ (hv.kept (Kept.of hbw)) (hu.kept (Kept.of hbw)) (hy.kept (Kept.of hbw)) hok hs hg).mono ?_
  rintro e w2 ⟨ur, rfl, hR, hb2⟩
  obtain ⟨A, c, e1, _⟩ := hR.ints.form
  rw [length_ranksL] at e1
  subst e1
  have hown2 := hown.below hb2 (Nat.le_refl _)
  have hw1 := hB.lt
  have hs2 := hb2.size
  have hol : ∀ b, (Value.slice (some ⟨w.heap.size + 1, 0, none⟩) 0 0).ownBlock = some b → b < w1.heap.size := fun b hb => (hown.lt b hb).2
  clear hown
  clear hBc0 hBc1 hBz
  replace hB := hB.below hb2 hB.lt
  replace hbw := Below.up hbw hb2
  have hb2s := hb2.size
  clear hb2
  have hBz := hB.lt
  have hBc0 := hB.c0
  have hBc1 := hB.c1
  clear hBc0 hBc1 hBz
  have Hall := Lib.hid (show attrTo (ranksL a who s goal) a.owner.length = attrL a who s goal from rfl)
  have hlen := length_ranksL (a := a) (who := who) (s := s) (goal := goal)
  have Hlen := Lib.hid hlen
  clear hlen
  generalize ranksL a who s goal = rl at *
  go_wp2
  go_loopw [9, 19] (fun v i wr => ∃ k : Nat, k ≤ a.owner.length ∧ i = .int .i64 k ∧ OwnInts wr (w.heap.size + 1) v (attrTo rl k) ∧ OI wr w1.heap.size w2.heap.size (.slice A a.owner.length c) rl ∧ (∀ b, v.ownBlock = some b → b < w1.heap.size ∨ w2.heap.size ≤ b) ∧ w2.heap.size ≤ wr.heap.size ∧ Below w.heap.size w wr) (fun _ i _ => a.owner.length - (intOf i).toNat)
  case atStart => exact ⟨0, Nat.zero_le _, rfl, hown2, OI.of hR, fun b hb => .inl (hol b hb), Nat.le_refl _, hbw⟩
  case round =>
    obtain ⟨k, hk, rfl, hown, hR, hap, hws, hbr⟩ := hrel
    have hbs : w.heap.size + 1 ≤ wr.heap.size := by omega
    by_cases hlt : k < a.owner.length
    · obtain ⟨a1, rfl, hc1⟩ := hR.ints.at_ (k := k) (by rw [Hlen.out]; exact hlt)
      have hl := attrTo_len rl k
      have Hs := Lib.hid (attrTo_succ rl k)
      by_cases e : 0 ≤ ix rl k
      · have hd : decide (0 ≤ ix rl k) = true := decide_eq_true e
        rw [hd] at Hs
        clear e
        go_wp2_with (at_builtin; refine append_int _ rfl (.tmp 26) (.tmp 28) rfl (w.heap.size + 1) u9 _ rfl hown (k : Int) rfl (by omega) hbs ?_; intro v1 w3 ho1 hb1 hg1 hl1)
        refine ⟨⟨k + 1, by omega, by go_num, by rw [Hs.out]; exact ho1, hR.grown hg1 hap, fun b hb => ?_, Nat.le_trans hws hg1.size, hbr.trans (hb1.mono (Nat.le_succ _))⟩, by simp [intOf]; omega⟩
        rcases hl1 with e | e
        · exact hap b (e ▸ hb)
        · rw [e] at hb; simp only [Option.some.injEq] at hb; omega
      · have hd : decide (0 ≤ ix rl k) = false := decide_eq_false e
        rw [hd] at Hs
        clear e
        go_wp2
        exact ⟨⟨k + 1, by omega, by go_num, by rw [Hs.out]; simpa using hown, hR, hap, hws, hbr⟩, by simp [intOf]; omega⟩
    · obtain rfl : k = a.owner.length := by omega
      rw [Hall.out] at hown
      go_wp2
      go_ret
      exact .mk' (hown.more (Nat.le_succ _)) hbr


set_option maxRecDepth 100000 in
set_option maxHeartbeats 4000000 in
theorem pullIn_any (v : Value) (a : ArenaD) (who : Int) (u : Value) (s : List Int) (y : Value) (goal : List Int) (w : World) (hv : IsArena w v a) (hu : Ints w u s) (hy : Ints w y goal) (hok : ArenaOk a) (hs : IsSet s a.owner.length) (hg : IsSet goal a.owner.length) :
    Calls Try.prog 60 #[v, .int .i64 who, u, y] w (RetInts w (pullL a who s goal)) := by
  obtain ⟨o, n, rfl, hbw, hB⟩ := arena_open hv
  obtain ⟨ho, hn⟩ := hv.parts
  obtain ⟨A, c, rfl, hlc, hcm⟩ := ho.form
  obtain ⟨A', c', rfl, hlc', hcm'⟩ := hn.form
  have hle := hok.le
  have hBl0 := hB.lt
  have Hlen := Lib.hid hok.len
  go_enter Try.func60, Try.ntmps60
  have hBz := hB.lt
  have hBc0 := hB.c0
  have hBc1 := hB.c1
  go_wp2_with fail
  refine (ranksIn_any _ a who _ s _ goal _ (hv.kept (Kept.of hbw)) (hu.kept (Kept.of hbw)) (hy.kept (Kept.of hbw)) hok hs hg).mono ?_
  rintro e w1 ⟨ur, rfl, hR, hb1⟩
  obtain ⟨R, rc, e1, _⟩ := hR.ints.form
  rw [length_ranksL] at e1
  subst e1
  replace hR := OI.of hR
  clear hBc0 hBc1 hBz
  replace hB := hB.below hb1 hB.lt
  replace hbw := Below.up hbw hb1
  have hb1s := hb1.size
  clear hb1
  have hBz := hB.lt
  have hBc0 := hB.c0
  have hBc1 := hB.c1
  go_wp2_with fail
  refine (markOf_any _ a _ s _ (hv.kept (Kept.of hbw)) (hu.kept (Kept.of hbw)) hs.vert (by omega)).mono ?_
  rintro e w2 ⟨um, rfl, hM, hb2⟩
  obtain ⟨M, mc, e1, _⟩ := hM.bools.form
  rw [length_marksL] at e1
  subst e1
  replace hM := OB.of hM
  clear hBc0 hBc1 hBz
  replace hB := hB.below hb2 hB.lt
  replace hR := hR.below hb2
  replace hbw := Below.up hbw hb2
  have hb2s := hb2.size
  clear hb2
  have hBz := hB.lt
  have hBc0 := hB.c0
  have hBc1 := hB.c1
  go_wp2_with fail
  refine (noPlan_any _ a _ (hv.kept (Kept.of hbw)) (by omega)).mono ?_
  rintro e w3 ⟨G, rfl, hGl, hP, hb3⟩
  clear hBc0 hBc1 hBz
  replace hB := hB.below hb3 hB.lt
  replace hR := hR.below hb3
  replace hM := hM.below hb3
  replace hbw := Below.up hbw hb3
  have hb3s := hb3.size
  clear hb3
  have hBz := hB.lt
  have hBc0 := hB.c0
  have hBc1 := hB.c1
  have hGlt := hP.lt
  have hGB : w.heap.size < G := by omega
  have hw1 := hbw.size
  have hR3 : OI w3 w.heap.size G (.slice R a.owner.length rc) (ranksL a who s goal) := hR.mono (by omega) (by omega)
  have hM3 : OB w3 w.heap.size G (.slice M a.owner.length mc) (marksL a.owner.length s) := ⟨hM.1.more (by omega), fun b hb => Nat.lt_of_lt_of_le (hM.2 b hb) hGl⟩
  clear hR hM hGl hw1 hb1s hb2s hb3s
  have Hrl := Lib.hid (length_ranksL (a := a) (who := who) (s := s) (goal := goal))
  have hrb : Hid (∀ v, v < a.owner.length → -1 ≤ ix (ranksL a who s goal) v ∧ ix (ranksL a who s goal) v ≤ 256 ∧ (0 ≤ ix (ranksL a who s goal) v → bx (marksL a.owner.length s) v = true)) := Lib.hid fun v hv => ⟨(rank_i64 hv hle).1, (rank_i64 hv hle).2, (rankAt_bounds hv).2.2⟩
  have Hml := Lib.hid (length_marksL a.owner.length s)
  have Hpull := Lib.hid (show pullL a who s goal = (List.range a.owner.length).map fun v => pullV a who (ranksL a who s goal) v from rfl)
  generalize pullL a who s goal = pl at *
  generalize ranksL a who s goal = rl at *
  generalize marksL a.owner.length s = m at *
  clear hBc0 hBc1 hBz
  clear hBl0
  obtain ⟨wq, hwq⟩ : ∃ wq : World, wq = w3 := ⟨_, rfl⟩
  have hB3 : Arr wq w.heap.size 30 [.slice A a.owner.length c, .slice A' a.next.length c'] := hwq ▸ hB
  replace hR3 : OI wq w.heap.size G _ _ := hwq ▸ hR3
  replace hM3 : OB wq w.heap.size G _ _ := hwq ▸ hM3
  have hbq : Below G wq w3 := hwq ▸ Below.refl _ _
  clear hwq hB
  go_wp2
  go_loopw [28] (fun i wr => ∃ (k : Nat) (l : List Int), k ≤ a.owner.length ∧ i = .int .i64 k ∧ IArr wr G l ∧ Hid (l.length = a.owner.length) ∧ Hid (∀ v, v < a.owner.length → ix l v = if v < k then pullV a who rl v else -1) ∧ Below G wq wr ∧ Below w.heap.size w wr) (fun i _ => a.owner.length - (intOf i).toNat)
  case atStart => exact ⟨0, _, Nat.zero_le _, rfl, hP, Lib.hid (by simp), Lib.hid (fun v hv => by rw [ix_noneL hv]; simp), hbq, hbw⟩
  case round =>
    obtain ⟨k, l, hk, rfl, hP, Hl, Hm, hbG, hbw⟩ := hrel
    obtain ⟨wo, rfl⟩ : ∃ wo : World, wo = wr := ⟨_, rfl⟩
    have hBr := hB3.below hbG hGB
    have hBr0 := hBr.c0
    have hBr1 := hBr.c1
    have hRr : Ints wo (.slice R a.owner.length rc) rl := (hR3.under hbG).ints
    have hMr : Bools wo (.slice M a.owner.length mc) m := (hM3.under hbG).bools
    by_cases hlt : k < a.owner.length
    · obtain ⟨a1, rfl, hc1⟩ := hRr.at_ (k := k) (by rw [Hrl.out]; exact hlt)
      obtain ⟨a3, rfl, hc3⟩ := ((ho.kept (Kept.of hbw))).at_ hlt
      obtain ⟨a2, R2, q2, ea, hc2, hrow⟩ := ((hn.kept (Kept.of hbw))).at_ (k := k) (by rw [Hlen.out]; exact hlt)
      subst ea
      obtain ⟨R', r', he, hrl2, hrm2⟩ := hrow.form
      simp only [Value.slice.injEq, true_and] at he
      obtain ⟨rfl, rfl⟩ := he
      have hlt' : (k : Int) < a.owner.length := by omega
      have hlt2 : (k : Int) < a.next.length := by rw [Hlen.out]; omega
      obtain ⟨hb1, hb2, hb3⟩ := hrb.out k hlt
      have hvn := hok.vert_next hlt
      have hnext : ∀ l' : List Int, (∀ v, v < a.owner.length → ix l' v = if v = k then pullV a who rl k else ix l v) → ∀ v, v < a.owner.length → ix l' v = if v < k + 1 then pullV a who rl v else -1 := fun l' h v hv => by
        rw [h v hv, Hm.out v hv]
        by_cases e : v = k
        · subst e; simp
        · rw [if_neg e]
          by_cases e2 : v < k
          · rw [if_pos e2, if_pos (by omega)]
          · rw [if_neg e2, if_neg (by omega)]
      have Hnext := Lib.hid hnext
      have Hkeep := Lib.hid (show pullV a who rl k = -1 → ∀ v, v < a.owner.length → ix l v = if v = k then pullV a who rl k else ix l v from fun h v hv => by
        by_cases e : v = k
        · subst e; rw [if_pos rfl, h, Hm.out v hv, if_neg (by omega)]
        · rw [if_neg e])
      clear hnext hb3
      by_cases e1 : ix rl k < 1
      · have Hp := Lib.hid (show pullV a who rl k = -1 by unfold pullV; rw [if_neg (by omega)])
        go_wp2
        exact ⟨⟨k + 1, l, by omega, by go_num, hP, Hl, Lib.hid (Hnext.out l (Hkeep.out Hp.out)), hbG, hbw⟩, by simp [intOf]; omega⟩
      · by_cases e2 : ix a.owner k = who
        · have hd2 : (ix a.owner k != who) = false := by simpa using e2
          have Hp := Lib.hid (show pullV a who rl k = ((rx a.next k).find? fun u => decide (ix rl u.toNat = ix rl k - 1)).getD (-1) by unfold pullV; rw [if_pos ⟨e2, by omega⟩])
          clear e2
          go_wp2
          go_loopw [50] (fun i wr => ∃ t : Nat, t ≤ (rx a.next k).length ∧ i = .int .i64 t ∧ wr = wo ∧ Hid (∀ j, j < t → decide (ix rl (ix (rx a.next k) j).toNat = ix rl k - 1) = false)) (fun i _ => (rx a.next k).length - (intOf i).toNat)
          case atStart => exact ⟨0, Nat.zero_le _, rfl, rfl, Lib.hid (fun j hj => by omega)⟩
          case round =>
            obtain ⟨t, ht, rfl, hw, Hno⟩ := hrel
            subst hw
            by_cases htl : t < (rx a.next k).length
            · obtain ⟨a4, rfl, hc4⟩ := hrow.at_ htl
              obtain ⟨i, hi, hin⟩ := hvn t htl
              have Hi := Lib.hid hi
              rw [hi] at hc4
              clear hi
              obtain ⟨a5, ea5, hc5⟩ := hMr.at_ (k := i) (by rw [Hml.out]; exact hin)
              subst ea5
              have hc6 := hRr.at_ (k := i) (by rw [Hrl.out]; exact hin)
              obtain ⟨a6, ea6, hc6⟩ := hc6
              injection ea6 with ea6
              subst ea6
              have hil : (i : Int) < a.owner.length := by omega
              obtain ⟨hi1, hi2, hi3⟩ := hrb.out i hin
              have Hi3 := Lib.hid hi3
              clear hi3
              have Hmore := Lib.hid (show decide (ix rl i = ix rl k - 1) = false → ∀ j, j < t + 1 → decide (ix rl (ix (rx a.next k) j).toNat = ix rl k - 1) = false from fun h j hj => by
                by_cases e : j = t
                · rw [e, Hi.out]; exact h
                · exact Hno.out j (by omega))
              cases em : bx m i
              · rw [em] at hc5
                have Hne := Lib.hid (show decide (ix rl i = ix rl k - 1) = false from decide_eq_false fun h => by rw [Hi3.out (by omega)] at em; cases em)
                clear em
                go_wp2
                exact ⟨⟨t + 1, by omega, by go_num, trivial, Lib.hid (Hmore.out Hne.out)⟩, by simp [intOf]; omega⟩
              · rw [em] at hc5
                clear em
                by_cases e4 : ix rl i = ix rl k - 1
                · have hd4 : (ix rl i == ix rl k - 1) = true := by simpa using e4
                  have Hf := Lib.hid (show pullV a who rl k = (i : Int) by
                    rw [Hp.out, find_first (p := fun u => decide (ix rl u.toNat = ix rl k - 1)) Hno.out htl (by rw [Hi.out]; simpa using e4), Hi.out]; rfl)
                  clear e4
                  have hc7 := hP.cell (k := k) (by rw [Hl.out]; exact hlt)
                  have hf7 := hP.frozen k
                  have hset := hP.set_ k (i : Int)
                  go_wp2
                  refine ⟨⟨k + 1, _, by omega, by go_num, hset, Lib.hid (by rw [List.length_set]; exact Hl.out), Lib.hid (Hnext.out _ fun v hv => ?_), hbG.setCell (Nat.le_refl _) _, hbw.setCell (by simp; omega) _⟩, by simp [intOf]; omega⟩
                  rw [ix_set (by rw [Hl.out]; exact hlt), Hf.out]
                · have hd4 : (ix rl i == ix rl k - 1) = false := by simpa using e4
                  have Hne := Lib.hid (decide_eq_false e4)
                  clear e4
                  go_wp2
                  exact ⟨⟨t + 1, by omega, by go_num, trivial, Lib.hid (Hmore.out Hne.out)⟩, by simp [intOf]; omega⟩
            · obtain rfl : t = (rx a.next k).length := by omega
              have Hf := Lib.hid (show pullV a who rl k = -1 by rw [Hp.out, find_none (p := fun u => decide (ix rl u.toNat = ix rl k - 1)) Hno.out]; rfl)
              go_wp2
              exact ⟨⟨k + 1, l, by omega, by go_num, hP, Hl, Lib.hid (Hnext.out l (Hkeep.out Hf.out)), hbG, hbw⟩, by simp [intOf]; omega⟩
        · have hd2 : (ix a.owner k != who) = true := by simpa using e2
          have Hp := Lib.hid (show pullV a who rl k = -1 by unfold pullV; rw [if_neg (fun h => e2 h.1)])
          clear e2
          go_wp2
          exact ⟨⟨k + 1, l, by omega, by go_num, hP, Hl, Lib.hid (Hnext.out l (Hkeep.out Hp.out)), hbG, hbw⟩, by simp [intOf]; omega⟩
    · obtain rfl : k = a.owner.length := by omega
      have hll : l = pl := int_range_ext (by rw [Hl.out, Hpull.out]; simp) fun v hv => by
        have hv' : v < a.owner.length := by rw [Hpull.out] at hv; simpa using hv
        rw [Hm.out v hv', Hpull.out, if_pos hv']
        simp [ix, hv']
      subst hll
      have hres := hP.own (B := w.heap.size) (by omega) (by rw [Hl.out]; omega)
      rw [Hl.out] at hres
      go_wp2
      go_ret
      exact .mk' hres hbw

theorem canB_parts {a : ArenaD} {who : Int} {s goal : List Int} (h : canB a who s goal = true) : ArenaOk a ∧ IsSet s a.owner.length ∧ IsSet goal a.owner.length := by
  unfold canB at h
  simp only [Bool.and_eq_true] at h
  exact ⟨arenaOkB_iff.1 h.1, isSetB_iff.1 h.2.2.1, isSetB_iff.1 h.2.2.2⟩

set_option maxRecDepth 100000 in
set_option maxHeartbeats 1000000 in
theorem RanksIn_any (v : Value) (a : ArenaD) (who : Int) (u : Value) (s : List Int) (y : Value) (goal : List Int) (w : World) (hv : IsArena w v a) (hu : Ints w u s) (hy : Ints w y goal) :
    Calls Try.prog 31 #[v, .int .i64 who, u, y] w (RetInts w (ranksG a who s goal)) := by
  obtain ⟨o, n, rfl, hbw, hB⟩ := arena_open hv
  cases hE : canB a who s goal
  · have hres : ranksG a who s goal = [] := by unfold ranksG; rw [hE]; rfl
    rw [hres]; clear hres
    go_enter Try.func31, Try.ntmps31
    have hBz := hB.lt
    have hBc0 := hB.c0
    have hBc1 := hB.c1
    go_wp2_with fail
    refine (canAttract_any _ a who _ s _ goal _ (hv.kept (Kept.of hbw)) (hu.kept (Kept.of hbw)) (hy.kept (Kept.of hbw))).mono ?_
    rintro e w1 ⟨rfl, hb1⟩
    clear hBc0 hBc1 hBz
    replace hB := hB.below hb1 hB.lt
    replace hbw := Below.up hbw hb1
    have hb1s := hb1.size
    clear hb1
    have hBz := hB.lt
    have hBc0 := hB.c0
    have hBc1 := hB.c1
    go_wp2
    go_ret
    exact .mk' (OwnInts.nil _ _) hbw
  · have hres : ranksG a who s goal = ranksL a who s goal := by unfold ranksG; rw [hE]; rfl
    obtain ⟨hok, hs, hg⟩ := canB_parts hE
    rw [hres]; clear hres
    go_enter Try.func31, Try.ntmps31
    have hBz := hB.lt
    have hBc0 := hB.c0
    have hBc1 := hB.c1
    go_wp2_with fail
    refine (canAttract_any _ a who _ s _ goal _ (hv.kept (Kept.of hbw)) (hu.kept (Kept.of hbw)) (hy.kept (Kept.of hbw))).mono ?_
    rintro e w1 ⟨rfl, hb1⟩
    clear hBc0 hBc1 hBz
    replace hB := hB.below hb1 hB.lt
    replace hbw := Below.up hbw hb1
    have hb1s := hb1.size
    clear hb1
    have hBz := hB.lt
    have hBc0 := hB.c0
    have hBc1 := hB.c1
    go_wp2_with fail
    refine (ranksIn_any _ a who _ s _ goal _ (hv.kept (Kept.of hbw)) (hu.kept (Kept.of hbw)) (hy.kept (Kept.of hbw)) hok hs hg).mono ?_
    rintro e w9 ⟨u9, rfl, ho9, hb9⟩
    go_wp2
    go_ret
    exact .at_ hbw ho9 hb9


set_option maxRecDepth 100000 in
set_option maxHeartbeats 1000000 in
theorem Attract_any (v : Value) (a : ArenaD) (who : Int) (u : Value) (s : List Int) (y : Value) (goal : List Int) (w : World) (hv : IsArena w v a) (hu : Ints w u s) (hy : Ints w y goal) :
    Calls Try.prog 22 #[v, .int .i64 who, u, y] w (RetInts w (attrG a who s goal)) := by
  obtain ⟨o, n, rfl, hbw, hB⟩ := arena_open hv
  cases hE : canB a who s goal
  · have hres : attrG a who s goal = [] := by unfold attrG; rw [hE]; rfl
    rw [hres]; clear hres
    go_enter Try.func22, Try.ntmps22
    have hBz := hB.lt
    have hBc0 := hB.c0
    have hBc1 := hB.c1
    go_wp2_with fail
    refine (canAttract_any _ a who _ s _ goal _ (hv.kept (Kept.of hbw)) (hu.kept (Kept.of hbw)) (hy.kept (Kept.of hbw))).mono ?_
    rintro e w1 ⟨rfl, hb1⟩
    clear hBc0 hBc1 hBz
    replace hB := hB.below hb1 hB.lt
    replace hbw := Below.up hbw hb1
    have hb1s := hb1.size
    clear hb1
    have hBz := hB.lt
    have hBc0 := hB.c0
    have hBc1 := hB.c1
    go_wp2
    go_ret
    exact .mk' (OwnInts.nil _ _) hbw
  · have hres : attrG a who s goal = attrL a who s goal := by unfold attrG; rw [hE]; rfl
    obtain ⟨hok, hs, hg⟩ := canB_parts hE
    rw [hres]; clear hres
    go_enter Try.func22, Try.ntmps22
    have hBz := hB.lt
    have hBc0 := hB.c0
    have hBc1 := hB.c1
    go_wp2_with fail
    refine (canAttract_any _ a who _ s _ goal _ (hv.kept (Kept.of hbw)) (hu.kept (Kept.of hbw)) (hy.kept (Kept.of hbw))).mono ?_
    rintro e w1 ⟨rfl, hb1⟩
    clear hBc0 hBc1 hBz
    replace hB := hB.below hb1 hB.lt
    replace hbw := Below.up hbw hb1
    have hb1s := hb1.size
    clear hb1
    have hBz := hB.lt
    have hBc0 := hB.c0
    have hBc1 := hB.c1
    go_wp2_with fail
    refine (attract_any _ a who _ s _ goal _ (hv.kept (Kept.of hbw)) (hu.kept (Kept.of hbw)) (hy.kept (Kept.of hbw)) hok hs hg).mono ?_
    rintro e w9 ⟨u9, rfl, ho9, hb9⟩
    go_wp2
    go_ret
    exact .at_ hbw ho9 hb9


set_option maxRecDepth 100000 in
set_option maxHeartbeats 1000000 in
theorem PullIn_any (v : Value) (a : ArenaD) (who : Int) (u : Value) (s : List Int) (y : Value) (goal : List Int) (w : World) (hv : IsArena w v a) (hu : Ints w u s) (hy : Ints w y goal) :
    Calls Try.prog 23 #[v, .int .i64 who, u, y] w (RetInts w (pullG a who s goal)) := by
  obtain ⟨o, n, rfl, hbw, hB⟩ := arena_open hv
  cases hE : canB a who s goal
  · have hres : pullG a who s goal = [] := by unfold pullG; rw [hE]; rfl
    rw [hres]; clear hres
    go_enter Try.func23, Try.ntmps23
    have hBz := hB.lt
    have hBc0 := hB.c0
    have hBc1 := hB.c1
    go_wp2_with fail
    refine (canAttract_any _ a who _ s _ goal _ (hv.kept (Kept.of hbw)) (hu.kept (Kept.of hbw)) (hy.kept (Kept.of hbw))).mono ?_
    rintro e w1 ⟨rfl, hb1⟩
    clear hBc0 hBc1 hBz
    replace hB := hB.below hb1 hB.lt
    replace hbw := Below.up hbw hb1
    have hb1s := hb1.size
    clear hb1
    have hBz := hB.lt
    have hBc0 := hB.c0
    have hBc1 := hB.c1
    go_wp2
    go_ret
    exact .mk' (OwnInts.nil _ _) hbw
  · have hres : pullG a who s goal = pullL a who s goal := by unfold pullG; rw [hE]; rfl
    obtain ⟨hok, hs, hg⟩ := canB_parts hE
    rw [hres]; clear hres
    go_enter Try.func23, Try.ntmps23
    have hBz := hB.lt
    have hBc0 := hB.c0
    have hBc1 := hB.c1
    go_wp2_with fail
    refine (canAttract_any _ a who _ s _ goal _ (hv.kept (Kept.of hbw)) (hu.kept (Kept.of hbw)) (hy.kept (Kept.of hbw))).mono ?_
    rintro e w1 ⟨rfl, hb1⟩
    clear hBc0 hBc1 hBz
    replace hB := hB.below hb1 hB.lt
    replace hbw := Below.up hbw hb1
    have hb1s := hb1.size
    clear hb1
    have hBz := hB.lt
    have hBc0 := hB.c0
    have hBc1 := hB.c1
    go_wp2_with fail
    refine (pullIn_any _ a who _ s _ goal _ (hv.kept (Kept.of hbw)) (hu.kept (Kept.of hbw)) (hy.kept (Kept.of hbw)) hok hs hg).mono ?_
    rintro e w9 ⟨u9, rfl, ho9, hb9⟩
    go_wp2
    go_ret
    exact .at_ hbw ho9 hb9

end Go.Proofs.Ytogfpalgnjlfcaa
