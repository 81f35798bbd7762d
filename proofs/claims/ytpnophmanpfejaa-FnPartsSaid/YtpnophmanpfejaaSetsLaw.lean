/- FnSets: the draws of two sets, what sets do, and the walk of the law. No condition. -/
import Derived.Test.YtpnophmanpfejaaCurWalks
import Derived.Test.YtpnophmanpfejaaSortWalks
import Derived.Test.YtpnophmanpfejaaSetWalks3
namespace Go.Proofs.Ytpnophmanpfejaa
set_option linter.unusedSimpArgs false
set_option linter.unusedVariables false
open Go.RowKit

theorem Below.drawn {w w1 w2 : World} {C : Nat} (h : Below w.heap.size w w1) (hC : w.heap.size ≤ C) (k : Chg (fun b => b = C) w1 w2) : Below w.heap.size w w2 :=
  ⟨k.os.trans h.os, k.tape.trans h.tape, k.output.trans h.output, Nat.le_trans h.size k.size, fun i hi => (k.block i (Nat.lt_of_lt_of_le hi h.size) (by omega)).trans (h.block i hi)⟩

set_option maxRecDepth 100000 in
set_option maxHeartbeats 2000000 in
theorem l2DrawTwo_any (C : Nat) (v : Value) (n : Nat) (w : World) (hc : Cur w C v n) :
    Calls Try.prog 107 #[.pointer (some ⟨C, 0, none⟩)] w fun e w' => ∃ a b la lb, e = .returned (.tuple #[a, b]) ∧ Ints w' a la ∧ Ints w' b lb ∧ la.length ≤ 300 ∧ lb.length ≤ 300 ∧ Drawn w w' C v n := by
  have hCl := hc.lt
  go_enter Try.func107, Try.ntmps107
  go_wp2_with fail
  refine (l1DrawSet_any C v n 10 _ hc (by omega)).mono ?_
  rintro e w1 ⟨a, la, rfl, ha1, hla, _, hd1⟩
  have hs1 := hd1.2.size
  go_wp2_with fail
  refine (l1DrawSet_any C v n 10 _ hd1.1 (by omega)).mono ?_
  rintro e w2 ⟨b, lb, rfl, hb2, hlb, hbn, hd2⟩
  have hs2 := hd2.2.size
  have ha2 : OwnInts w2 w.heap.size a la := ((OI.of ha1).chg hd2.2 fun k hk e => by have := (ha1.lt k hk).1; omega).1
  have hbl := hb2.lt
  have hal := ha1.lt
  go_wp2_with fail
  refine (l1Once_any C v n 20 _ hd2.1).mono ?_
  rintro e w3 ⟨q, rfl, hd3⟩
  have hs3 := hd3.2.size
  have ha3 : OwnInts w3 w.heap.size a la := ((OI.of ha2).chg hd3.2 fun k hk e => by have := (ha2.lt k hk).1; omega).1
  have hb3 : OwnInts w3 w1.heap.size b lb := ((OI.of hb2).chg hd3.2 fun k hk e => by have := (hb2.lt k hk).1; omega).1
  have hdd := (hd1.trans hd2).trans hd3
  cases q
  · go_wp2_with fail
    refine (l1Once_any C v n 20 _ hdd.1).mono ?_
    rintro e w5 ⟨q, rfl, hd5⟩
    have hs5 := hd5.2.size
    have ha5 : OwnInts w5 w.heap.size a la := ((OI.of ha3).chg hd5.2 fun k hk e => by have := (ha3.lt k hk).1; omega).1
    have hb5 : OwnInts w5 w1.heap.size b lb := ((OI.of hb3).chg hd5.2 fun k hk e => by have := (hb3.lt k hk).1; omega).1
    have hdd5 := hdd.trans hd5
    cases q
    · go_wp2
      go_ret2
      exact ⟨_, _, la, lb, rfl, ha5.ints, hb5.ints, by omega, by omega, hdd5⟩
    · go_wp2_with fail
      refine (l1Odd_any C v n _ hdd5.1).mono ?_
      rintro e w6 ⟨x, rfl, _, _, hd6⟩
      have hs6 := hd6.2.size
      have ha6 : OwnInts w6 w.heap.size a la := ((OI.of ha5).chg hd6.2 fun k hk e => by have := (ha5.lt k hk).1; omega).1
      have hb6 : OwnInts w6 w1.heap.size b lb := ((OI.of hb5).chg hd6.2 fun k hk e => by have := (hb5.lt k hk).1; omega).1
      have hdd6 := hdd5.trans hd6
      go_wp2_with (at_builtin; refine append_int w6 rfl (.tmp 18) (.tmp 21) rfl w1.heap.size b lb rfl hb6 x rfl (by omega) (by omega) ?_; intro v1 w8 ho8 hb8 hg8 hl8)
      have ha8 : OwnInts w8 w.heap.size a la := ((OI.of ha6).chg (Chg.of_grown hg8) fun k hk e => by have h1 := (hal k hk).2; have h2 := (hbl k e).1; omega).1
      go_ret2
      exact ⟨_, _, la, _, rfl, ha8.ints, ho8.ints, by omega, by simp; omega, hdd6.grown hc hg8 fun r hr => by have := (hbl r hr).1; omega⟩
  · go_wp2_with fail
    refine (l1Below_any C v n 2 _ hdd.1).mono ?_
    rintro e w4 ⟨x, rfl, hx0, _, hx1, hd4⟩
    have hx2 := hx1 (by omega)
    have hs4 := hd4.2.size
    have hb4 : OwnInts w4 w1.heap.size b lb := ((OI.of hb3).chg hd4.2 fun k hk e => by have := (hb3.lt k hk).1; omega).1
    have hdd4 := hdd.trans hd4
    go_wp2_with fail
    refine (specAllOf_any (256 - x) _).mono ?_
    rintro e w4b ⟨a2, rfl, ha4, hbb⟩
    have hs4b := hbb.size
    have hb4b := hb4.below hbb (Nat.le_refl _)
    have hdd4b := hdd4.below hbb
    have hal4 := ha4.lt
    have hbl4 := hb4.lt
    have hlen : (allL (256 - x)).length ≤ 300 := by unfold allL; split <;> simp <;> omega
    clear ha1 ha2 ha3
    go_wp2_with fail
    refine (l1Once_any C v n 20 _ hdd4b.1).mono ?_
    rintro e w5 ⟨q, rfl, hd5⟩
    have hs5 := hd5.2.size
    have ha5 : OwnInts w5 w4.heap.size a2 _ := ((OI.of ha4).chg hd5.2 fun k hk e => by have := (ha4.lt k hk).1; omega).1
    have hb5 : OwnInts w5 w1.heap.size b lb := ((OI.of hb4b).chg hd5.2 fun k hk e => by have := (hb4b.lt k hk).1; omega).1
    have hdd5 := hdd4b.trans hd5
    cases q
    · go_wp2
      go_ret2
      exact ⟨_, _, _, lb, rfl, ha5.ints, hb5.ints, hlen, by omega, hdd5⟩
    · go_wp2_with fail
      refine (l1Odd_any C v n _ hdd5.1).mono ?_
      rintro e w6 ⟨x, rfl, _, _, hd6⟩
      have hs6 := hd6.2.size
      have ha6 : OwnInts w6 w4.heap.size a2 _ := ((OI.of ha5).chg hd6.2 fun k hk e => by have := (ha5.lt k hk).1; omega).1
      have hb6 : OwnInts w6 w1.heap.size b lb := ((OI.of hb5).chg hd6.2 fun k hk e => by have := (hb5.lt k hk).1; omega).1
      have hdd6 := hdd5.trans hd6
      go_wp2_with (at_builtin; refine append_int w6 rfl (.tmp 18) (.tmp 21) rfl w1.heap.size b lb rfl hb6 x rfl (by omega) (by omega) ?_; intro v1 w8 ho8 hb8 hg8 hl8)
      have ha8 : OwnInts w8 w4.heap.size a2 _ := ((OI.of ha6).chg (Chg.of_grown hg8) fun k hk e => by have h1 := (hal4 k hk).1; have h2 := (hbl4 k e).2; omega).1
      go_ret2
      exact ⟨_, _, _, _, rfl, ha8.ints, ho8.ints, hlen, by simp; omega, hdd6.grown hc hg8 fun r hr => by have := (hbl r hr).1; omega⟩
set_option maxRecDepth 100000 in
theorem DrawBothOf_any (v : Value) (n : Nat) (w : World) (hb : Bytes w v n) (hn : n ≤ 4096) :
    Calls Try.prog 51 #[v] w fun e w' => ∃ a b la lb, e = .returned (.tuple #[a, b]) ∧ Ints w' a la ∧ Ints w' b lb ∧ la.length ≤ 300 ∧ lb.length ≤ 300 ∧ Below w.heap.size w w' := by
  obtain ⟨BA, bc, rfl, hbl, hbm⟩ := hb.form
  go_enter Try.func51, Try.ntmps51
  go_wp2_with fail
  refine (l1New_any _ n _ hb hn).mono ?_
  rintro e w1 ⟨C, rfl, hc, hC, hb1⟩
  go_wp2_with fail
  refine (l2DrawTwo_any C _ n _ hc).mono ?_
  rintro e w2 ⟨a, b, la, lb, rfl, ha, hbb, h1, h2, hd⟩
  go_wp2
  go_ret2
  exact ⟨_, _, la, lb, rfl, ha, hbb, h1, h2, Below.drawn hb1 hC hd.2⟩

theorem isSet_of {l : List Int} {n : Int} (h : l.Pairwise (· < ·)) (hr : ∀ x ∈ l, 0 ≤ x ∧ x < n) : IsSet l n := fun k hk => by
  have h1 := hr (ix l k) (mem_ix.2 ⟨k, hk, rfl⟩)
  refine ⟨h1.1, h1.2, fun h0 => ?_⟩
  rw [ix_lt hk, ix_lt (by omega)]
  exact List.pairwise_iff_getElem.1 h (k - 1) k (by omega) hk (by omega)
theorem IsSet.pw {s : List Int} {n : Int} (h : IsSet s n) : s.Pairwise (· < ·) := by
  rw [List.pairwise_iff_getElem]
  have key : ∀ j i, i < j → j < s.length → ix s i < ix s j := by
    intro j
    induction j with
    | zero => intro i hi; omega
    | succ j ih =>
      intro i hi hj
      have h1 := (h (j + 1) hj).2.2 (by omega)
      simp only [Nat.add_sub_cancel] at h1
      by_cases e : i = j
      · subst e; exact h1
      · have := ih i (by omega) (by omega); omega
  intro i j hi hj hij
  have := key j i hij hj
  rwa [ix_lt hi, ix_lt hj] at this
theorem IsSet.rng {s : List Int} {n : Int} (h : IsSet s n) : ∀ x ∈ s, 0 ≤ x ∧ x < n := fun x hx => by
  obtain ⟨k, hk, rfl⟩ := mem_ix.1 hx
  exact ⟨(h k hk).1, (h k hk).2.1⟩
theorem IsSet.len256 {s : List Int} (h : IsSet s 256) : s.length ≤ 256 := by
  by_cases h0 : s.length = 0
  · omega
  · have key : ∀ k, k < s.length → (k : Int) ≤ ix s k := by
      intro k
      induction k with
      | zero => intro hk; have := (h 0 hk).1; omega
      | succ k ih =>
        intro hk
        have h1 := ih (by omega)
        have h2 := (h (k + 1) hk).2.2 (by omega)
        simp only [Nat.add_sub_cancel] at h2
        omega
    have h1 := key (s.length - 1) (by omega)
    have h2 := (h (s.length - 1) (by omega)).2.1
    omega
section
variable {a b : List Int}
theorem BothOf_spec (ha : IsSet a 256) (hb : IsSet b 256) : (BothOf a b).Pairwise (· < ·) ∧ ∀ x, x ∈ BothOf a b ↔ x ∈ a ∨ x ∈ b := by
  have hk : bothOkB a b = true := bothOkB_iff.2 ⟨isSetB_iff.2 ha, isSetB_iff.2 hb⟩
  unfold BothOf
  rw [if_pos hk, bothL_eq (rising_of ha.pw) (rising_of hb.pw)]
  obtain ⟨h1, h2⟩ := intoAll_spec (l := a) (xs := b) ha.pw
  exact ⟨h1, fun x => by rw [h2]; exact or_comm⟩
theorem BothOf_set (ha : IsSet a 256) (hb : IsSet b 256) : IsSet (BothOf a b) 256 :=
  isSet_of (BothOf_spec ha hb).1 fun x hx => by
    rcases ((BothOf_spec ha hb).2 x).1 hx with h | h
    · exact ha.rng x h
    · exact hb.rng x h
theorem meet_set (ha : IsSet a 256) : IsSet (meetL a b) 256 := isSet_of (ha.pw.filter _) fun x hx => ha.rng x (List.mem_filter.1 hx).1
theorem less_set (ha : IsSet a 256) : IsSet (lessL a b) 256 := isSet_of (ha.pw.filter _) fun x hx => ha.rng x (List.mem_filter.1 hx).1
theorem mem_meetL {x : Int} : x ∈ meetL a b ↔ x ∈ a ∧ x ∈ b := by unfold meetL; rw [List.mem_filter, hasB_iff]
theorem mem_lessL {x : Int} : x ∈ lessL a b ↔ x ∈ a ∧ x ∉ b := by
  unfold lessL
  rw [List.mem_filter]
  simp [hasB]
theorem hasInB_set {s : List Int} (h : IsSet s 256) (x : Int) : hasInB s x = hasB s x := by unfold hasInB; rw [isSetB_iff.2 h]; rfl
theorem has_both (ha : IsSet a 256) (hb : IsSet b 256) (x : Int) : hasInB (BothOf a b) x = (hasInB a x || hasInB b x) := by
  rw [hasInB_set (BothOf_set ha hb), hasInB_set ha, hasInB_set hb, Bool.eq_iff_iff, Bool.or_eq_true, hasB_iff, hasB_iff, hasB_iff]
  exact (BothOf_spec ha hb).2 x
theorem has_meet (ha : IsSet a 256) (hb : IsSet b 256) (x : Int) : hasInB (meetL a b) x = (hasInB a x && hasInB b x) := by
  rw [hasInB_set (meet_set ha), hasInB_set ha, hasInB_set hb, Bool.eq_iff_iff, Bool.and_eq_true, hasB_iff, hasB_iff, hasB_iff]
  exact mem_meetL
theorem both_meet_less (ha : IsSet a 256) : BothOf (meetL a b) (lessL a b) = a := by
  obtain ⟨h1, h2⟩ := BothOf_spec (meet_set (b := b) ha) (less_set (b := b) ha)
  refine lt_ext h1 ha.pw fun x => ?_
  rw [h2, mem_meetL, mem_lessL]
  by_cases h : x ∈ b <;> simp [h]
theorem both_less (ha : IsSet a 256) (hb : IsSet b 256) : BothOf (lessL a b) b = BothOf a b := by
  obtain ⟨h1, h2⟩ := BothOf_spec (less_set (b := b) ha) hb
  obtain ⟨h3, h4⟩ := BothOf_spec ha hb
  refine lt_ext h1 h3 fun x => ?_
  rw [h2, h4, mem_lessL]
  by_cases h : x ∈ b <;> simp [h]
theorem part_of (ha : IsSet a 256) (hb : IsSet b 256) (h : ∀ x ∈ a, x ∈ b) : partInB a b = true := by
  unfold partInB
  rw [bothOkB_iff.2 ⟨isSetB_iff.2 ha, isSetB_iff.2 hb⟩, Bool.true_and, decide_eq_true_iff, List.eq_nil_iff_forall_not_mem]
  intro x hx
  obtain ⟨h1, h2⟩ := mem_lessL.1 hx
  exact h2 (h x h1)
end

set_option maxRecDepth 100000 in
set_option maxHeartbeats 8000000 in
theorem FnSets_true (v0 : Value) (l0 : Nat) (w : World) (hl0 : Bytes w v0 l0) :
    Calls Try.prog 11 #[v0] w fun e w' => e = .returned (.bool true) ∧ Below w.heap.size w w' := by
  have Hbig := Lib.hid (big_any v0 l0 w hl0)
  obtain ⟨BA, bc, rfl, hbl, hbm⟩ := hl0.form
  by_cases hn : l0 ≤ 4096
  · have hd : decide (4096 < l0) = false := by simp; omega
    rw [hd] at Hbig
    clear hd
    go_enter Try.func11, Try.ntmps11
    go_wp2_with fail
    refine Hbig.out.mono ?_
    rintro e w0 ⟨rfl, hw0⟩
    subst w0
    go_wp2_with fail
    refine (DrawBothOf_any _ l0 _ hl0 hn).mono ?_
    rintro e w1 ⟨a, b, la, lb, rfl, ha, hb, hla, hlb, hb1⟩
    obtain ⟨A1, c1, rfl, _⟩ := ha.form
    obtain ⟨A2, c2, rfl, _⟩ := hb.form
    clear Hbig
    cases hk : bothOkB la lb
    · have Hc1 := Lib.hid (fun W (h1 : Ints W (.slice A1 la.length c1) la) (h2 : Ints W (.slice A2 lb.length c2) lb) => (show Calls Try.prog 52 #[.slice A1 la.length c1, .slice A2 lb.length c2] W (RetInts W []) from by
        have h := implBothOf_any _ la _ lb W h1 h2
        rw [show BothOf la lb = [] by unfold BothOf; rw [hk]; rfl] at h
        exact h))
      have Hc2 := Lib.hid (fun W (h1 : Ints W (.slice A1 la.length c1) la) (h2 : Ints W (.slice A2 lb.length c2) lb) => (show Calls Try.prog 53 #[.slice A1 la.length c1, .slice A2 lb.length c2] W (RetInts W []) from by
        have h := implMeetOf_any _ _ la lb W h1 h2 (by omega)
        rw [show MeetOf la lb = [] by unfold MeetOf; rw [hk]; rfl] at h
        exact h))
      have Hc3 := Lib.hid (fun W (h1 : Ints W (.slice A1 la.length c1) la) (h2 : Ints W (.slice A2 lb.length c2) lb) => (show Calls Try.prog 54 #[.slice A1 la.length c1, .slice A2 lb.length c2] W (RetInts W []) from by
        have h := implLessOf_any _ _ la lb W h1 h2 (by omega) (by omega)
        rw [show LessOf la lb = [] by unfold LessOf; rw [hk]; rfl] at h
        exact h))
      have Hc4 := Lib.hid (fun W (h1 : Ints W (.slice A1 la.length c1) la) (h2 : Ints W (.slice A2 lb.length c2) lb) => (show Calls Try.prog 56 #[.slice A1 la.length c1, .slice A2 lb.length c2] W fun e w' => e = .returned (.bool false) ∧ Below W.heap.size W w' from by
        have h := PartIn_any _ _ la lb W h1 h2 (by omega) (by omega)
        rw [show partInB la lb = false by unfold partInB; rw [hk]; rfl] at h
        exact h))
      have Hq1 := Lib.hid (fun W (h : Ints W (.slice A1 la.length c1) la) => (show Calls Try.prog 55 #[.slice A1 la.length c1, .int .i64 256] W fun e w' => e = .returned (.bool (isSetB la 256)) ∧ Below W.heap.size W w' from by
        have h := drew_below (specSetOk_any _ la 256 W h)
        rw [setOk256] at h
        exact h))
      have Hq2 := Lib.hid (fun W (h : Ints W (.slice A2 lb.length c2) lb) => (show Calls Try.prog 55 #[.slice A2 lb.length c2, .int .i64 256] W fun e w' => e = .returned (.bool (isSetB lb 256)) ∧ Below W.heap.size W w' from by
        have h := drew_below (specSetOk_any _ lb 256 W h)
        rw [setOk256] at h
        exact h))
      go_wp2_with fail
      refine (Hc1.out _ ha hb).mono ?_
      rintro e w2 ⟨u2, rfl, hu2, hb2⟩
      obtain ⟨D2, e2, ef, _⟩ := hu2.ints.form
      rw [List.length_nil] at ef
      subst ef
      replace ha := ha.kept (Kept.of hb2)
      replace hb := hb.kept (Kept.of hb2)
      replace hb1 := Below.up hb1 hb2
      clear hu2 hb2
      go_wp2_with fail
      refine (Hc2.out _ ha hb).mono ?_
      rintro e w3 ⟨u3, rfl, hu3, hb3⟩
      obtain ⟨D3, e3, ef, _⟩ := hu3.ints.form
      rw [List.length_nil] at ef
      subst ef
      replace ha := ha.kept (Kept.of hb3)
      replace hb := hb.kept (Kept.of hb3)
      replace hb1 := Below.up hb1 hb3
      clear hu3 hb3
      go_wp2_with fail
      refine (Hc3.out _ ha hb).mono ?_
      rintro e w4 ⟨u4, rfl, hu4, hb4⟩
      obtain ⟨D4, e4, ef, _⟩ := hu4.ints.form
      rw [List.length_nil] at ef
      subst ef
      replace ha := ha.kept (Kept.of hb4)
      replace hb := hb.kept (Kept.of hb4)
      replace hb1 := Below.up hb1 hb4
      clear hu4 hb4
      cases h1 : isSetB la 256
      · rw [h1] at Hq1
        clear h1 hk
        go_wp2_with fail
        refine (Hq1.out _ ha).mono ?_
        rintro e w5 ⟨rfl, hbx⟩
        replace ha := ha.kept (Kept.of hbx)
        replace hb := hb.kept (Kept.of hbx)
        replace hb1 := Below.up hb1 hbx
        go_wp2_with fail
        refine (Hc4.out _ ha hb).mono ?_
        rintro e w6 ⟨rfl, hby⟩
        replace hb1 := Below.up hb1 hby
        go_wp2
        go_ret
        exact ⟨rfl, hb1⟩
      · have h2 : isSetB lb 256 = false := by unfold bothOkB at hk; rw [h1] at hk; simpa using hk
        rw [h1] at Hq1
        rw [h2] at Hq2
        clear h1 h2 hk
        go_wp2_with fail
        refine (Hq1.out _ ha).mono ?_
        rintro e w5 ⟨rfl, hbx⟩
        replace ha := ha.kept (Kept.of hbx)
        replace hb := hb.kept (Kept.of hbx)
        replace hb1 := Below.up hb1 hbx
        go_wp2_with fail
        refine (Hq2.out _ hb).mono ?_
        rintro e w7 ⟨rfl, hbz⟩
        replace ha := ha.kept (Kept.of hbz)
        replace hb := hb.kept (Kept.of hbz)
        replace hb1 := Below.up hb1 hbz
        go_wp2_with fail
        refine (Hc4.out _ ha hb).mono ?_
        rintro e w6 ⟨rfl, hby⟩
        replace hb1 := Below.up hb1 hby
        go_wp2
        go_ret
        exact ⟨rfl, hb1⟩
    · obtain ⟨q1, q2⟩ := bothOkB_iff.1 hk
      have Hs1 := Lib.hid (isSetB_iff.1 q1)
      have Hs2 := Lib.hid (isSetB_iff.1 q2)
      have Hm := Lib.hid (show MeetOf la lb = meetL la lb from if_pos hk)
      have Hl := Lib.hid (show LessOf la lb = lessL la lb from if_pos hk)
      have hl1 := Hs1.out.len256
      have hl2 := Hs2.out.len256
      have hl3 := (BothOf_set Hs1.out Hs2.out).len256
      have hl4 := (meet_set (b := lb) Hs1.out).len256
      have hl5 := (less_set (b := lb) Hs1.out).len256
      have Hq1 := Lib.hid (fun W (h : Ints W (.slice A1 la.length c1) la) => (show Calls Try.prog 55 #[.slice A1 la.length c1, .int .i64 256] W fun e w' => e = .returned (.bool true) ∧ Below W.heap.size W w' from by
        have h := drew_below (specSetOk_any _ la 256 W h)
        rw [setOk256, q1] at h
        exact h))
      have Hq2 := Lib.hid (fun W (h : Ints W (.slice A2 lb.length c2) lb) => (show Calls Try.prog 55 #[.slice A2 lb.length c2, .int .i64 256] W fun e w' => e = .returned (.bool true) ∧ Below W.heap.size W w' from by
        have h := drew_below (specSetOk_any _ lb 256 W h)
        rw [setOk256, q2] at h
        exact h))
      clear hk q1 q2
      go_wp2_with fail
      refine (implBothOf_any _ la _ lb _ ha hb).mono ?_
      rintro e w2 ⟨u2, rfl, hu2, hb2⟩
      have hu2i := hu2.ints
      obtain ⟨A3, c3, rfl, _⟩ := hu2i.form
      replace ha := ha.kept (Kept.of hb2)
      replace hb := hb.kept (Kept.of hb2)
      replace hb1 := Below.up hb1 hb2
      clear hu2 hb2
      go_wp2_with fail
      refine (implMeetOf_any _ _ la lb _ ha hb (by omega)).mono ?_
      rintro e w3 ⟨u3, rfl, hu3, hb3⟩
      rw [Hm.out] at hu3
      have hu3i := hu3.ints
      obtain ⟨A4, c4, rfl, _⟩ := hu3i.form
      replace ha := ha.kept (Kept.of hb3)
      replace hb := hb.kept (Kept.of hb3)
      replace hu2i := hu2i.kept (Kept.of hb3)
      replace hb1 := Below.up hb1 hb3
      clear hu3 hb3
      go_wp2_with fail
      refine (implLessOf_any _ _ la lb _ ha hb (by omega) (by omega)).mono ?_
      rintro e w4 ⟨u4, rfl, hu4, hb4⟩
      rw [Hl.out] at hu4
      have hu4i := hu4.ints
      obtain ⟨A5, c5, rfl, _⟩ := hu4i.form
      replace ha := ha.kept (Kept.of hb4)
      replace hb := hb.kept (Kept.of hb4)
      replace hu2i := hu2i.kept (Kept.of hb4)
      replace hu3i := hu3i.kept (Kept.of hb4)
      replace hb1 := Below.up hb1 hb4
      clear hu4 hb4
      have hbr := Below.refl w4.heap.size w4
      go_wp2_with fail
      refine (Hq1.out _ (ha.kept (Kept.of hbr))).mono ?_
      rintro e w5 ⟨rfl, hbx⟩
      replace hbr := Below.up hbr hbx
      clear hbx
      go_wp2_with fail
      refine (Hq2.out _ (hb.kept (Kept.of hbr))).mono ?_
      rintro e w6 ⟨rfl, hbx⟩
      replace hbr := Below.up hbr hbx
      clear hbx Hq1 Hq2
      go_wp2_with fail
      go_loopw [8] (fun i wr => ∃ k : Nat, k ≤ 12 ∧ i = .int .i64 k ∧ Below w4.heap.size w4 wr) (fun i _ => 12 - (intOf i).toNat)
      case atStart => exact ⟨0, by omega, rfl, hbr⟩
      case round =>
        clear hbr
        obtain ⟨k, hk, rfl, hbr⟩ := hrel
        by_cases hlt : k < 12
        · have hlt2 : (k : Int) < 12 := by omega
          cases e1 : hasInB la (k : Int)
          · cases e2 : hasInB lb (k : Int)
            · have Hboth := Lib.hid (fun W (hW : Below w4.heap.size w4 W) => (show Calls Try.prog 57 #[.slice A3 (BothOf la lb).length c3, .int .i64 (k : Int)] W fun e w' => e = .returned (.bool false) ∧ Below W.heap.size W w' from by
                have h := same_below (HasIn_any _ (BothOf la lb) (k : Int) W (hu2i.kept (Kept.of hW)))
                rw [has_both Hs1.out Hs2.out, e1, e2] at h
                exact h))
              have Hmeet := Lib.hid (fun W (hW : Below w4.heap.size w4 W) => (show Calls Try.prog 57 #[.slice A4 (meetL la lb).length c4, .int .i64 (k : Int)] W fun e w' => e = .returned (.bool false) ∧ Below W.heap.size W w' from by
                have h := same_below (HasIn_any _ (meetL la lb) (k : Int) W (hu3i.kept (Kept.of hW)))
                rw [has_meet Hs1.out Hs2.out, e1, e2] at h
                exact h))
              have Ha := Lib.hid (fun W (hW : Below w4.heap.size w4 W) => (show Calls Try.prog 58 #[.slice A1 la.length c1, .int .i64 (k : Int)] W fun e w' => e = .returned (.bool false) ∧ Below W.heap.size W w' from by
                have h := drew_below (specHasIn_any _ la (k : Int) W (ha.kept (Kept.of hW)))
                rw [e1] at h
                exact h))
              have Hb := Lib.hid (fun W (hW : Below w4.heap.size w4 W) => (show Calls Try.prog 58 #[.slice A2 lb.length c2, .int .i64 (k : Int)] W fun e w' => e = .returned (.bool false) ∧ Below W.heap.size W w' from by
                have h := drew_below (specHasIn_any _ lb (k : Int) W (hb.kept (Kept.of hW)))
                rw [e2] at h
                exact h))
              clear e1 e2
              go_wp2_with fail
              refine (Hboth.out _ hbr).mono ?_
              rintro e w20 ⟨rfl, hbx⟩
              replace hbr := Below.up hbr hbx
              clear hbx
              go_wp2_with fail
              refine (Ha.out _ hbr).mono ?_
              rintro e w21 ⟨rfl, hbx⟩
              replace hbr := Below.up hbr hbx
              clear hbx
              go_wp2_with fail
              refine (Hb.out _ hbr).mono ?_
              rintro e w22 ⟨rfl, hbx⟩
              replace hbr := Below.up hbr hbx
              clear hbx
              go_wp2_with fail
              refine (Hmeet.out _ hbr).mono ?_
              rintro e w23 ⟨rfl, hbx⟩
              replace hbr := Below.up hbr hbx
              clear hbx
              go_wp2_with fail
              refine (Ha.out _ hbr).mono ?_
              rintro e w24 ⟨rfl, hbx⟩
              replace hbr := Below.up hbr hbx
              clear hbx
              go_wp2
              exact ⟨⟨k + 1, by omega, by go_num, hbr⟩, by simp [intOf]; omega⟩
            · have Hboth := Lib.hid (fun W (hW : Below w4.heap.size w4 W) => (show Calls Try.prog 57 #[.slice A3 (BothOf la lb).length c3, .int .i64 (k : Int)] W fun e w' => e = .returned (.bool true) ∧ Below W.heap.size W w' from by
                have h := same_below (HasIn_any _ (BothOf la lb) (k : Int) W (hu2i.kept (Kept.of hW)))
                rw [has_both Hs1.out Hs2.out, e1, e2] at h
                exact h))
              have Hmeet := Lib.hid (fun W (hW : Below w4.heap.size w4 W) => (show Calls Try.prog 57 #[.slice A4 (meetL la lb).length c4, .int .i64 (k : Int)] W fun e w' => e = .returned (.bool false) ∧ Below W.heap.size W w' from by
                have h := same_below (HasIn_any _ (meetL la lb) (k : Int) W (hu3i.kept (Kept.of hW)))
                rw [has_meet Hs1.out Hs2.out, e1, e2] at h
                exact h))
              have Ha := Lib.hid (fun W (hW : Below w4.heap.size w4 W) => (show Calls Try.prog 58 #[.slice A1 la.length c1, .int .i64 (k : Int)] W fun e w' => e = .returned (.bool false) ∧ Below W.heap.size W w' from by
                have h := drew_below (specHasIn_any _ la (k : Int) W (ha.kept (Kept.of hW)))
                rw [e1] at h
                exact h))
              have Hb := Lib.hid (fun W (hW : Below w4.heap.size w4 W) => (show Calls Try.prog 58 #[.slice A2 lb.length c2, .int .i64 (k : Int)] W fun e w' => e = .returned (.bool true) ∧ Below W.heap.size W w' from by
                have h := drew_below (specHasIn_any _ lb (k : Int) W (hb.kept (Kept.of hW)))
                rw [e2] at h
                exact h))
              clear e1 e2
              go_wp2_with fail
              refine (Hboth.out _ hbr).mono ?_
              rintro e w20 ⟨rfl, hbx⟩
              replace hbr := Below.up hbr hbx
              clear hbx
              go_wp2_with fail
              refine (Ha.out _ hbr).mono ?_
              rintro e w21 ⟨rfl, hbx⟩
              replace hbr := Below.up hbr hbx
              clear hbx
              go_wp2_with fail
              refine (Hb.out _ hbr).mono ?_
              rintro e w22 ⟨rfl, hbx⟩
              replace hbr := Below.up hbr hbx
              clear hbx
              go_wp2_with fail
              refine (Hmeet.out _ hbr).mono ?_
              rintro e w23 ⟨rfl, hbx⟩
              replace hbr := Below.up hbr hbx
              clear hbx
              go_wp2_with fail
              refine (Ha.out _ hbr).mono ?_
              rintro e w24 ⟨rfl, hbx⟩
              replace hbr := Below.up hbr hbx
              clear hbx
              go_wp2
              exact ⟨⟨k + 1, by omega, by go_num, hbr⟩, by simp [intOf]; omega⟩
          · cases e2 : hasInB lb (k : Int)
            · have Hboth := Lib.hid (fun W (hW : Below w4.heap.size w4 W) => (show Calls Try.prog 57 #[.slice A3 (BothOf la lb).length c3, .int .i64 (k : Int)] W fun e w' => e = .returned (.bool true) ∧ Below W.heap.size W w' from by
                have h := same_below (HasIn_any _ (BothOf la lb) (k : Int) W (hu2i.kept (Kept.of hW)))
                rw [has_both Hs1.out Hs2.out, e1, e2] at h
                exact h))
              have Hmeet := Lib.hid (fun W (hW : Below w4.heap.size w4 W) => (show Calls Try.prog 57 #[.slice A4 (meetL la lb).length c4, .int .i64 (k : Int)] W fun e w' => e = .returned (.bool false) ∧ Below W.heap.size W w' from by
                have h := same_below (HasIn_any _ (meetL la lb) (k : Int) W (hu3i.kept (Kept.of hW)))
                rw [has_meet Hs1.out Hs2.out, e1, e2] at h
                exact h))
              have Ha := Lib.hid (fun W (hW : Below w4.heap.size w4 W) => (show Calls Try.prog 58 #[.slice A1 la.length c1, .int .i64 (k : Int)] W fun e w' => e = .returned (.bool true) ∧ Below W.heap.size W w' from by
                have h := drew_below (specHasIn_any _ la (k : Int) W (ha.kept (Kept.of hW)))
                rw [e1] at h
                exact h))
              have Hb := Lib.hid (fun W (hW : Below w4.heap.size w4 W) => (show Calls Try.prog 58 #[.slice A2 lb.length c2, .int .i64 (k : Int)] W fun e w' => e = .returned (.bool false) ∧ Below W.heap.size W w' from by
                have h := drew_below (specHasIn_any _ lb (k : Int) W (hb.kept (Kept.of hW)))
                rw [e2] at h
                exact h))
              clear e1 e2
              go_wp2_with fail
              refine (Hboth.out _ hbr).mono ?_
              rintro e w20 ⟨rfl, hbx⟩
              replace hbr := Below.up hbr hbx
              clear hbx
              go_wp2_with fail
              refine (Ha.out _ hbr).mono ?_
              rintro e w21 ⟨rfl, hbx⟩
              replace hbr := Below.up hbr hbx
              clear hbx
              go_wp2_with fail
              refine (Hmeet.out _ hbr).mono ?_
              rintro e w22 ⟨rfl, hbx⟩
              replace hbr := Below.up hbr hbx
              clear hbx
              go_wp2_with fail
              refine (Ha.out _ hbr).mono ?_
              rintro e w23 ⟨rfl, hbx⟩
              replace hbr := Below.up hbr hbx
              clear hbx
              go_wp2_with fail
              refine (Hb.out _ hbr).mono ?_
              rintro e w24 ⟨rfl, hbx⟩
              replace hbr := Below.up hbr hbx
              clear hbx
              go_wp2
              exact ⟨⟨k + 1, by omega, by go_num, hbr⟩, by simp [intOf]; omega⟩
            · have Hboth := Lib.hid (fun W (hW : Below w4.heap.size w4 W) => (show Calls Try.prog 57 #[.slice A3 (BothOf la lb).length c3, .int .i64 (k : Int)] W fun e w' => e = .returned (.bool true) ∧ Below W.heap.size W w' from by
                have h := same_below (HasIn_any _ (BothOf la lb) (k : Int) W (hu2i.kept (Kept.of hW)))
                rw [has_both Hs1.out Hs2.out, e1, e2] at h
                exact h))
              have Hmeet := Lib.hid (fun W (hW : Below w4.heap.size w4 W) => (show Calls Try.prog 57 #[.slice A4 (meetL la lb).length c4, .int .i64 (k : Int)] W fun e w' => e = .returned (.bool true) ∧ Below W.heap.size W w' from by
                have h := same_below (HasIn_any _ (meetL la lb) (k : Int) W (hu3i.kept (Kept.of hW)))
                rw [has_meet Hs1.out Hs2.out, e1, e2] at h
                exact h))
              have Ha := Lib.hid (fun W (hW : Below w4.heap.size w4 W) => (show Calls Try.prog 58 #[.slice A1 la.length c1, .int .i64 (k : Int)] W fun e w' => e = .returned (.bool true) ∧ Below W.heap.size W w' from by
                have h := drew_below (specHasIn_any _ la (k : Int) W (ha.kept (Kept.of hW)))
                rw [e1] at h
                exact h))
              have Hb := Lib.hid (fun W (hW : Below w4.heap.size w4 W) => (show Calls Try.prog 58 #[.slice A2 lb.length c2, .int .i64 (k : Int)] W fun e w' => e = .returned (.bool true) ∧ Below W.heap.size W w' from by
                have h := drew_below (specHasIn_any _ lb (k : Int) W (hb.kept (Kept.of hW)))
                rw [e2] at h
                exact h))
              clear e1 e2
              go_wp2_with fail
              refine (Hboth.out _ hbr).mono ?_
              rintro e w20 ⟨rfl, hbx⟩
              replace hbr := Below.up hbr hbx
              clear hbx
              go_wp2_with fail
              refine (Ha.out _ hbr).mono ?_
              rintro e w21 ⟨rfl, hbx⟩
              replace hbr := Below.up hbr hbx
              clear hbx
              go_wp2_with fail
              refine (Hmeet.out _ hbr).mono ?_
              rintro e w22 ⟨rfl, hbx⟩
              replace hbr := Below.up hbr hbx
              clear hbx
              go_wp2_with fail
              refine (Ha.out _ hbr).mono ?_
              rintro e w23 ⟨rfl, hbx⟩
              replace hbr := Below.up hbr hbx
              clear hbx
              go_wp2_with fail
              refine (Hb.out _ hbr).mono ?_
              rintro e w24 ⟨rfl, hbx⟩
              replace hbr := Below.up hbr hbx
              clear hbx
              go_wp2
              exact ⟨⟨k + 1, by omega, by go_num, hbr⟩, by simp [intOf]; omega⟩
        · obtain rfl : k = 12 := by omega
          have H1 := Lib.hid (fun W (hW : Below w4.heap.size w4 W) => (show Calls Try.prog 52 #[.slice A4 (meetL la lb).length c4, .slice A5 (lessL la lb).length c5] W (RetInts W la) from by
            have h := implBothOf_any _ (meetL la lb) _ (lessL la lb) W (hu3i.kept (Kept.of hW)) (hu4i.kept (Kept.of hW))
            rw [both_meet_less Hs1.out] at h
            exact h))
          have H2 := Lib.hid (fun W (hW : Below w4.heap.size w4 W) => (show Calls Try.prog 52 #[.slice A5 (lessL la lb).length c5, .slice A2 lb.length c2] W (RetInts W (BothOf la lb)) from by
            have h := implBothOf_any _ (lessL la lb) _ lb W (hu4i.kept (Kept.of hW)) (hb.kept (Kept.of hW))
            rw [both_less Hs1.out Hs2.out] at h
            exact h))
          have H3 := Lib.hid (fun W (hW : Below w4.heap.size w4 W) => (show Calls Try.prog 56 #[.slice A4 (meetL la lb).length c4, .slice A1 la.length c1] W fun e w' => e = .returned (.bool true) ∧ Below W.heap.size W w' from by
            have h := PartIn_any _ _ (meetL la lb) la W (hu3i.kept (Kept.of hW)) (ha.kept (Kept.of hW)) (by omega) (by omega)
            rw [part_of (meet_set Hs1.out) Hs1.out fun x hx => (mem_meetL.1 hx).1] at h
            exact h))
          have H4 := Lib.hid (fun W (hW : Below w4.heap.size w4 W) => (show Calls Try.prog 56 #[.slice A1 la.length c1, .slice A3 (BothOf la lb).length c3] W fun e w' => e = .returned (.bool true) ∧ Below W.heap.size W w' from by
            have h := PartIn_any _ _ la (BothOf la lb) W (ha.kept (Kept.of hW)) (hu2i.kept (Kept.of hW)) (by omega) (by omega)
            rw [part_of Hs1.out (BothOf_set Hs1.out Hs2.out) fun x hx => ((BothOf_spec Hs1.out Hs2.out).2 x).2 (.inl hx)] at h
            exact h))
          have H5 := Lib.hid (fun W (hW : Below w4.heap.size w4 W) => (show Calls Try.prog 56 #[.slice A1 la.length c1, .slice A2 lb.length c2] W fun e w' => e = .returned (.bool (decide (lessL la lb = []))) ∧ Below W.heap.size W w' from by
            have h := PartIn_any _ _ la lb W (ha.kept (Kept.of hW)) (hb.kept (Kept.of hW)) (by omega) (by omega)
            rw [show partInB la lb = decide (lessL la lb = []) by unfold partInB; rw [bothOkB_iff.2 ⟨isSetB_iff.2 Hs1.out, isSetB_iff.2 Hs2.out⟩]; rfl] at h
            exact h))
          have H6 := Lib.hid (fun W => (show Calls Try.prog 60 #[.int .i64 (la.length : Int)] W (RetInts W (upFrom 0 la.length)) from by
            have h := implAllOf_any (la.length : Int) W
            rw [allL_nat (by omega)] at h
            exact h))
          have Hd : Hid (decide (lessL la lb = []) = ((((lessL la lb).length : Nat) : Int) == 0)) := Lib.hid (by
            rw [Bool.eq_iff_iff, decide_eq_true_iff, beq_iff_eq]
            constructor
            · intro h; rw [h]; rfl
            · intro h; exact List.eq_nil_of_length_eq_zero (by omega))
          go_wp2_with fail
          refine (H1.out _ hbr).mono ?_
          rintro e w10 ⟨z1, rfl, hz1, hbx⟩
          replace hbr := Below.up hbr hbx
          obtain ⟨Z1, d1, rfl, _⟩ := hz1.ints.form
          go_wp2_with fail
          refine (drew_below (likeInts_any _ _ la la _ hz1.ints (ha.kept (Kept.of hbr)))).mono ?_
          rintro e w11 ⟨rfl, hby⟩
          rw [decide_eq_true rfl]
          replace hbr := Below.up hbr hby
          clear hz1 hbx hby
          go_wp2_with fail
          refine (H2.out _ hbr).mono ?_
          rintro e w12 ⟨z2, rfl, hz2, hbx⟩
          replace hbr := Below.up hbr hbx
          obtain ⟨Z2, d2, rfl, _⟩ := hz2.ints.form
          go_wp2_with fail
          refine (drew_below (likeInts_any _ _ (BothOf la lb) (BothOf la lb) _ hz2.ints (hu2i.kept (Kept.of hbr)))).mono ?_
          rintro e w13 ⟨rfl, hby⟩
          rw [decide_eq_true rfl]
          replace hbr := Below.up hbr hby
          clear hz2 hbx hby
          go_wp2_with fail
          refine (H3.out _ hbr).mono ?_
          rintro e w14 ⟨rfl, hbx⟩
          replace hbr := Below.up hbr hbx
          clear hbx
          go_wp2_with fail
          refine (H4.out _ hbr).mono ?_
          rintro e w15 ⟨rfl, hbx⟩
          replace hbr := Below.up hbr hbx
          clear hbx
          go_wp2_with fail
          refine (H5.out _ hbr).mono ?_
          rintro e w16 ⟨rfl, hbx⟩
          rw [Hd.out]
          replace hbr := Below.up hbr hbx
          clear hbx
          go_wp2_with fail
          refine (H6.out _).mono ?_
          rintro e w17 ⟨z3, rfl, hz3, hbx⟩
          obtain ⟨Z3, d3, ef, _⟩ := hz3.ints.form
          rw [length_upFrom] at ef
          subst ef
          replace hbr := Below.up hbr hbx
          go_wp2
          go_ret
          exact ⟨rfl, hb1.trans (hbr.mono hb1.size)⟩
  · have hd : decide (4096 < l0) = true := by simp; omega
    rw [hd] at Hbig
    clear hd
    go_enter Try.func11, Try.ntmps11
    go_wp2_with fail
    refine Hbig.out.mono ?_
    rintro e w0 ⟨rfl, hw0⟩
    subst w0
    go_wp2
    go_ret
    exact ⟨rfl, Below.refl _ _⟩
end Go.Proofs.Ytpnophmanpfejaa
