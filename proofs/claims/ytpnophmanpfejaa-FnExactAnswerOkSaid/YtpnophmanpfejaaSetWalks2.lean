/- The walks of the functions that make sets: AllOf, MeetOf, LessOf, and of those that call them. Printed by gen_sets.py. -/
import Derived.Test.YtpnophmanpfejaaSetWalks
import Derived.Deep.DeepMust
namespace Go.Proofs.Ytpnophmanpfejaa
set_option linter.unusedSimpArgs false
set_option linter.unusedVariables false
open Go.RowKit

/-- A function that makes a row of int64s, and writes nothing that was there. -/
def RetInts (w : World) (l : List Int) (e : Ending) (w' : World) : Prop := ∃ u, e = .returned u ∧ OwnInts w' w.heap.size u l ∧ Below w.heap.size w w'
theorem RetInts.mk' {w w' : World} {l : List Int} {u : Value} (h1 : OwnInts w' w.heap.size u l) (h2 : Below w.heap.size w w') : RetInts w l (.returned u) w' := ⟨u, rfl, h1, h2⟩

theorem new_ints (w : World) : OwnInts (w.alloc (.cells #[] 2)) w.heap.size (.slice (some ⟨w.heap.size, 0, none⟩) 0 0) [] ∧ Below w.heap.size w (w.alloc (.cells #[] 2)) :=
  ⟨OwnInts.empty w _ (Nat.le_refl _), (Below.refl _ _).alloc (Nat.le_refl _) _⟩
theorem new_ints_drewN (w : World) (q : Nat) : OwnInts ((w.alloc (.cells #[] 2)).drewN q) w.heap.size (.slice (some ⟨w.heap.size, 0, none⟩) 0 0) [] ∧ Below w.heap.size w ((w.alloc (.cells #[] 2)).drewN q) :=
  ⟨(new_ints w).1, below_drewN (new_ints w).2 q⟩

set_option maxHeartbeats 400000 in
theorem specAllOf_any (n : Int) (w : World) : Calls Try.prog 126 #[.int .i64 n] w (RetInts w (allL n)) := by
  obtain ⟨ho, hb⟩ := new_ints w
  by_cases h : 0 ≤ n ∧ n ≤ 256
  · obtain ⟨h0, h1⟩ := h
    obtain ⟨m, rfl⟩ := Int.eq_ofNat_of_zero_le h0
    rw [allL_nat (by omega)]
    go_enter Try.func126, Try.ntmps126
    go_wp2
    generalize w.alloc (.cells #[] 2) = w0 at *
    go_loopw [3, 4] (fun v i wr => ∃ k : Nat, k ≤ m ∧ i = .int .i64 k ∧ OwnInts wr w.heap.size v (upFrom 0 k) ∧ Below w.heap.size w wr) (fun _ i _ => m - (intOf i).toNat)
    case atStart => exact ⟨0, Nat.zero_le _, rfl, ho, hb⟩
    case round =>
      obtain ⟨k, hk, rfl, hown, hbw⟩ := hrel
      by_cases hlt : k < m
      · go_wp2_with (at_builtin; refine append_int _ rfl (.tmp 15) (.tmp 17) rfl w.heap.size u3 (upFrom 0 k) rfl hown _ rfl (by simp; omega) hbw.size ?_; intro v1 w1 ho1 hb1 hg1 hl1)
        exact ⟨⟨k + 1, by omega, by go_num, by rw [upFrom_snoc]; simpa using ho1, hbw.trans (hb1.mono (Nat.le_refl _))⟩, by simp [intOf]; omega⟩
      · obtain rfl : k = m := by omega
        go_wp2
        go_ret
        exact .mk' hown hbw
  · rw [allL_out h]
    by_cases h0 : 0 ≤ n
    all_goals
      go_enter Try.func126, Try.ntmps126
      go_wp2
      generalize w.alloc (.cells #[] 2) = w0 at *
      refine wp_loop_rounds 1 ?_
      rw [rounds_succ]
      go_wp2
      go_ret
      exact .mk' ho hb

set_option maxHeartbeats 400000 in
theorem implAllOf_any (n : Int) (w : World) : Calls Try.prog 60 #[.int .i64 n] w (RetInts w (allL n)) := by
  obtain ⟨ho, hb⟩ := new_ints w
  by_cases h : 0 ≤ n ∧ n ≤ 256
  · obtain ⟨h0, h1⟩ := h
    obtain ⟨m, rfl⟩ := Int.eq_ofNat_of_zero_le h0
    rw [allL_nat (by omega)]
    go_enter Try.func60, Try.ntmps60
    go_wp2
    generalize w.alloc (.cells #[] 2) = w0 at *
    go_loopw [3, 4] (fun v i wr => ∃ k : Nat, k ≤ m ∧ i = .int .i64 k ∧ OwnInts wr w.heap.size v (upFrom 0 k) ∧ Below w.heap.size w wr) (fun _ i _ => m - (intOf i).toNat)
    case atStart => exact ⟨0, Nat.zero_le _, rfl, ho, hb⟩
    case round =>
      obtain ⟨k, hk, rfl, hown, hbw⟩ := hrel
      by_cases hlt : k < m
      · go_wp2_with (at_builtin; refine append_int _ rfl (.tmp 17) (.tmp 19) rfl w.heap.size u3 (upFrom 0 k) rfl hown _ rfl (by simp; omega) hbw.size ?_; intro v1 w1 ho1 hb1 hg1 hl1)
        exact ⟨⟨k + 1, by omega, by go_num, by rw [upFrom_snoc]; simpa using ho1, hbw.trans (hb1.mono (Nat.le_refl _))⟩, by simp [intOf]; omega⟩
      · obtain rfl : k = m := by omega
        go_wp2
        go_ret
        exact .mk' hown hbw
  · rw [allL_out h]
    by_cases h0 : 0 ≤ n
    all_goals
      go_enter Try.func60, Try.ntmps60
      go_wp2
      go_ret
      exact .mk' (OwnInts.nil _ _) (Below.refl _ _)

theorem l2Both_any (v u : Value) (a b : List Int) (w : World) (hv : Ints w v a) (hu : Ints w u b) :
    Calls Try.prog 127 #[v, u] w fun e w' => e = .returned (.bool (bothOkB a b)) ∧ ∃ q, w' = w.drewN q := by
  by_cases h : isSetB a 256 = true
  · have h256 : setOkB a 256 = true := by rw [setOk256, h]
    have hb : bothOkB a b = setOkB b 256 := by simp [bothOkB, h, setOk256]
    rw [hb]
    clear hb h
    go_enter Try.func127, Try.ntmps127
    go_wp2_with fail
    refine (specSetOk_any v a 256 _ hv).mono ?_
    rintro e w' ⟨rfl, q, rfl⟩
    go_wp2_with fail
    refine (specSetOk_any u b 256 _ (hu.kept (Kept.drewN _ _))).mono ?_
    rintro e w' ⟨rfl, q2, rfl⟩
    go_wp2
    go_ret
    exact ⟨rfl, q + q2, by simp⟩
  · have h256 : setOkB a 256 = false := by rw [setOk256]; simpa using h
    have hb : bothOkB a b = false := by simp [bothOkB, h]
    rw [hb]
    clear hb h
    go_enter Try.func127, Try.ntmps127
    go_wp2_with fail
    refine (specSetOk_any v a 256 _ hv).mono ?_
    rintro e w' ⟨rfl, q, rfl⟩
    go_wp2
    go_ret
    exact ⟨rfl, q, rfl⟩

def MeetOf (a b : List Int) : List Int := if bothOkB a b = true then meetL a b else []
set_option maxHeartbeats 800000 in
theorem specMeetOf_any (v u : Value) (a b : List Int) (w : World) (hv : Ints w v a) (hu : Ints w u b) (hla : a.length ≤ 1099511627776) : Calls Try.prog 70 #[v, u] w (RetInts w (MeetOf a b)) := by
  obtain ⟨ho, hb⟩ := new_ints w
  have hv0 := hv.kept (Kept.of hb)
  have hu0 := hu.kept (Kept.of hb)
  by_cases h : bothOkB a b = true
  · have he : MeetOf a b = meetL a b := if_pos h
    rw [he]
    clear he
    go_enter Try.func70, Try.ntmps70
    go_wp2_with fail
    refine (l2Both_any v u a b _ hv0 hu0).mono ?_
    rintro e w' ⟨rfl, q, rfl⟩
    obtain ⟨ho, hb⟩ := new_ints_drewN w q
    generalize (w.alloc (.cells #[] 2)).drewN q = w0 at *
    clear hv0 hu0
    have hv1 := hv
    obtain ⟨A, c, rfl, hlc, hcm, hA⟩ := hv
    clear hA
    go_wp2
    go_loopw [5, 6] (fun v i wr => ∃ k : Nat, k ≤ a.length ∧ i = .int .i64 k ∧ OwnInts wr w.heap.size v ((a.take k).filter fun x => hasB b x) ∧ Below w.heap.size w wr) (fun _ i _ => a.length - (intOf i).toNat)
    case atStart => exact ⟨0, Nat.zero_le _, rfl, ho, hb⟩
    case round =>
      obtain ⟨k, hk, rfl, hown, hbw⟩ := hrel
      by_cases hlt : k < a.length
      · obtain ⟨a1, rfl, hc⟩ := (SlF.kept hv1 (Kept.of hbw)).at_ hlt
        have hln : ((a.take k).filter fun x => hasB b x).length ≤ 1099511627776 := Nat.le_trans length_filter_take hla
        have hft := filter_take hlt (fun x => hasB b x)
        have Hft := Lib.hid hft
        clear hft
        by_cases g : hasB b (ix a k) = true
        all_goals
          try rw [Bool.not_eq_true] at g
          go_wp2_with (first | (go_at_call 111; refine (l1Has_any u b (ix a k) _ (hu.kept (Kept.of hbw))).mono ?_; rintro e w' ⟨rfl, hw⟩; subst w') | (at_builtin; refine append_int _ rfl (.tmp 25) (.tmp 30) rfl w.heap.size u5 ((a.take k).filter fun x => hasB b x) rfl hown _ rfl (hln) hbw.size ?_; intro v1 w1 ho1 hb1 hg1 hl1))
          have hft := Hft.out
          simp only [g, Bool.not_true, Bool.not_false, if_true, if_false, Bool.false_eq_true, List.append_nil] at hft
          first
            | exact ⟨⟨k + 1, by omega, by go_num, by rw [hft]; exact ho1, hbw.trans hb1⟩, by simp [intOf]; omega⟩
            | exact ⟨⟨k + 1, by omega, by go_num, by rw [hft]; exact hown, hbw⟩, by simp [intOf]; omega⟩
      · obtain rfl : k = a.length := by omega
        go_wp2
        go_ret
        rw [List.take_length] at hown
        exact .mk' hown hbw
  · have he : MeetOf a b = [] := if_neg h
    rw [he]
    clear he
    rw [Bool.not_eq_true] at h
    go_enter Try.func70, Try.ntmps70
    go_wp2_with fail
    refine (l2Both_any v u a b _ hv0 hu0).mono ?_
    rintro e w' ⟨rfl, q, rfl⟩
    go_wp2
    go_ret
    exact .mk' (new_ints_drewN w q).1 (new_ints_drewN w q).2

def LessOf (a b : List Int) : List Int := if bothOkB a b = true then lessL a b else []
set_option maxHeartbeats 800000 in
theorem specLessOf_any (v u : Value) (a b : List Int) (w : World) (hv : Ints w v a) (hu : Ints w u b) (hla : a.length ≤ 1099511627776) : Calls Try.prog 128 #[v, u] w (RetInts w (LessOf a b)) := by
  obtain ⟨ho, hb⟩ := new_ints w
  have hv0 := hv.kept (Kept.of hb)
  have hu0 := hu.kept (Kept.of hb)
  by_cases h : bothOkB a b = true
  · have he : LessOf a b = lessL a b := if_pos h
    rw [he]
    clear he
    go_enter Try.func128, Try.ntmps128
    go_wp2_with fail
    refine (l2Both_any v u a b _ hv0 hu0).mono ?_
    rintro e w' ⟨rfl, q, rfl⟩
    obtain ⟨ho, hb⟩ := new_ints_drewN w q
    generalize (w.alloc (.cells #[] 2)).drewN q = w0 at *
    clear hv0 hu0
    have hv1 := hv
    obtain ⟨A, c, rfl, hlc, hcm, hA⟩ := hv
    clear hA
    go_wp2
    go_loopw [5, 6] (fun v i wr => ∃ k : Nat, k ≤ a.length ∧ i = .int .i64 k ∧ OwnInts wr w.heap.size v ((a.take k).filter fun x => !hasB b x) ∧ Below w.heap.size w wr) (fun _ i _ => a.length - (intOf i).toNat)
    case atStart => exact ⟨0, Nat.zero_le _, rfl, ho, hb⟩
    case round =>
      obtain ⟨k, hk, rfl, hown, hbw⟩ := hrel
      by_cases hlt : k < a.length
      · obtain ⟨a1, rfl, hc⟩ := (SlF.kept hv1 (Kept.of hbw)).at_ hlt
        have hln : ((a.take k).filter fun x => !hasB b x).length ≤ 1099511627776 := Nat.le_trans length_filter_take hla
        have hft := filter_take hlt (fun x => !hasB b x)
        have Hft := Lib.hid hft
        clear hft
        by_cases g : hasB b (ix a k) = true
        all_goals
          try rw [Bool.not_eq_true] at g
          go_wp2_with (first | (go_at_call 111; refine (l1Has_any u b (ix a k) _ (hu.kept (Kept.of hbw))).mono ?_; rintro e w' ⟨rfl, hw⟩; subst w') | (at_builtin; refine append_int _ rfl (.tmp 26) (.tmp 31) rfl w.heap.size u5 ((a.take k).filter fun x => !hasB b x) rfl hown _ rfl (hln) hbw.size ?_; intro v1 w1 ho1 hb1 hg1 hl1))
          have hft := Hft.out
          simp only [g, Bool.not_true, Bool.not_false, if_true, if_false, Bool.false_eq_true, List.append_nil] at hft
          first
            | exact ⟨⟨k + 1, by omega, by go_num, by rw [hft]; exact ho1, hbw.trans hb1⟩, by simp [intOf]; omega⟩
            | exact ⟨⟨k + 1, by omega, by go_num, by rw [hft]; exact hown, hbw⟩, by simp [intOf]; omega⟩
      · obtain rfl : k = a.length := by omega
        go_wp2
        go_ret
        rw [List.take_length] at hown
        exact .mk' hown hbw
  · have he : LessOf a b = [] := if_neg h
    rw [he]
    clear he
    rw [Bool.not_eq_true] at h
    go_enter Try.func128, Try.ntmps128
    go_wp2_with fail
    refine (l2Both_any v u a b _ hv0 hu0).mono ?_
    rintro e w' ⟨rfl, q, rfl⟩
    go_wp2
    go_ret
    exact .mk' (new_ints_drewN w q).1 (new_ints_drewN w q).2

set_option maxHeartbeats 800000 in
theorem lessOf_any (v u : Value) (a b : List Int) (w : World) (hv : Ints w v a) (hu : Ints w u b) (hr : Rising b) (hlb : b.length ≤ 1099511627776) (hla : a.length ≤ 1099511627776) : Calls Try.prog 109 #[v, u] w (RetInts w (lessL a b)) := by
  obtain ⟨ho, hb⟩ := new_ints w
  have hv1 := hv
  obtain ⟨A, c, rfl, hlc, hcm, hA⟩ := hv
  clear hA
  · go_enter Try.func109, Try.ntmps109
    go_wp2
    generalize w.alloc (.cells #[] 2) = w0 at *
    go_loopw [5, 13] (fun v i wr => ∃ k : Nat, k ≤ a.length ∧ i = .int .i64 k ∧ OwnInts wr w.heap.size v ((a.take k).filter fun x => !hasB b x) ∧ Below w.heap.size w wr) (fun _ i _ => a.length - (intOf i).toNat)
    case atStart => exact ⟨0, Nat.zero_le _, rfl, ho, hb⟩
    case round =>
      obtain ⟨k, hk, rfl, hown, hbw⟩ := hrel
      by_cases hlt : k < a.length
      · obtain ⟨a1, rfl, hc⟩ := (SlF.kept hv1 (Kept.of hbw)).at_ hlt
        have hln : ((a.take k).filter fun x => !hasB b x).length ≤ 1099511627776 := Nat.le_trans length_filter_take hla
        have hft := filter_take hlt (fun x => !hasB b x)
        have Hft := Lib.hid hft
        clear hft
        by_cases g : hasB b (ix a k) = true
        all_goals
          try rw [Bool.not_eq_true] at g
          go_wp2_with (first | (go_at_call 149; refine (BinarySearch_any u b (ix a k) _ (hu.kept (Kept.of hbw)) hr hlb).mono ?_; rintro e w2 ⟨i, rfl, hw⟩; subst w2) | (at_builtin; refine append_int _ rfl (.tmp 25) (.tmp 27) rfl w.heap.size u5 ((a.take k).filter fun x => !hasB b x) rfl hown _ rfl (hln) hbw.size ?_; intro v1 w1 ho1 hb1 hg1 hl1))
          have hft := Hft.out
          simp only [g, Bool.not_true, Bool.not_false, if_true, if_false, Bool.false_eq_true, List.append_nil] at hft
          first
            | exact ⟨⟨k + 1, by omega, by go_num, by rw [hft]; exact ho1, hbw.trans hb1⟩, by simp [intOf]; omega⟩
            | exact ⟨⟨k + 1, by omega, by go_num, by rw [hft]; exact hown, hbw⟩, by simp [intOf]; omega⟩
      · obtain rfl : k = a.length := by omega
        go_wp2
        go_ret
        rw [List.take_length] at hown
        exact .mk' hown hbw

set_option maxHeartbeats 800000 in
theorem implMeetOf_any (v u : Value) (a b : List Int) (w : World) (hv : Ints w v a) (hu : Ints w u b) (hla : a.length ≤ 1099511627776) : Calls Try.prog 53 #[v, u] w (RetInts w (MeetOf a b)) := by
  obtain ⟨ho, hb⟩ := new_ints w
  have hv1 := hv
  obtain ⟨A, c, rfl, hlc, hcm, hA⟩ := hv
  clear hA
  by_cases h : bothOkB a b = true
  · have he : MeetOf a b = meetL a b := if_pos h
    rw [he]
    clear he
    have h1 : isSetB a 256 = true := by simp [bothOkB] at h; exact h.1
    have h2 : isSetB b 256 = true := by simp [bothOkB] at h; exact h.2
    clear h
    go_enter Try.func53, Try.ntmps53
    go_wp2_with fail
    refine (isSet_any _ a 256 _ hv1).mono ?_
    rintro e w' ⟨rfl, hw⟩
    subst w'
    go_wp2_with fail
    refine (isSet_any _ b 256 _ hu).mono ?_
    rintro e w' ⟨rfl, hw⟩
    subst w'
    go_wp2
    clear h1 h2
    generalize w.alloc (.cells #[] 2) = w0 at *
    go_loopw [5, 19] (fun v i wr => ∃ k : Nat, k ≤ a.length ∧ i = .int .i64 k ∧ OwnInts wr w.heap.size v ((a.take k).filter fun x => hasB b x) ∧ Below w.heap.size w wr) (fun _ i _ => a.length - (intOf i).toNat)
    case atStart => exact ⟨0, Nat.zero_le _, rfl, ho, hb⟩
    case round =>
      obtain ⟨k, hk, rfl, hown, hbw⟩ := hrel
      by_cases hlt : k < a.length
      · obtain ⟨a1, rfl, hc⟩ := (SlF.kept hv1 (Kept.of hbw)).at_ hlt
        have hln : ((a.take k).filter fun x => hasB b x).length ≤ 1099511627776 := Nat.le_trans length_filter_take hla
        have hft := filter_take hlt (fun x => hasB b x)
        have Hft := Lib.hid hft
        clear hft
        by_cases g : hasB b (ix a k) = true
        all_goals
          try rw [Bool.not_eq_true] at g
          go_wp2_with (first | (go_at_call 81; refine (Contains_any u b (ix a k) _ (hu.kept (Kept.of hbw))).mono ?_; rintro e w2 ⟨rfl, hw⟩; subst w2) | (at_builtin; refine append_int _ rfl (.tmp 26) (.tmp 28) rfl w.heap.size u5 ((a.take k).filter fun x => hasB b x) rfl hown _ rfl (hln) hbw.size ?_; intro v1 w1 ho1 hb1 hg1 hl1))
          have hft := Hft.out
          simp only [g, Bool.not_true, Bool.not_false, if_true, if_false, Bool.false_eq_true, List.append_nil] at hft
          first
            | exact ⟨⟨k + 1, by omega, by go_num, by rw [hft]; exact ho1, hbw.trans hb1⟩, by simp [intOf]; omega⟩
            | exact ⟨⟨k + 1, by omega, by go_num, by rw [hft]; exact hown, hbw⟩, by simp [intOf]; omega⟩
      · obtain rfl : k = a.length := by omega
        go_wp2
        go_ret
        rw [List.take_length] at hown
        exact .mk' hown hbw
  · have he : MeetOf a b = [] := if_neg h
    rw [he]
    clear he
    by_cases h1 : isSetB a 256 = true
    · have h2 : isSetB b 256 = false := by simpa [bothOkB, h1] using h
      clear h
      go_enter Try.func53, Try.ntmps53
      go_wp2_with fail
      refine (isSet_any _ a 256 _ hv1).mono ?_
      rintro e w' ⟨rfl, hw⟩
      subst w'
      go_wp2_with fail
      refine (isSet_any _ b 256 _ hu).mono ?_
      rintro e w' ⟨rfl, hw⟩
      subst w'
      go_wp2
      go_ret
      exact .mk' (OwnInts.nil _ _) (Below.refl _ _)
    · rw [Bool.not_eq_true] at h1
      clear h
      go_enter Try.func53, Try.ntmps53
      go_wp2_with fail
      refine (isSet_any _ a 256 _ hv1).mono ?_
      rintro e w' ⟨rfl, hw⟩
      subst w'
      go_wp2
      go_ret
      exact .mk' (OwnInts.nil _ _) (Below.refl _ _)

theorem MeetOf_len (a b : List Int) : (MeetOf a b).length ≤ a.length := by
  unfold MeetOf meetL; split
  · exact List.length_filter_le _ _
  · simp
theorem LessOf_len (a b : List Int) : (LessOf a b).length ≤ a.length := by
  unfold LessOf lessL; split
  · exact List.length_filter_le _ _
  · simp
theorem allL_len (n : Int) : (allL n).length ≤ 256 := by
  unfold allL; split
  · rw [length_upFrom]; omega
  · simp

end Go.Proofs.Ytpnophmanpfejaa
