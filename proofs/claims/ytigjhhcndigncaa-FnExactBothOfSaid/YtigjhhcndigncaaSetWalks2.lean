/- The walks of the functions that make sets: AllOf, MeetOf, LessOf, and of those that call them. Printed by gen_sets.py. -/
import Derived.Test.YtigjhhcndigncaaSetWalks
import Derived.Deep.DeepMust
namespace Go.Proofs.Ytigjhhcndigncaa
set_option linter.unusedSimpArgs false
set_option linter.unusedVariables false
open Go.RowKit

/-- A function that makes a row of int64s, and writes nothing that was there. -/
def RetInts (w : World) (l : List Int) (e : Ending) (w' : World) : Prop := ∃ u, e = .returned u ∧ OwnInts w' w.heap.size u l ∧ Below w.heap.size w w'
theorem RetInts.mk' {w w' : World} {l : List Int} {u : Value} (h1 : OwnInts w' w.heap.size u l) (h2 : Below w.heap.size w w') : RetInts w l (.returned u) w' := ⟨u, rfl, h1, h2⟩

theorem new_ints (w : World) : OwnInts (w.alloc (.cells #[] 2)) w.heap.size (.slice (some ⟨w.heap.size, 0, none⟩) 0 0) [] ∧ Below w.heap.size w (w.alloc (.cells #[] 2)) :=
  ⟨OwnInts.empty w _ (Nat.le_refl _), (Below.refl _ _).alloc (Nat.le_refl _) _⟩
theorem new_ints_drewN (w : World) (q : Nat) : OwnInts ((w.alloc (.cells #[] 2)).drewN q) w.heap.size (.slice (some ⟨w.heap.size, 0, none⟩) 0 0) [] ∧ Below w.heap.size w ((w.alloc (.cells #[] 2)).drewN q) :=
  ⟨(new_ints w).1, below_drewN (new_ints w).2 q⟩

theorem l2Both_any (v u : Value) (a b : List Int) (w : World) (hv : Ints w v a) (hu : Ints w u b) :
    Calls Try.prog 111 #[v, u] w fun e w' => e = .returned (.bool (bothOkB a b)) ∧ ∃ q, w' = w.drewN q := by
  by_cases h : isSetB a 256 = true
  · have h256 : setOkB a 256 = true := by rw [setOk256, h]
    have hb : bothOkB a b = setOkB b 256 := by simp [bothOkB, h, setOk256]
    rw [hb]
    clear hb h
    go_enter Try.func111, Try.ntmps111
    go_wp2_with fail
    refine (specSetOk_any v a 256 _ hv).mono ?_
    rintro e w' ⟨rfl, q, rfl⟩
    go_wp2_with fail
    refine (specSetOk_any u b 256 _ (hu.kept (Kept.drewN _ _))).mono ?_
    rintro e w' ⟨rfl, q2, rfl⟩
    go_wp2
    go_ret
    exact ⟨rfl, q + q2, by simp⟩
  · have h256 : setOkB a 256 = false := by rw [setOk256]; simpa using h
    have hb : bothOkB a b = false := by simp [bothOkB, h]
    rw [hb]
    clear hb h
    go_enter Try.func111, Try.ntmps111
    go_wp2_with fail
    refine (specSetOk_any v a 256 _ hv).mono ?_
    rintro e w' ⟨rfl, q, rfl⟩
    go_wp2
    go_ret
    exact ⟨rfl, q, rfl⟩

def MeetOf (a b : List Int) : List Int := if bothOkB a b = true then meetL a b else []
def LessOf (a b : List Int) : List Int := if bothOkB a b = true then lessL a b else []
set_option maxHeartbeats 800000 in
theorem lessOf_any (v u : Value) (a b : List Int) (w : World) (hv : Ints w v a) (hu : Ints w u b) (hr : Rising b) (hlb : b.length ≤ 1099511627776) (hla : a.length ≤ 1099511627776) : Calls Try.prog 124 #[v, u] w (RetInts w (lessL a b)) := by
  obtain ⟨ho, hb⟩ := new_ints w
  have hv1 := hv
  obtain ⟨A, c, rfl, hlc, hcm, hA⟩ := hv
  clear hA
  · go_enter Try.func124, Try.ntmps124
    go_wp2
    generalize w.alloc (.cells #[] 2) = w0 at *
    go_loopw [5, 13] (fun v i wr => ∃ k : Nat, k ≤ a.length ∧ i = .int .i64 k ∧ OwnInts wr w.heap.size v ((a.take k).filter fun x => !hasB b x) ∧ Below w.heap.size w wr) (fun _ i _ => a.length - (intOf i).toNat)
    case atStart => exact ⟨0, Nat.zero_le _, rfl, ho, hb⟩
    case round =>
      obtain ⟨k, hk, rfl, hown, hbw⟩ := hrel
      by_cases hlt : k < a.length
      · obtain ⟨a1, rfl, hc⟩ := (SlF.kept hv1 (Kept.of hbw)).at_ hlt
        have hln : ((a.take k).filter fun x => !hasB b x).length ≤ 1099511627776 := Nat.le_trans length_filter_take hla
        have hft := filter_take hlt (fun x => !hasB b x)
        have Hft := Lib.hid hft
        clear hft
        by_cases g : hasB b (ix a k) = true
        all_goals
          try rw [Bool.not_eq_true] at g
          go_wp2_with (first | (go_at_call 128; refine (BinarySearch_any u b (ix a k) _ (hu.kept (Kept.of hbw)) hr hlb).mono ?_; rintro e w2 ⟨i, rfl, hw⟩; subst w2) | (at_builtin; refine append_int _ rfl (.tmp 25) (.tmp 27) rfl w.heap.size u5 ((a.take k).filter fun x => !hasB b x) rfl hown _ rfl (hln) hbw.size ?_; intro v1 w1 ho1 hb1 hg1 hl1))
          have hft := Hft.out
          simp only [g, Bool.not_true, Bool.not_false, if_true, if_false, Bool.false_eq_true, List.append_nil] at hft
          first
            | exact ⟨⟨k + 1, by omega, by go_num, by rw [hft]; exact ho1, hbw.trans hb1⟩, by simp [intOf]; omega⟩
            | exact ⟨⟨k + 1, by omega, by go_num, by rw [hft]; exact hown, hbw⟩, by simp [intOf]; omega⟩
      · obtain rfl : k = a.length := by omega
        go_wp2
        go_ret
        rw [List.take_length] at hown
        exact .mk' hown hbw

theorem MeetOf_len (a b : List Int) : (MeetOf a b).length ≤ a.length := by
  unfold MeetOf meetL; split
  · exact List.length_filter_le _ _
  · simp
theorem LessOf_len (a b : List Int) : (LessOf a b).length ≤ a.length := by
  unfold LessOf lessL; split
  · exact List.length_filter_le _ _
  · simp
theorem allL_len (n : Int) : (allL n).length ≤ 256 := by
  unfold allL; split
  · rw [length_upFrom]; omega
  · simp

end Go.Proofs.Ytigjhhcndigncaa
