/- The walks of l1Same, slices.Equal and slices.EqualFunc at lists of int64s. Printed by gen_eq.py. -/
import Derived.Test.YtpnophmanpfejaaObj
import Derived.Test.YtpnophmanpfejaaLists
namespace Go.Proofs.Ytpnophmanpfejaa
set_option linter.unusedSimpArgs false
set_option linter.unusedVariables false
open Go.RowKit

set_option maxHeartbeats 400000 in
theorem l1Same_any (v u : Value) (l m : List Int) (w : World) (hv : Ints w v l) (hu : Ints w u m) :
    Calls Try.prog 123 #[v, u] w fun e w' => e = .returned (.bool (decide (l = m))) ∧ ∃ n, w' = w.drewN n := by
  obtain ⟨A, c, rfl, hlc, hcm, hA⟩ := hv
  obtain ⟨B, d, rfl, hmd, hdm, hB⟩ := hu
  by_cases hne : l.length = m.length
  · go_enter Try.func123, Try.ntmps123
    go_wp2
    go_loopw [5] (fun i wr => ∃ k q : Nat, k ≤ m.length ∧ i = .int .i64 k ∧ wr = w.drewN q ∧ ∀ j, j < k → ix l j = ix m j) (fun i _ => m.length - (intOf i).toNat)
    case atStart => exact ⟨0, 0, Nat.zero_le _, rfl, rfl, fun j hj => absurd hj (Nat.not_lt_zero _)⟩
    case round =>
      obtain ⟨k, q, hk, rfl, rfl, heq⟩ := hrel
      by_cases hlt : k < m.length
      · obtain ⟨a1, rfl, h1⟩ := hA k (by omega)
        obtain ⟨a2, rfl, h2⟩ := hB k hlt
        go_wp2
        go_quiet (fail)
        go_wp2
        · have hd : (ix l k != ix m k) = true := by assumption
          go_ret
          have hlm : ¬ l = m := by rintro rfl; simp at hd
          exact ⟨by simp [hlm], q + nq, by simp⟩
        · have hd : (ix l k != ix m k) = false := by assumption
          refine ⟨⟨k + 1, q + nq, by omega, by go_num, by simp, fun j hj => ?_⟩, by simp [intOf]; omega⟩
          by_cases hjk : j = k
          · subst hjk; simpa using hd
          · exact heq j (by omega)
      · have hkm : k = m.length := by omega
        go_wp2
        go_ret
        refine ⟨?_, _, rfl⟩
        have hlm : l = m := int_range_ext hne fun j hj => heq j (by omega)
        simp [hlm]
  · have hlm : decide (l = m) = false := by rw [decide_eq_false_iff_not]; rintro rfl; exact hne rfl
    have hd : ((l.length : Int) != (m.length : Int)) = true := by simpa using (by omega : ¬ (l.length : Int) = m.length)
    rw [hlm]
    clear hlm
    go_enter Try.func123, Try.ntmps123
    go_wp2
    go_ret
    exact ⟨rfl, 0, rfl⟩


set_option maxHeartbeats 400000 in
theorem likeInts_any (v u : Value) (l m : List Int) (w : World) (hv : Ints w v l) (hu : Ints w u m) :
    Calls Try.prog 59 #[v, u] w fun e w' => e = .returned (.bool (decide (l = m))) ∧ ∃ n, w' = w.drewN n := by
  obtain ⟨A, c, rfl, hlc, hcm, hA⟩ := hv
  obtain ⟨B, d, rfl, hmd, hdm, hB⟩ := hu
  by_cases hne : l.length = m.length
  · go_enter Try.func59, Try.ntmps59
    go_wp2
    go_loopw [5] (fun i wr => ∃ k q : Nat, k ≤ m.length ∧ i = .int .i64 k ∧ wr = w.drewN q ∧ ∀ j, j < k → ix l j = ix m j) (fun i _ => m.length - (intOf i).toNat)
    case atStart => exact ⟨0, 0, Nat.zero_le _, rfl, rfl, fun j hj => absurd hj (Nat.not_lt_zero _)⟩
    case round =>
      obtain ⟨k, q, hk, rfl, rfl, heq⟩ := hrel
      by_cases hlt : k < m.length
      · obtain ⟨a1, rfl, h1⟩ := hA k (by omega)
        obtain ⟨a2, rfl, h2⟩ := hB k hlt
        go_wp2
        go_quiet (fail)
        go_wp2
        · have hd : (ix l k != ix m k) = true := by assumption
          go_ret
          have hlm : ¬ l = m := by rintro rfl; simp at hd
          exact ⟨by simp [hlm], q + nq, by simp⟩
        · have hd : (ix l k != ix m k) = false := by assumption
          refine ⟨⟨k + 1, q + nq, by omega, by go_num, by simp, fun j hj => ?_⟩, by simp [intOf]; omega⟩
          by_cases hjk : j = k
          · subst hjk; simpa using hd
          · exact heq j (by omega)
      · have hkm : k = m.length := by omega
        go_wp2
        go_ret
        refine ⟨?_, _, rfl⟩
        have hlm : l = m := int_range_ext hne fun j hj => heq j (by omega)
        simp [hlm]
  · have hlm : decide (l = m) = false := by rw [decide_eq_false_iff_not]; rintro rfl; exact hne rfl
    have hd : ((l.length : Int) != (m.length : Int)) = true := by simpa using (by omega : ¬ (l.length : Int) = m.length)
    rw [hlm]
    clear hlm
    go_enter Try.func59, Try.ntmps59
    go_wp2
    go_ret
    exact ⟨rfl, 0, rfl⟩

set_option maxHeartbeats 400000 in
theorem Equal_any (v u : Value) (l m : List Int) (w : World) (hv : Ints w v l) (hu : Ints w u m) :
    Calls Try.prog 125 #[v, u] w fun e w' => e = .returned (.bool (decide (l = m))) ∧ ∃ n, w' = w.drewN n := by
  obtain ⟨A, c, rfl, hlc, hcm, hA⟩ := hv
  obtain ⟨B, d, rfl, hmd, hdm, hB⟩ := hu
  by_cases hne : l.length = m.length
  · go_enter Try.func125, Try.ntmps125
    go_wp2
    go_loopw [13] (fun i wr => ∃ k q : Nat, k ≤ m.length ∧ i = .int .i64 k ∧ wr = w.drewN q ∧ ∀ j, j < k → ix l j = ix m j) (fun i _ => m.length - (intOf i).toNat)
    case atStart => exact ⟨0, 0, Nat.zero_le _, rfl, rfl, fun j hj => absurd hj (Nat.not_lt_zero _)⟩
    case round =>
      obtain ⟨k, q, hk, rfl, rfl, heq⟩ := hrel
      by_cases hlt : k < m.length
      · obtain ⟨a1, rfl, h1⟩ := hA k (by omega)
        obtain ⟨a2, rfl, h2⟩ := hB k hlt
        go_wp2
        go_quiet (fail)
        go_wp2
        · have hd : (ix l k != ix m k) = true := by assumption
          go_ret
          have hlm : ¬ l = m := by rintro rfl; simp at hd
          exact ⟨by simp [hlm], q + nq, by simp⟩
        · have hd : (ix l k != ix m k) = false := by assumption
          refine ⟨⟨k + 1, q + nq, by omega, by go_num, by simp, fun j hj => ?_⟩, by simp [intOf]; omega⟩
          by_cases hjk : j = k
          · subst hjk; simpa using hd
          · exact heq j (by omega)
      · have hkm : k = m.length := by omega
        go_wp2
        go_ret
        refine ⟨?_, _, rfl⟩
        have hlm : l = m := int_range_ext hne fun j hj => heq j (by omega)
        simp [hlm]
  · have hlm : decide (l = m) = false := by rw [decide_eq_false_iff_not]; rintro rfl; exact hne rfl
    have hd : ((l.length : Int) != (m.length : Int)) = true := by simpa using (by omega : ¬ (l.length : Int) = m.length)
    rw [hlm]
    clear hlm
    go_enter Try.func125, Try.ntmps125
    go_wp2
    go_ret
    exact ⟨rfl, 0, rfl⟩

set_option maxHeartbeats 400000 in
theorem EqualFunc_any (v u : Value) (l m : List (List Int)) (w : World) (hv : Rows w v l) (hu : Rows w u m) :
    Calls Try.prog 155 #[v, u, .func (.func 125) #[] #[]] w fun e w' => e = .returned (.bool (decide (l = m))) ∧ ∃ n, w' = w.drewN n := by
  obtain ⟨A, c, rfl, hlc, hcm⟩ := hv.form
  obtain ⟨B, d, rfl, hmd, hdm⟩ := hu.form
  by_cases hne : l.length = m.length
  · have Hne := Lib.hid hne
    have hle1 : l.length ≤ m.length := by omega
    have hle2 : m.length ≤ l.length := by omega
    have hd : ((l.length : Int) != (m.length : Int)) = false := by simp [hne]
    clear hne
    go_enter Try.func155, Try.ntmps155
    go_wp2
    clear hd
    go_loopw [17] (fun i wr => ∃ k q : Nat, k ≤ m.length ∧ i = .int .i64 k ∧ wr = w.drewN q ∧ ∀ j, j < k → rx l j = rx m j) (fun i _ => m.length - (intOf i).toNat)
    case atStart => exact ⟨0, 0, Nat.zero_le _, rfl, rfl, fun j hj => absurd hj (Nat.not_lt_zero _)⟩
    case round =>
      obtain ⟨k, q, hk, rfl, rfl, heq⟩ := hrel
      by_cases hlt : k < m.length
      · obtain ⟨a1, A1, c1, rfl, h1, hr1⟩ := hv.at_ (k := k) (by omega)
        obtain ⟨a2, A2, c2, rfl, h2, hr2⟩ := hu.at_ hlt
        have hlk : (rx l k = rx m k) ∨ ¬ (rx l k = rx m k) := Classical.em _
        rcases hlk with he | he
        · have hd : decide (rx l k = rx m k) = true := by simpa using he
          have He := Lib.hid he
          clear he
          go_wp2_with fail
          refine (Equal_any _ _ _ _ _ (hr1.kept (Kept.drewN w q)) (hr2.kept (Kept.drewN w q))).mono ?_
          rintro e w2 ⟨rfl, q2, rfl⟩
          go_wp2
          exact ⟨⟨k + 1, q + q2, by omega, by go_num, by simp, fun j hj => by
            by_cases hjk : j = k
            · rw [hjk]; exact He.out
            · exact heq j (by omega)⟩, by simp [intOf]; omega⟩
        · have hd : decide (rx l k = rx m k) = false := by simpa using he
          have hlm : decide (l = m) = false := by rw [decide_eq_false_iff_not]; rintro rfl; exact he rfl
          have Hlm := Lib.hid hlm
          clear he hlm
          go_wp2_with fail
          refine (Equal_any _ _ _ _ _ (hr1.kept (Kept.drewN w q)) (hr2.kept (Kept.drewN w q))).mono ?_
          rintro e w2 ⟨rfl, q2, rfl⟩
          go_wp2
          go_ret
          exact ⟨by rw [Hlm.out]; rfl, q + q2, by simp⟩
      · have hlm : l = m := rows_ext Hne.out fun j hj => heq j (by omega)
        have hd : decide (l = m) = true := by simpa using hlm
        have Hd := Lib.hid hd
        clear hd
        clear hlm
        go_wp2
        go_ret
        exact ⟨by rw [Hd.out]; rfl, q, rfl⟩
  · have hlm : decide (l = m) = false := by rw [decide_eq_false_iff_not]; rintro rfl; exact hne rfl
    have hd : ((l.length : Int) != (m.length : Int)) = true := by simpa using (by omega : ¬ (l.length : Int) = m.length)
    rw [hlm]
    clear hlm
    go_enter Try.func155, Try.ntmps155
    go_wp2
    go_ret
    exact ⟨rfl, 0, rfl⟩

end Go.Proofs.Ytpnophmanpfejaa
