/- The walks of l1Same, slices.Equal and slices.EqualFunc at lists of int64s. Printed by gen_eq.py. -/
import Derived.Test.YtigjhhcndigncaaObj
import Derived.Test.YtigjhhcndigncaaLists
namespace Go.Proofs.Ytigjhhcndigncaa
set_option linter.unusedSimpArgs false
set_option linter.unusedVariables false
open Go.RowKit

set_option maxHeartbeats 400000 in
theorem l1Same_any (v u : Value) (l m : List Int) (w : World) (hv : Ints w v l) (hu : Ints w u m) :
    Calls Try.prog 119 #[v, u] w fun e w' => e = .returned (.bool (decide (l = m))) ∧ ∃ n, w' = w.drewN n := by
  obtain ⟨A, c, rfl, hlc, hcm, hA⟩ := hv
  obtain ⟨B, d, rfl, hmd, hdm, hB⟩ := hu
  by_cases hne : l.length = m.length
  · go_enter Try.func119, Try.ntmps119
    go_wp2
    go_loopw [5] (fun i wr => ∃ k q : Nat, k ≤ m.length ∧ i = .int .i64 k ∧ wr = w.drewN q ∧ ∀ j, j < k → ix l j = ix m j) (fun i _ => m.length - (intOf i).toNat)
    case atStart => exact ⟨0, 0, Nat.zero_le _, rfl, rfl, fun j hj => absurd hj (Nat.not_lt_zero _)⟩
    case round =>
      obtain ⟨k, q, hk, rfl, rfl, heq⟩ := hrel
      by_cases hlt : k < m.length
      · obtain ⟨a1, rfl, h1⟩ := hA k (by omega)
        obtain ⟨a2, rfl, h2⟩ := hB k hlt
        go_wp2
        go_quiet (fail)
        go_wp2
        · have hd : (ix l k != ix m k) = true := by assumption
          go_ret
          have hlm : ¬ l = m := by rintro rfl; simp at hd
          exact ⟨by simp [hlm], q + nq, by simp⟩
        · have hd : (ix l k != ix m k) = false := by assumption
          refine ⟨⟨k + 1, q + nq, by omega, by go_num, by simp, fun j hj => ?_⟩, by simp [intOf]; omega⟩
          by_cases hjk : j = k
          · subst hjk; simpa using hd
          · exact heq j (by omega)
      · have hkm : k = m.length := by omega
        go_wp2
        go_ret
        refine ⟨?_, _, rfl⟩
        have hlm : l = m := int_range_ext hne fun j hj => heq j (by omega)
        simp [hlm]
  · have hlm : decide (l = m) = false := by rw [decide_eq_false_iff_not]; rintro rfl; exact hne rfl
    have hd : ((l.length : Int) != (m.length : Int)) = true := by simpa using (by omega : ¬ (l.length : Int) = m.length)
    rw [hlm]
    clear hlm
    go_enter Try.func119, Try.ntmps119
    go_wp2
    go_ret
    exact ⟨rfl, 0, rfl⟩





end Go.Proofs.Ytigjhhcndigncaa
