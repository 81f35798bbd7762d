/- The walks of HasIn, LessOf and PartIn, of the program and of the reference. -/
import Derived.Test.YtogfpalgnjlfcaaPkB
namespace Go.Proofs.Ytogfpalgnjlfcaa
set_option linter.unusedSimpArgs false
set_option linter.unusedVariables false
open Go.RowKit

def hasInB (a : List Int) (n : Int) : Bool := isSetB a 256 && hasB a n
def partInB (a b : List Int) : Bool := bothOkB a b && decide (lessL a b = [])

theorem specHasIn_any (v : Value) (a : List Int) (n : Int) (w : World) (hv : Ints w v a) :
    Calls Try.prog 26 #[v, .int .i64 n] w fun e w' => e = .returned (.bool (hasInB a n)) ∧ ∃ q, w' = w.drewN q := by
  by_cases h : isSetB a 256 = true
  · have h256 : setOkB a 256 = true := by rw [setOk256, h]
    have hb : hasInB a n = hasB a n := by simp [hasInB, h]
    rw [hb]
    clear hb h
    go_enter Try.func26, Try.ntmps26
    go_wp2_with fail
    refine (specSetOk_any v a 256 _ hv).mono ?_
    rintro e w' ⟨rfl, q, rfl⟩
    go_wp2_with fail
    refine (l1Has_any v a n _ (hv.kept (Kept.drewN _ _))).mono ?_
    rintro e w' ⟨rfl, rfl⟩
    go_wp2
    go_ret
    exact ⟨rfl, q, rfl⟩
  · have h256 : setOkB a 256 = false := by rw [setOk256]; simpa using h
    have hb : hasInB a n = false := by simp [hasInB, h]
    rw [hb]
    clear hb h
    go_enter Try.func26, Try.ntmps26
    go_wp2_with fail
    refine (specSetOk_any v a 256 _ hv).mono ?_
    rintro e w' ⟨rfl, q, rfl⟩
    go_wp2
    go_ret
    exact ⟨rfl, q, rfl⟩

theorem len_beq_zero (l : List Int) : ((l.length : Int) == 0) = decide (l = []) := by
  rcases l with _ | ⟨x, l⟩
  · rfl
  · simp only [List.length_cons]
    rw [show decide (x :: l = []) = false from by simp, beq_eq_false_iff_ne]
    omega

/-- The two tests that LessOf and PartIn begin with. -/
theorem both_cases {a b : List Int} : (isSetB a 256 = true ∧ isSetB b 256 = true ∧ bothOkB a b = true) ∨ (isSetB a 256 = true ∧ isSetB b 256 = false ∧ bothOkB a b = false) ∨ (isSetB a 256 = false ∧ bothOkB a b = false) := by
  unfold bothOkB
  cases isSetB a 256 <;> cases isSetB b 256 <;> simp

end Go.Proofs.Ytogfpalgnjlfcaa
