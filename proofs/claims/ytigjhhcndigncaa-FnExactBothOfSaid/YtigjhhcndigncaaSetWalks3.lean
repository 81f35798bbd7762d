/- The walks of HasIn, LessOf and PartIn, of the program and of the reference. -/
import Derived.Test.YtigjhhcndigncaaSetWalks2
namespace Go.Proofs.Ytigjhhcndigncaa
set_option linter.unusedSimpArgs false
set_option linter.unusedVariables false
open Go.RowKit

def hasInB (a : List Int) (n : Int) : Bool := isSetB a 256 && hasB a n
def partInB (a b : List Int) : Bool := bothOkB a b && decide (lessL a b = [])

theorem len_beq_zero (l : List Int) : ((l.length : Int) == 0) = decide (l = []) := by
  rcases l with _ | ⟨x, l⟩
  · rfl
  · simp only [List.length_cons]
    rw [show decide (x :: l = []) = false from by simp, beq_eq_false_iff_ne]
    omega

/-- The two tests that LessOf and PartIn begin with. -/
theorem both_cases {a b : List Int} : (isSetB a 256 = true ∧ isSetB b 256 = true ∧ bothOkB a b = true) ∨ (isSetB a 256 = true ∧ isSetB b 256 = false ∧ bothOkB a b = false) ∨ (isSetB a 256 = false ∧ bothOkB a b = false) := by
  unfold bothOkB
  cases isSetB a 256 <;> cases isSetB b 256 <;> simp

end Go.Proofs.Ytigjhhcndigncaa
