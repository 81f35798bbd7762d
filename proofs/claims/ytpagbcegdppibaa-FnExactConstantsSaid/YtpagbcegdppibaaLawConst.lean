/- The walk of the law on the constants: it returns true. No condition. -/
import Derived.Test.YtpagbcegdppibaaMem
import Derived.Test.YtpagbcegdppibaaChecked
import Derived.WalkKit
namespace Go.Proofs.Ytpagbcegdppibaa
open Go.RowKit
theorem FnExactConstants_true (w : World) : Calls Try.prog 3 #[] w fun e w' => e = .returned (.bool true) ∧ Below w.heap.size w w' := by
  go_enter Try.func3, Try.ntmps3
  go_wp2
  go_ret
  exact ⟨rfl, Below.refl _ _⟩
end Go.Proofs.Ytpagbcegdppibaa
