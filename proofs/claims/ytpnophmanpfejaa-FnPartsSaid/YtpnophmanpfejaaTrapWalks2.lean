/- The walks of EscapesIn and TrapIn, both ways. Conditions: the lists' lengths. -/
import Derived.Test.YtpnophmanpfejaaPkB
namespace Go.Proofs.Ytpnophmanpfejaa
set_option linter.unusedSimpArgs false
set_option linter.unusedVariables false
open Go.RowKit

theorem Ints.nil (w : World) : Ints w (.slice none 0 0) [] := ⟨none, 0, rfl, Nat.le_refl _, by omega, fun k hk => absurd hk (Nat.not_lt_zero _)⟩

theorem not_eq_comm' {a b : Bool} (h : (!a) = b) : a = !b := by cases a <;> cases b <;> simp_all
end Go.Proofs.Ytpnophmanpfejaa
