/- The tests of rows of rows, in the words of the laws. No condition. -/
import Derived.Test.YtpnophmanpfejaaPkB
namespace Go.Proofs.Ytpnophmanpfejaa
set_option linter.unusedSimpArgs false
set_option linter.unusedVariables false
open Go.RowKit

theorem eqInt64SS_B (v u : Value) (l m : List (List Int)) (w : World) (hv : Rows w v l) (hu : Rows w u m) :
    Calls Try.prog 45 #[v, u] w fun e w' => e = .returned (.bool (decide (l = m))) ∧ Below w.heap.size w w' := drew_below (eqInt64SS_any v u l m w hv hu)
theorem markInt64SS_O (v : Value) (ll : List (List Int)) (k0 : Int) (B C : Nat) (w : World) (hv : ORw w B C v ll) (h0 : 0 ≤ k0) (h1 : k0 + sizeR ll ≤ 4611686018427387904) :
    Calls Try.prog 48 #[v, .int .i64 k0] w fun e w' => e = .returned (.int .i64 (k0 + sizeR ll)) ∧ ORw w' B C v (markR k0 ll) ∧ Only B C w w' := by
  obtain ⟨vs, hv⟩ := hv
  refine (markInt64SS_any v vs ll k0 B C w hv h0 h1).mono fun e w' ⟨h2, h3, h4⟩ => ⟨h2, ⟨vs, h3⟩, h4.only fun k hk => ?_⟩
  obtain ⟨j, hj, hk⟩ := hk
  exact ⟨((hv.row j hj).1.lt k hk).1, (hv.row j hj).2 k hk⟩
theorem heldInt64SS_B (v : Value) (ll : List (List Int)) (k0 : Int) (w : World) (hv : Rows w v (markR k0 ll)) (h0 : 0 ≤ k0) (h1 : k0 + sizeR ll ≤ 4611686018427387904) :
    Calls Try.prog 49 #[v, .int .i64 k0] w fun e w' => e = .returned (.int .i64 (k0 + sizeR ll)) ∧ Below w.heap.size w w' := drew_below (heldInt64SS_any v ll k0 w hv h0 h1)
end Go.Proofs.Ytpnophmanpfejaa
