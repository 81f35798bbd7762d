/- The walks of the program's ranks and what they call. Conditions: the arena is valid. -/
import Derived.Test.YtpnophmanpfejaaPkC
import Derived.Test.YtpnophmanpfejaaReachWalks
import Derived.Test.YtpnophmanpfejaaTrapWalks2
import Derived.Test.YtpnophmanpfejaaPredsWalks
import Derived.Test.YtpnophmanpfejaaFullWalks
namespace Go.Proofs.Ytpnophmanpfejaa
set_option linter.unusedSimpArgs false
set_option linter.unusedVariables false
open Go.RowKit

theorem OB.under {w w' : World} {B C : Nat} {v : Value} {l : List Bool} (h : OB w B C v l) (hb : Below C w w') : OB w' B C v l := ⟨h.1.heap fun b hb2 => hb.block b (h.2 b hb2), h.2⟩
theorem OwnInts.far {w : World} {B : Nat} {v : Value} {l : List Int} (h : OwnInts w B v l) {p : Addr} (hp : p.block < B) (u : Value) : OwnInts (w.setCell p u) B v l :=
  ((OI.of h).heap fun b hb => Below.heap_setCell _ _ _ _ (by have := (h.lt b hb).1; omega)).1
end Go.Proofs.Ytpnophmanpfejaa
