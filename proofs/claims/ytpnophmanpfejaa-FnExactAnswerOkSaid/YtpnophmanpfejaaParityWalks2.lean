/- The walks of WithPrio. No condition but the lists' lengths. -/
import Derived.Test.YtpnophmanpfejaaParityWalks
namespace Go.Proofs.Ytpnophmanpfejaa
set_option linter.unusedSimpArgs false
set_option linter.unusedVariables false
open Go.RowKit

theorem OwnInts.drewN {w : World} {B : Nat} {v : Value} {l : List Int} (h : OwnInts w B v l) (q : Nat) : OwnInts (w.drewN q) B v l := h

theorem RetInts.at_ {w W w' : World} {l : List Int} {u : Value} (hb : Below w.heap.size w W) (h1 : OwnInts w' W.heap.size u l) (h2 : Below W.heap.size W w') : RetInts w l (.returned u) w' := .mk' (h1.more hb.size) (Below.up hb h2)

end Go.Proofs.Ytpnophmanpfejaa
