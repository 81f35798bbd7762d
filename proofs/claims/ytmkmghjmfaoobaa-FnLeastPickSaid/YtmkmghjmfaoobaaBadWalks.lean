/- The walk of the program's badLoops. -/
import Derived.Test.YtmkmghjmfaoobaaPkF
import Derived.Test.YtmkmghjmfaoobaaPkD
import Derived.Test.YtmkmghjmfaoobaaPkB
namespace Go.Proofs.Ytmkmghjmfaoobaa
set_option linter.unusedSimpArgs false
set_option linter.unusedVariables false
open Go.RowKit

theorem below_drw' {B : Nat} {a w : World} (h : Below B a w) : Below B a w.drew := ⟨h.os, h.tape, h.output, h.size, h.block⟩
end Go.Proofs.Ytmkmghjmfaoobaa
