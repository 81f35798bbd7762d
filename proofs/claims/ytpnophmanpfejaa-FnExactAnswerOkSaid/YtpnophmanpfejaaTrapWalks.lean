/- The walks of EscapesIn, TrapIn and what they call. Conditions: those of the callers. -/
import Derived.Test.YtpnophmanpfejaaTrapPlain
import Derived.Test.YtpnophmanpfejaaMarkWalks
import Derived.Test.YtpnophmanpfejaaSetWalks2
import Derived.Deep.RegionHeld3
namespace Go.Proofs.Ytpnophmanpfejaa
set_option linter.unusedSimpArgs false
set_option linter.unusedVariables false
open Go.RowKit

theorem arena_open {w : World} {v : Value} {a : ArenaD} (hv : IsArena w v a) : ∃ o n, v = .agg #[o, n] ∧ Below w.heap.size w (w.alloc (.cells #[o, n] 30)) ∧ Arr (w.alloc (.cells #[o, n] 30)) w.heap.size 30 [o, n] := by
  obtain ⟨o, n, h, h1, h2, _⟩ := arena_box hv
  exact ⟨o, n, h, h1, h2⟩
theorem filter_whole (l : List Int) (f : Int → Bool) : (l.take l.length).filter f = l.filter f := by rw [List.take_length]

end Go.Proofs.Ytpnophmanpfejaa
