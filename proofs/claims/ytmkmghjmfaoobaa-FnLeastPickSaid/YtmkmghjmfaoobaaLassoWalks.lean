/- The walks of LassoOk, PlayWon and what they call. No condition. -/
import Derived.Test.YtmkmghjmfaoobaaPkF
import Derived.Test.YtmkmghjmfaoobaaPkB
import Derived.Test.YtmkmghjmfaoobaaPkD
import Derived.Test.YtmkmghjmfaoobaaPkA
namespace Go.Proofs.Ytmkmghjmfaoobaa
set_option linter.unusedSimpArgs false
set_option linter.unusedVariables false
open Go.RowKit

theorem arena_lasso_box {w : World} {v u : Value} {a : ArenaD} {l : TwoD} (hv : IsArena w v a) (hu : IsTwo w u l) : ∃ o n s t, v = .agg #[o, n] ∧ u = .agg #[s, t] ∧
    Below w.heap.size w ((w.alloc (.cells #[o, n] 30)).alloc (.cells #[s, t] 88)) ∧ Arr ((w.alloc (.cells #[o, n] 30)).alloc (.cells #[s, t] 88)) w.heap.size 30 [o, n] ∧
    Arr ((w.alloc (.cells #[o, n] 30)).alloc (.cells #[s, t] 88)) (w.heap.size + 1) 88 [s, t] := by
  obtain ⟨o, n, rfl, _⟩ := hv
  obtain ⟨s, t, rfl, _⟩ := hu
  have h2 := Arr.new (w.alloc (.cells #[o, n] 30)) 88 [s, t]
  exact ⟨o, n, s, t, rfl, rfl, ((Below.refl _ _).alloc (Nat.le_refl _) _).alloc (by simp) _, (Arr.new _ _ _).alloc _, by simpa using h2⟩

end Go.Proofs.Ytmkmghjmfaoobaa
