/- The walks of the reference's ranks. Conditions: the arena is valid. -/
import Derived.Test.YtpnophmanpfejaaRankWalks2
import Derived.Test.YtpnophmanpfejaaClass
namespace Go.Proofs.Ytpnophmanpfejaa
set_option linter.unusedSimpArgs false
set_option linter.unusedVariables false
open Go.RowKit

theorem lowOf_bounds {m : List Bool} {r l : List Int} {n : Nat} (hl : ∀ u ∈ l, u.toNat < n) (hr : ∀ v, v < n → -1 ≤ ix r v ∧ ix r v ≤ 256) : -1 ≤ lowOf m r l ∧ lowOf m r l ≤ 256 := by
  rcases low_spec m r l with ⟨h, _⟩ | ⟨⟨u, hu, _, h⟩, _⟩
  · omega
  · have := hr _ (hl u hu); omega
theorem topOf_bounds {m : List Bool} {r l : List Int} {n : Nat} (hl : ∀ u ∈ l, u.toNat < n) (hr : ∀ v, v < n → -1 ≤ ix r v ∧ ix r v ≤ 256) : -1 ≤ topOf m r l ∧ topOf m r l ≤ 256 := by
  rcases top_spec m r l with ⟨h, _⟩ | ⟨⟨u, hu, _, h⟩, _⟩
  · omega
  · have := hr _ (hl u hu); omega
theorem vert_mem {l : List Int} {n : Nat} (h : Vert l n) : ∀ u ∈ l, u.toNat < n := fun u hu => by
  obtain ⟨k, hk, e⟩ := mem_ix.1 hu
  obtain ⟨j, hj, hjn⟩ := h k hk
  omega

end Go.Proofs.Ytpnophmanpfejaa
