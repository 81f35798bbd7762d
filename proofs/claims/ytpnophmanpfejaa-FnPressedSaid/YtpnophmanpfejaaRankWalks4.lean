/- The walks of the reference's ranks, all of them. Conditions: the arena is valid. -/
import Derived.Test.YtpnophmanpfejaaRankWalks3
import Derived.Test.YtpnophmanpfejaaPkB
namespace Go.Proofs.Ytpnophmanpfejaa
set_option linter.unusedSimpArgs false
set_option linter.unusedVariables false
open Go.RowKit

theorem OwnInts.put {w : World} {B g n cap : Nat} {l : List Int} (h : OwnInts w B (.slice (some ⟨g, 0, none⟩) n cap) l) (hn : n = l.length) (k : Nat) (x : Int) :
    OwnInts (w.setCell ⟨g, k, none⟩ (.int .i64 x)) B (.slice (some ⟨g, 0, none⟩) n cap) (l.set k x) := by
  subst hn
  exact (h.set_ k x).1
theorem OwnInts.cell' {w : World} {B g n cap : Nat} {l : List Int} (h : OwnInts w B (.slice (some ⟨g, 0, none⟩) n cap) l) {k : Nat} (hk : k < l.length) : w.cell? ⟨g, k, none⟩ = some (.int .i64 (ix l k)) := OwnInts.cell h hk
theorem OwnInts.frozen' {w : World} {B g n cap : Nat} {l : List Int} (h : OwnInts w B (.slice (some ⟨g, 0, none⟩) n cap) l) (hn : n = l.length) (k : Nat) : w.frozen? ⟨g, k, none⟩ = false := by
  subst hn
  exact OwnInts.frozen h k
theorem OwnInts.form' {w : World} {B : Nat} {v : Value} {l : List Int} {n : Nat} (h : OwnInts w B v l) (hl : l.length = n) (hn : 0 < n) : ∃ g cap, v = .slice (some ⟨g, 0, none⟩) n cap ∧ B ≤ g ∧ g < w.heap.size := by
  rcases h.form with ⟨_, rfl⟩ | ⟨g, cap, rfl, h1, h2, _⟩
  · simp at hl; omega
  · exact ⟨g, cap, by rw [hl], h1, h2⟩

end Go.Proofs.Ytpnophmanpfejaa
