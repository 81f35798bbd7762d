/- slices.Sort at a row of int64s of the call's own, from the library's contract. -/
import Derived.Test.YtpnophmanpfejaaShelf
import Derived.Test.YtpnophmanpfejaaSortPlain
import Derived.Test.YtpnophmanpfejaaPkA
namespace Go.Proofs.Ytpnophmanpfejaa
set_option linter.unusedSimpArgs false
set_option linter.unusedVariables false
open Go.RowKit
open Go.Sort

theorem heap_putRow (w : World) (blk off : Nat) (d : Array Int) {c : Array Value} {e : TypeId} {fr : Nat × Nat} (h : w.heap[blk]? = some (.cells c e fr)) :
    (putRow (Value.int .i64) w blk off d).heap[blk]? = some (.cells (putCells (Value.int .i64) off d c) e fr) := by
  simp [putRow, mapBlock, Array.getElem?_modify, h, onCells]
theorem heap_putRow_other (w : World) (blk off : Nat) (d : Array Int) {k : Nat} (hk : k ≠ blk) : (putRow (Value.int .i64) w blk off d).heap[k]? = w.heap[k]? := by
  simp only [putRow, mapBlock, Array.getElem?_modify]
  rw [if_neg (fun e => hk e.symm)]

theorem Sort_any (B : Nat) (v : Value) (l : List Int) (w : World) (hown : OwnInts w B v l) (hnn : v.ownBlock ≠ none) (hl : l.length ≤ 1099511627776) :
    Calls Try.prog 130 #[v] w fun e w' => e = .returned (.tuple #[]) ∧ OwnInts w' B v (sortL l) ∧ w.grownBy w' v.ownBlock := by
  have hc := hown
  rcases hown.2 with ⟨rfl, _⟩ | ⟨g, cap, cur, rfl, hB, hg, hnc, hcm, hsz, htake⟩
  · exact absurd rfl hnn
  have hglt : g < w.heap.size := (Array.getElem?_eq_some_iff.1 hg).1
  have hH : Holds (Value.int .i64) w g 0 l.toArray := fun j hj => by
    have hj' : j < l.length := by simpa using hj
    refine ⟨?_, frozen_of_row w g _ _ _ hg⟩
    have := hc.cells (g := g) rfl j (.int .i64 l[j]) (by simp [hj'])
    rw [Nat.zero_add]
    have e : ((⟨g, 0, none⟩ : Addr).add j) = ⟨g, j, none⟩ := by unfold Addr.add; split <;> simp_all
    rw [e] at this
    rw [this]
    simp [hj']
  refine (Try.slices_Sort_int g 0 cap l w hH hglt (by omega)).mono ?_
  rintro e w' ⟨rfl, n, os, rfl⟩
  have hg1 : (Sort.ahead w n).heap[g]? = some (.cells cur 2 (0, 0)) := hg
  have hlen : (sortL l).length = l.length := length_sortL l
  refine ⟨rfl, ⟨by simp, .inr ⟨g, cap, putCells (Value.int .i64) 0 (sortL l).toArray cur, by rw [hlen], hB, ?_, by rw [hlen]; exact hnc, hcm, by simp [putCells, hsz], ?_⟩⟩, ⟨rfl, rfl, rfl, by simp, fun k hk hne => ?_⟩⟩
  · rw [heap_grow_old _ _ (by simpa using hglt)]
    exact heap_putRow _ _ _ _ hg1
  · apply List.ext_getElem
    · simp [putCells, hsz]; omega
    · intro i h1 h2
      have hi : i < l.length := by simpa using h2
      simp [putCells, hi]
  · have hkg : k ≠ g := fun e => hne (by rw [e]; rfl)
    rw [heap_grow_old _ _ (by simpa using hk)]
    exact heap_putRow_other _ _ _ _ hkg
end Go.Proofs.Ytpnophmanpfejaa
