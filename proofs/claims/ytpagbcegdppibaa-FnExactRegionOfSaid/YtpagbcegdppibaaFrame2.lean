/- How a struct that came in by value is opened into the words of Mem. -/
import Derived.Test.YtpagbcegdppibaaFrame
import Derived.Test.YtpagbcegdppibaaArena
import Derived.Deep.Slices
import Derived.Lib.SmallJoins
namespace Go.Proofs.Ytpagbcegdppibaa
set_option linter.unusedSimpArgs false
set_option linter.unusedVariables false
open Go.ChangeShapes Go.WideShapes Go.ChangeAt Go.RowKit Go.Deep Go.Joins

section
variable {H : Type} {enc : TypeId × Value → H} {W : World} {base : Nat} {spare : Nat → Bool} {held : Bool}

theorem ints_of_cells {fuel : Nat} {v : Value} {x : DataW H × List MemPlace} (hf : DataW.trod enc Try.prog W base spare held fuel 23 [v] = some x) : ∃ l, Ints W v l := by
  rcases open_ints Try.underlying23 Try.underlying2 (by kernel_rfl) hf with ⟨hcs, _⟩ | ⟨x, l, c, zs, hcs, _, hl, hm, hz, _, hcell, hwz⟩
  · simp at hcs
    subst hcs
    exact ⟨[], none, 0, rfl, Nat.le_refl _, by omega, fun k hk => absurd hk (Nat.not_lt_zero _)⟩
  · simp at hcs
    subst hcs
    have hz' : l ≤ zs.length := by rw [hz]; split <;> omega
    have hlen : (zs.take l).length = l := by simp only [List.length_take]; omega
    refine ⟨zs.take l, some x, c, by rw [hlen], by rw [hlen]; exact hl, by unfold maxLen at hm; omega, fun k hk => ⟨x, rfl, ?_⟩⟩
    rw [hlen] at hk
    rw [hcell k (by omega)]
    have : ix (zs.take l) k = zs.getD k 0 := by simp [ix, hk]
    simp only [this]

theorem rows_of_cells {fuel : Nat} {v : Value} {x : DataW H × List MemPlace} (hf : DataW.trod enc Try.prog W base spare held fuel 40 [v] = some x) : ∃ l, Rows W v l := by
  rcases open_slice1 Try.underlying40 (by kernel_rfl) hf with ⟨hcs, _⟩ | ⟨a, len, cap, m, n, V, D, Pl, hcs, _, hl, hm, hmm, _, hx⟩
  · simp at hcs
    subst hcs
    exact ⟨[], fun _ => undef, ⟨none, 0, rfl, Nat.le_refl _, by omega, fun k hk => absurd hk (Nat.not_lt_zero _)⟩, fun k hk => absurd hk (Nat.not_lt_zero _)⟩
  · simp at hcs
    subst hcs
    have hlm : len ≤ m := by rw [hmm]; split <;> omega
    have hrow : ∀ i, ∃ l, i < m → Ints W (V i) l := fun i => by
      by_cases hi : i < m
      · obtain ⟨l, hl⟩ := ints_of_cells (hx i hi).2
        exact ⟨l, fun _ => hl⟩
      · exact ⟨[], fun h => absurd h hi⟩
    let L : Nat → List Int := fun i => (hrow i).choose
    have hL : ∀ i, i < m → Ints W (V i) (L i) := fun i => (hrow i).choose_spec
    have hlen : ((List.range len).map L).length = len := by simp
    refine ⟨(List.range len).map L, V, ⟨some a, cap, by rw [hlen], by rw [hlen]; exact hl, by unfold maxLen at hm; omega, fun k hk => ⟨a, rfl, (hx k (by rw [hlen] at hk; omega)).1⟩⟩, fun k hk => ?_⟩
    rw [hlen] at hk
    have : rx ((List.range len).map L) k = L k := by simp [rx, hk]
    rw [this]
    exact hL k (by omega)
theorem arena_of_trod {r : Reach} {b0 : Nat} {v : Value} {d : DataW H} {p : List MemPlace} (hv : Value.okWide Try.prog W r b0 42 v) (h : DataW.Trod enc Try.prog W base spare held 42 v d p) :
    ∃ a, IsArena W v a := by
  obtain ⟨v0, v1, y0, y1, n, rfl, _, _, h0, h1⟩ := open_agg2 Try.underlying42 (by kernel_rfl) (by kernel_rfl) hv h
  obtain ⟨l, hl⟩ := ints_of_cells h0
  obtain ⟨ll, hll⟩ := rows_of_cells h1
  exact ⟨⟨l, ll⟩, v0, v1, rfl, hl, hll⟩
theorem answer_of_trod {r : Reach} {b0 : Nat} {v : Value} {d : DataW H} {p : List MemPlace} (hv : Value.okWide Try.prog W r b0 31 v) (h : DataW.Trod enc Try.prog W base spare held 31 v d p) :
    ∃ a, IsTwo W v a := by
  obtain ⟨v0, v1, y0, y1, n, rfl, _, _, h0, h1⟩ := open_agg2 Try.underlying31 (by kernel_rfl) (by kernel_rfl) hv h
  obtain ⟨l, hl⟩ := ints_of_cells h0
  obtain ⟨ll, hll⟩ := ints_of_cells h1
  exact ⟨⟨l, ll⟩, v0, v1, rfl, hl, hll⟩
end
end Go.Proofs.Ytpagbcegdppibaa
