/- How a struct that came in by value is opened into the words of Mem. -/
import Derived.Test.YtpnophmanpfejaaFrame
import Derived.Test.YtpnophmanpfejaaArena
import Derived.Test.YtpnophmanpfejaaParity
import Derived.Deep.Slices
import Derived.Lib.SmallJoins
namespace Go.Proofs.Ytpnophmanpfejaa
set_option linter.unusedSimpArgs false
set_option linter.unusedVariables false
open Go.ChangeShapes Go.WideShapes Go.ChangeAt Go.RowKit Go.Deep Go.Joins

section
variable {H : Type} {enc : TypeId × Value → H} {W : World} {base : Nat} {spare : Nat → Bool} {held : Bool}

set_option maxRecDepth 100000 in
theorem ints_of_cells {fuel : Nat} {v : Value} {x : DataW H × List MemPlace} (hf : DataW.trod enc Try.prog W base spare held fuel 22 [v] = some x) : ∃ l, Ints W v l := by
  rcases open_ints Try.underlying22 Try.underlying2 (by kernel_rfl) hf with ⟨hcs, _⟩ | ⟨x, l, c, zs, hcs, _, hl, hm, hz, _, hcell, hwz⟩
  · simp at hcs
    subst hcs
    exact ⟨[], none, 0, rfl, Nat.le_refl _, by omega, fun k hk => absurd hk (Nat.not_lt_zero _)⟩
  · simp at hcs
    subst hcs
    have hz' : l ≤ zs.length := by rw [hz]; split <;> omega
    have hlen : (zs.take l).length = l := by simp only [List.length_take]; omega
    refine ⟨zs.take l, some x, c, by rw [hlen], by rw [hlen]; exact hl, by unfold maxLen at hm; omega, fun k hk => ⟨x, rfl, ?_⟩⟩
    rw [hlen] at hk
    rw [hcell k (by omega)]
    have : ix (zs.take l) k = zs.getD k 0 := by simp [ix, hk]
    simp only [this]

set_option maxRecDepth 100000 in
theorem rows_of_cells {fuel : Nat} {v : Value} {x : DataW H × List MemPlace} (hf : DataW.trod enc Try.prog W base spare held fuel 23 [v] = some x) : ∃ l, Rows W v l := by
  rcases open_slice1 Try.underlying23 (by kernel_rfl) hf with ⟨hcs, _⟩ | ⟨a, len, cap, m, n, V, D, Pl, hcs, _, hl, hm, hmm, _, hx⟩
  · simp at hcs
    subst hcs
    exact ⟨[], fun _ => undef, ⟨none, 0, rfl, Nat.le_refl _, by omega, fun k hk => absurd hk (Nat.not_lt_zero _)⟩, fun k hk => absurd hk (Nat.not_lt_zero _)⟩
  · simp at hcs
    subst hcs
    have hlm : len ≤ m := by rw [hmm]; split <;> omega
    have hrow : ∀ i, ∃ l, i < m → Ints W (V i) l := fun i => by
      by_cases hi : i < m
      · obtain ⟨l, hl⟩ := ints_of_cells (hx i hi).2
        exact ⟨l, fun _ => hl⟩
      · exact ⟨[], fun h => absurd h hi⟩
    let L : Nat → List Int := fun i => (hrow i).choose
    have hL : ∀ i, i < m → Ints W (V i) (L i) := fun i => (hrow i).choose_spec
    have hlen : ((List.range len).map L).length = len := by simp
    refine ⟨(List.range len).map L, V, ⟨some a, cap, by rw [hlen], by rw [hlen]; exact hl, by unfold maxLen at hm; omega, fun k hk => ⟨a, rfl, (hx k (by rw [hlen] at hk; omega)).1⟩⟩, fun k hk => ?_⟩
    rw [hlen] at hk
    have : rx ((List.range len).map L) k = L k := by simp [rx, hk]
    rw [this]
    exact hL k (by omega)
set_option maxRecDepth 100000 in
theorem arena_of_trod {r : Reach} {b0 : Nat} {v : Value} {d : DataW H} {p : List MemPlace} (hv : Value.okWide Try.prog W r b0 25 v) (h : DataW.Trod enc Try.prog W base spare held 25 v d p) :
    ∃ a, IsArena W v a := by
  obtain ⟨v0, v1, y0, y1, n, rfl, _, _, h0, h1⟩ := open_agg2 Try.underlying25 (by kernel_rfl) (by kernel_rfl) hv h
  obtain ⟨l, hl⟩ := ints_of_cells h0
  obtain ⟨ll, hll⟩ := rows_of_cells h1
  exact ⟨⟨l, ll⟩, v0, v1, rfl, hl, hll⟩
set_option maxRecDepth 100000 in
theorem parity_of_trod {r : Reach} {b0 : Nat} {v : Value} {d : DataW H} {p : List MemPlace} (hv : Value.okWide Try.prog W r b0 27 v) (h : DataW.Trod enc Try.prog W base spare held 27 v d p) :
    ∃ a, IsParity W v a := by
  obtain ⟨cs, rfl, hsz⟩ := okWide_struct Try.underlying27 hv
  obtain ⟨c0, c1, c2, rfl⟩ := array3 (hsz.trans (by kernel_rfl))
  obtain ⟨fuel, hf⟩ := h
  obtain ⟨y0, y1, n, hx, _, h0, h1⟩ := trod_struct2 Try.underlying27 hf
  have k0 : Try.prog.cellsOf 25 = 2 := by kernel_rfl
  have k1 : Try.prog.cellsOf 22 = 1 := by kernel_rfl
  have h0' : DataW.trod enc Try.prog W base spare held n 25 [c0, c1] = some y0 := by simpa [Value.cells, k0] using h0
  have h1' : DataW.trod enc Try.prog W base spare held n 22 [c2] = some y1 := by simpa [Value.cells, k1] using h1
  obtain ⟨z0, z1, m, _, _, g0, g1⟩ := trod_struct2 Try.underlying25 h0'
  have k2 : Try.prog.cellsOf 23 = 1 := by kernel_rfl
  have g0' : DataW.trod enc Try.prog W base spare held m 22 [c0] = some z0 := by simpa [k1] using g0
  have g1' : DataW.trod enc Try.prog W base spare held m 23 [c1] = some z1 := by simpa [k2] using g1
  obtain ⟨l, hl⟩ := ints_of_cells g0'
  obtain ⟨ll, hll⟩ := rows_of_cells g1'
  obtain ⟨l2, hl2⟩ := ints_of_cells h1'
  exact ⟨⟨⟨l, ll⟩, l2⟩, c0, c1, c2, rfl, hl, hll, hl2⟩
set_option maxRecDepth 100000 in
theorem answer_of_trod {r : Reach} {b0 : Nat} {v : Value} {d : DataW H} {p : List MemPlace} (hv : Value.okWide Try.prog W r b0 47 v) (h : DataW.Trod enc Try.prog W base spare held 47 v d p) :
    ∃ a, IsTwo W v a := by
  obtain ⟨v0, v1, y0, y1, n, rfl, _, _, h0, h1⟩ := open_agg2 Try.underlying47 (by kernel_rfl) (by kernel_rfl) hv h
  obtain ⟨l, hl⟩ := ints_of_cells h0
  obtain ⟨ll, hll⟩ := ints_of_cells h1
  exact ⟨⟨l, ll⟩, v0, v1, rfl, hl, hll⟩
end
end Go.Proofs.Ytpnophmanpfejaa
