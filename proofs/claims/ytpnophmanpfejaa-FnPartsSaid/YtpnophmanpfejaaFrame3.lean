/- How a slice of bytes that reads as data is opened. -/
import Derived.Test.YtpnophmanpfejaaPkA
import Derived.Test.YtpnophmanpfejaaCurWalks
namespace Go.Proofs.Ytpnophmanpfejaa
set_option linter.unusedSimpArgs false
set_option linter.unusedVariables false
open Go.ChangeShapes Go.WideShapes Go.ChangeAt Go.RowKit

section
variable {H : Type} {enc : TypeId × Value → H} {W : World} {base : Nat}
theorem wf_u8 {n : Int} (h : (Lit.int .u8 n).wf = true) : 0 ≤ n ∧ n ≤ 255 := by
  simp [Lit.wf, IntKind.min, IntKind.max, IntKind.signed, IntKind.bits] at h
  omega
set_option maxRecDepth 100000 in
theorem bytes_of_trod {r : Reach} {b0 : Nat} {spare : Nat → Bool} {held : Bool} {v : Value} {d : DataW H} {p : List MemPlace} (hv : Value.okWide Try.prog W r b0 63 v) (h : DataW.Trod enc Try.prog W base spare held 63 v d p) :
    ∃ n, Bytes W v n := by
  obtain ⟨a0, len0, cap0, rfl⟩ := okWide_slice Try.underlying63 hv
  obtain ⟨fuel, hf⟩ := h
  rcases open_ints Try.underlying63 Try.underlying5 (by kernel_rfl) hf with ⟨hcs, _⟩ | ⟨x, l, c, zs, hcs, _, hl, hm, hz, _, hcell, hwz⟩
  · simp [Value.cells] at hcs
    obtain ⟨rfl, rfl, rfl⟩ := hcs
    exact ⟨0, fun _ => 0, ⟨none, 0, rfl, Nat.le_refl _, by omega, fun k hk => absurd hk (Nat.not_lt_zero _)⟩, fun k => by simp⟩
  · simp [Value.cells] at hcs
    obtain ⟨rfl, rfl, rfl⟩ := hcs
    have hz' : len0 ≤ zs.length := by rw [hz]; split <;> omega
    refine ⟨len0, fun k => zs.getD k 0, ⟨some x, cap0, rfl, hl, by unfold maxLen at hm; omega, fun k hk => ⟨x, rfl, hcell k (by omega)⟩⟩, fun k => ?_⟩
    by_cases hk : k < zs.length
    · have h2 : zs.getD k 0 = zs[k] := by simp [hk]
      simp only [h2]
      exact wf_u8 (hwz _ (List.getElem_mem hk))
    · have h2 : zs.getD k 0 = 0 := by simp [hk]
      simp only [h2]
      omega
end
end Go.Proofs.Ytpnophmanpfejaa
