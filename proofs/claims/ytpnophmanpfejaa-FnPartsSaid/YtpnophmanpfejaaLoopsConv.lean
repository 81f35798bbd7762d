/- Searches under another name of the edges. No program in sight, no condition. -/
import Derived.Test.YtpnophmanpfejaaLoopsPlain
namespace Go.Proofs.Ytpnophmanpfejaa
set_option linter.unusedSimpArgs false
set_option linter.unusedVariables false

theorem Star.conv {R Q : Nat → Nat → Prop} {L : List Nat} (hs : ∀ z ∈ L, ∀ y, R z y → y ∈ L) (hRQ : ∀ a b, a ∈ L → R a b → Q a b) {x y : Nat} (h : Star R x y) (hx : x ∈ L) : Star Q x y ∧ y ∈ L := by
  induction h with
  | refl => exact ⟨.refl _, hx⟩
  | tail _ s ih => exact ⟨.tail ih.1 (hRQ _ _ ih.2 s), hs _ ih.2 _ s⟩
theorem Founds.conv {R Q : Nat → Nat → Prop} {L : List Nat} (h : Founds R L) (hRQ : ∀ a b, a ∈ L → (R a b ↔ Q a b)) : Founds Q L := by
  refine ⟨h.nodup, fun z hz y hq => h.shut z hz y ((hRQ z y hz).2 hq), fun A x B e => ?_⟩
  obtain ⟨A1, A2, rfl, h1, h2⟩ := h.left A x B e
  refine ⟨A1, A2, rfl, fun y hy => ((h1 y hy).conv h.shut (fun a b ha hr => (hRQ a b ha).1 hr) (by rw [e]; simp)).1, fun z hz y hy hq => h2 z hz y hy ((hRQ z y (by rw [e]; simp [hz])).2 hq)⟩
end Go.Proofs.Ytpnophmanpfejaa
