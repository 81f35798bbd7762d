/- How long the parts are. No condition. -/
import Derived.Test.YtpnophmanpfejaaLoopsSpec
namespace Go.Proofs.Ytpnophmanpfejaa
set_option linter.unusedSimpArgs false
set_option linter.unusedVariables false

theorem offR_le_mul {ll : List (List Int)} {c : Nat} (h : ∀ k, k < ll.length → (rx ll k).length ≤ c) : ∀ k, k ≤ ll.length → offR ll k ≤ k * c := by
  intro k
  induction k with
  | zero => intro _; simp
  | succ k ih =>
    intro hk
    rw [offR_succ (by omega), Nat.succ_mul]
    have := ih (by omega)
    have := h k (by omega)
    omega
theorem sizeR_le_mul {ll : List (List Int)} {c : Nat} (h : ∀ k, k < ll.length → (rx ll k).length ≤ c) : sizeR ll ≤ ll.length * c := offR_le_mul h _ (Nat.le_refl _)
theorem loopsL_len (R : Nat → Nat → Prop) (s : List Int) : (loopsL R s).length ≤ s.length := by rw [← loopsTo_all]; exact loopsTo_len
theorem loopsL_row (R : Nat → Nat → Prop) (s : List Int) {k : Nat} (hk : k < (loopsL R s).length) : ∃ v ∈ s, isRep R s v = true ∧ rx (loopsL R s) k = classOf R s v.toNat := by
  rw [rx_lt hk]
  have h := List.getElem_mem hk
  unfold loopsL at h
  obtain ⟨v, hv, e⟩ := List.mem_map.1 h
  obtain ⟨h1, h2⟩ := List.mem_filter.1 hv
  exact ⟨v, h1, h2, e.symm⟩
theorem classOf_len (R : Nat → Nat → Prop) (s : List Int) (v : Nat) : (classOf R s v).length ≤ s.length := by rw [← classTo_all]; exact classTo_len
theorem loopsG_len (a : ArenaD) (s : List Int) : (loopsG a s).length ≤ 256 ∧ ∀ k, k < (loopsG a s).length → (rx (loopsG a s) k).length ≤ 256 := by
  unfold loopsG
  split
  · rename_i h
    simp only [Bool.and_eq_true] at h
    have hok := arenaOkB_iff.1 h.1
    have hset := isSetB_iff.1 h.2
    have hle := hok.le
    have hsl := hset.length_le
    refine ⟨by have := loopsL_len (EdgeM a.next (marksL a.owner.length s)) s; omega, fun k hk => ?_⟩
    obtain ⟨v, _, _, e⟩ := loopsL_row _ _ hk
    rw [e]
    have := classOf_len (EdgeM a.next (marksL a.owner.length s)) s v.toNat
    omega
  · exact ⟨by simp, fun k hk => by simp at hk⟩
theorem loopsG_size (a : ArenaD) (s : List Int) : sizeR (loopsG a s) ≤ 1048576 := by
  obtain ⟨h1, h2⟩ := loopsG_len a s
  have h3 := sizeR_le_mul h2
  have h4 : (loopsG a s).length * 256 ≤ 256 * 256 := Nat.mul_le_mul_right _ h1
  omega
end Go.Proofs.Ytpnophmanpfejaa
