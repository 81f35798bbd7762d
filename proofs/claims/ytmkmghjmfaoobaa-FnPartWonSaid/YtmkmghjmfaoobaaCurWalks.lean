/- The draws of the reference: a cursor over bytes. What they give back lies within bounds. -/
import Derived.Test.YtmkmghjmfaoobaaPkA
import Derived.Test.YtmkmghjmfaoobaaPkB
import Derived.BigRegion
namespace Go.Proofs.Ytmkmghjmfaoobaa
set_option linter.unusedSimpArgs false
set_option linter.unusedVariables false
open Go.RowKit

/-- v is a slice of n bytes. -/
def Bytes (w : World) (v : Value) (n : Nat) : Prop := ∃ f : Nat → Int, SlF w v n (fun k => .int .u8 (f k)) ∧ ∀ k, 0 ≤ f k ∧ f k ≤ 255
theorem Bytes.kept {w w' : World} {v : Value} {n : Nat} (h : Bytes w v n) (hk : Kept w w') : Bytes w' v n := by
  obtain ⟨f, h1, h2⟩ := h
  exact ⟨f, h1.kept hk, h2⟩
theorem cell_heap {w w' : World} {p : Addr} (h : w'.heap[p.block]? = w.heap[p.block]?) : w'.cell? p = w.cell? p := by
  unfold World.cell?
  rw [h]
theorem Bytes.chg {w w' : World} {v : Value} {n C : Nat} (h : Bytes w v n) (hc : Chg (fun b => b = C) w w') (hbC : ∀ A k c, v = .slice (some A) k c → n = 0 ∨ A.block ≠ C) : Bytes w' v n := by
  obtain ⟨f, ⟨A, c, rfl, h1, h2, h3⟩, h4⟩ := h
  refine ⟨f, ⟨A, c, rfl, h1, h2, fun k hk => ?_⟩, h4⟩
  obtain ⟨ad, rfl, hcl⟩ := h3 k hk
  refine ⟨ad, rfl, ?_⟩
  have hlt := World.block_lt_of_cell? w _ hcl
  rw [block_of_add] at hlt
  rw [← hcl]
  refine cell_heap ?_
  rw [block_of_add]
  exact hc.block _ hlt ((hbC ad n c rfl).resolve_left (by omega))
theorem Bytes.form {w : World} {v : Value} {n : Nat} (h : Bytes w v n) : ∃ A c, v = .slice A n c ∧ n ≤ c ∧ c ≤ 9223372036854775807 := by
  obtain ⟨f, ⟨A, c, h0, h1, h2, h3⟩, h4⟩ := h
  exact ⟨A, c, h0, h1, h2⟩
theorem Bytes.at_ {w : World} {A : Option Addr} {n c k : Nat} (h : Bytes w (.slice A n c) n) (hk : k < n) : ∃ ad y, A = some ad ∧ w.cell? (ad.add k) = some (.int .u8 y) ∧ 0 ≤ y ∧ y ≤ 255 := by
  obtain ⟨f, h1, h4⟩ := h
  obtain ⟨ad, e, hc⟩ := SlF.at_ h1 hk
  exact ⟨ad, f k, e, hc, h4 k⟩
theorem i64_and255 (n : Int) : bits .and .i64 n 255 = n % 256 := by
  have h127 : (BitVec.ofInt 64 255).toNat = 2 ^ 8 - 1 := by decide
  have key : (BitVec.ofInt 64 n &&& BitVec.ofInt 64 255).toNat = (n % ((2 ^ 64 : Nat) : Int)).toNat % 2 ^ 8 := by
    rw [BitVec.toNat_and, BitVec.toNat_ofInt, h127, Nat.and_two_pow_sub_one_eq_mod]
  show IntKind.i64.wrap ((BitVec.ofInt 64 n &&& BitVec.ofInt 64 255).toNat : Nat) = n % 256
  rw [key, IntKind.wrap_i64]
  omega
theorem own_some {b : Nat} {v v' : Value} (h : v'.ownBlock = v.ownBlock ∨ v'.ownBlock = some b) (hv : v.ownBlock ≠ none) : v'.ownBlock ≠ none := by
  rcases h with h | h
  · rw [h]; exact hv
  · rw [h]; simp
theorem Ints.chg {w w' : World} {v : Value} {l : List Int} {S : Nat → Prop} (h : Ints w v l) (hc : Chg S w w') (hS : ∀ A k c, v = .slice (some A) k c → ¬ S A.block) : Ints w' v l := by
  obtain ⟨A, c, rfl, h1, h2, h3⟩ := h
  refine ⟨A, c, rfl, h1, h2, fun k hk => ?_⟩
  obtain ⟨ad, rfl, hcl⟩ := h3 k hk
  refine ⟨ad, rfl, ?_⟩
  have hlt := World.block_lt_of_cell? w _ hcl
  rw [block_of_add] at hlt
  rw [← hcl]
  refine cell_heap ?_
  rw [block_of_add]
  exact hc.block _ hlt (hS ad _ c rfl)
theorem big_any (v : Value) (n : Nat) (w : World) (hb : Bytes w v n) : Calls Try.prog 26 #[v] w fun e w' => e = .returned (.bool (decide (4096 < n))) ∧ w' = w := by
  obtain ⟨BA, bc, rfl, hbl, hbm⟩ := hb.form
  go_enter Try.func26, Try.ntmps26
  go_wp2
  go_ret
  exact ⟨by simp; omega, rfl⟩
end Go.Proofs.Ytmkmghjmfaoobaa
