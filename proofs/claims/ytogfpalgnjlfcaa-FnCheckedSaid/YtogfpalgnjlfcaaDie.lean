/- The laws' dice: numbers that follow from the bytes. What they give lies within bounds. -/
import Derived.Test.YtogfpalgnjlfcaaCurWalks
import Derived.Test.YtogfpalgnjlfcaaPkA
namespace Go.Proofs.Ytogfpalgnjlfcaa
set_option linter.unusedSimpArgs false
set_option linter.unusedVariables false
open Go.RowKit

/-- Block C is a dice over v. -/
def IsDie (w : World) (C : Nat) (v : Value) (n : Nat) : Prop := ∃ i : Nat, ∃ h : Int, Arr w C 60 [v, .int .i64 i, .int .u64 h] ∧ i ≤ n
/-- A dice, the bytes that it runs over, and where they lie. -/
structure Die (w : World) (C : Nat) (v : Value) (n : Nat) : Prop where
  cur : IsDie w C v n
  bytes : Bytes w v n
  len : n ≤ 4096
  apart : ∀ A k c, v = .slice (some A) k c → n = 0 ∨ A.block ≠ C
/-- What a draw does: new memory, and the dice's own block. -/
def Rolled (w w' : World) (C : Nat) (v : Value) (n : Nat) : Prop := Die w' C v n ∧ Chg (fun b => b = C) w w'
theorem Rolled.trans {w w1 w2 : World} {C n : Nat} {v : Value} (h : Rolled w w1 C v n) (k : Rolled w1 w2 C v n) : Rolled w w2 C v n := ⟨k.1, h.2.trans k.2⟩
theorem Rolled.refl {w : World} {C n : Nat} {v : Value} (h : Die w C v n) : Rolled w w C v n := ⟨h, Chg.refl _ _⟩
theorem Die.lt {w : World} {C n : Nat} {v : Value} (h : Die w C v n) : C < w.heap.size := by
  obtain ⟨⟨i, x, hC, _⟩, _⟩ := h
  exact hC.lt
theorem Die.below {w w' : World} {C n : Nat} {v : Value} (h : Die w C v n) (hb : Below w.heap.size w w') : Die w' C v n := by
  obtain ⟨⟨i, x, hC, hi⟩, h2, h3, h4⟩ := h
  exact ⟨⟨i, x, hC.below hb hC.lt, hi⟩, h2.kept (Kept.of hb), h3, h4⟩
theorem Rolled.below {w w1 w2 : World} {C n : Nat} {v : Value} (h : Rolled w w1 C v n) (hb : Below w1.heap.size w1 w2) : Rolled w w2 C v n := ⟨h.1.below hb, h.2.below hb⟩
theorem Die.drew {w : World} {C n : Nat} {v : Value} (h : Die w C v n) : Die w.drew C v n := by
  obtain ⟨⟨i, x, hC, hi⟩, h2, h3, h4⟩ := h
  exact ⟨⟨i, x, hC, hi⟩, h2.kept (fun _ _ => rfl), h3, h4⟩
theorem Rolled.drew {w w1 : World} {C n : Nat} {v : Value} (h : Rolled w w1 C v n) : Rolled w w1.drew C v n := ⟨h.1.drew, h.2.drew⟩
theorem Rolled.undrew {w w1 : World} {C n : Nat} {v : Value} (h : Rolled w.drew w1 C v n) : Rolled w w1 C v n := ⟨h.1, ⟨h.2.os, h.2.tape, h.2.output, h.2.size, h.2.block⟩⟩
theorem Rolled.grown {w w1 w2 : World} {C n : Nat} {v : Value} {row : Option Nat} (hc : Die w C v n) (h : Rolled w w1 C v n) (k : w1.grownBy w2 row) (hr : ∀ r, row = some r → w.heap.size ≤ r) : Rolled w w2 C v n := by
  have hch : Chg (fun b => b = C) w w2 := ⟨k.os.trans h.2.os, k.tape.trans h.2.tape, k.output.trans h.2.output, Nat.le_trans h.2.size k.size, fun i hi hne => (k.block i (Nat.lt_of_lt_of_le hi h.2.size) (fun e => by have := hr i e.symm; omega)).trans (h.2.block i hi hne)⟩
  obtain ⟨⟨i, x, hC, hi⟩, _⟩ := h.1
  have hCl := hc.lt
  exact ⟨⟨⟨i, x, (k.block C hC.lt (fun e => by have := hr C e.symm; omega)).trans hC, hi⟩, hc.bytes.chg hch hc.apart, hc.len, hc.apart⟩, hch⟩
theorem Rolled.setCell {w w1 : World} {C n : Nat} {v : Value} {p : Addr} (hc : Die w C v n) (h : Rolled w w1 C v n) (hp : w.heap.size ≤ p.block) (u : Value) : Rolled w (w1.setCell p u) C v n :=
  have hCl := hc.lt
  have hch : Chg (fun b => b = C) w (w1.setCell p u) := ⟨h.2.os, h.2.tape, h.2.output, by simpa using h.2.size, fun i hi hne => (Below.heap_setCell _ _ _ _ (by omega)).trans (h.2.block i hi hne)⟩
  have hcur : IsDie (w1.setCell p u) C v n := by
    obtain ⟨⟨i, x, hC, hi⟩, _⟩ := h.1
    exact ⟨i, x, hC.far (by omega) u, hi⟩
  ⟨⟨hcur, hc.bytes.chg hch hc.apart, hc.len, hc.apart⟩, hch⟩
/-- What lies behind the dice is as it was. -/
theorem Rolled.far {w w' : World} {C n B : Nat} {v : Value} (h : Rolled w w' C v n) (hB : C < B) (b : Nat) (hb : B ≤ b) (hlt : b < w.heap.size) : w'.heap[b]? = w.heap[b]? := h.2.block b hlt (by omega)
theorem u64_and24 (n : Int) : bits .and .u64 n 16777215 = n % 16777216 := by
  have h127 : (BitVec.ofInt 64 16777215).toNat = 2 ^ 24 - 1 := by decide
  have key : (BitVec.ofInt 64 n &&& BitVec.ofInt 64 16777215).toNat = (n % ((2 ^ 64 : Nat) : Int)).toNat % 2 ^ 24 := by
    rw [BitVec.toNat_and, BitVec.toNat_ofInt, h127, Nat.and_two_pow_sub_one_eq_mod]
  show IntKind.u64.wrap ((BitVec.ofInt 64 n &&& BitVec.ofInt 64 16777215).toNat : Nat) = n % 16777216
  rw [key, IntKind.wrap_u64]
  omega
/-- A row of one number, made now. -/
theorem one_ints (w : World) (y : Int) : Ints (w.alloc (.cells #[.int .i64 y] 2)) (.slice (some ⟨w.heap.size, 0, none⟩) 1 1) [y] ∧ Below w.heap.size w (w.alloc (.cells #[.int .i64 y] 2)) :=
  ⟨IArr.one_ints (x := y) (Arr.new w 2 [.int .i64 y]), (Below.refl w.heap.size w).alloc (Nat.le_refl _) (.cells #[.int .i64 y] 2)⟩
set_option maxRecDepth 100000 in
set_option maxHeartbeats 1000000 in
theorem below_any (C : Nat) (v : Value) (n : Nat) (m : Int) (w : World) (hc : Die w C v n) (hm : 1 ≤ m) (hm2 : m ≤ 1048576) :
    Calls Try.prog 11 #[.pointer (some ⟨C, 0, none⟩), .int .i64 m] w fun e w' => ∃ x : Int, e = .returned (.int .i64 x) ∧ 0 ≤ x ∧ x < m ∧ Rolled w w' C v n := by
  obtain ⟨⟨i, h, hC, hin⟩, hb, hn, hap⟩ := hc
  have hc2 := hC.c2
  have hf2 := hC.frozen 2
  obtain ⟨BA, bc, rfl, hbl, hbm⟩ := hb.form
  go_enter Try.func11, Try.ntmps11
  go_wp2
  clear hc2 hf2
  generalize IntKind.u64.wrap (IntKind.u64.wrap (h * 6364136223846793005) + 1442695040888963407) = h2 at *
  have hC1 : Arr (w.setCell ⟨C, 2, none⟩ (.int .u64 h2)) C 60 [.slice BA n bc, .int .i64 i, .int .u64 h2] := hC.set_ 2 (.int .u64 h2)
  have hch : Chg (fun b => b = C) w (w.setCell ⟨C, 2, none⟩ (.int .u64 h2)) := ⟨rfl, rfl, rfl, by simp, fun k _ hne => Below.heap_setCell _ _ _ _ (fun e => hne e)⟩
  generalize w.setCell ⟨C, 2, none⟩ (.int .u64 h2) = w1 at *
  have hb1 := hb.chg hch hap
  have hc2 := hC1.c2
  have hc1 := hC1.c1
  have hc0 := hC1.c0
  have hf1 := hC1.frozen 1
  have hm0 : ¬ m = 0 := by omega
  obtain ⟨x3, hx3, hx0, hx1⟩ : ∃ x3, wrap64 (bits .and .u64 (h2 / 8589934592) 16777215) = x3 ∧ 0 ≤ x3 ∧ x3 < 16777216 := ⟨_, rfl, by rw [u64_and24]; unfold wrap64; omega, by rw [u64_and24]; unfold wrap64; omega⟩
  rw [hx3]
  clear hx3
  by_cases hlt : i < n
  · have hlt2 : (i : Int) < n := by omega
    obtain ⟨ad, y, ea, hcy, hy0, hy1⟩ := hb1.at_ hlt
    cases ea
    have hr0 := Int.emod_nonneg (x3 + y) (show m ≠ 0 by omega)
    have hr1 := Int.emod_lt_of_pos (x3 + y) (show 0 < m by omega)
    go_region
    all_goals
      go_wp2
      go_region
      all_goals
        go_wp2
        go_ret
        have hC2 : Arr (w1.setCell ⟨C, 1, none⟩ (.int .i64 ((i : Int) + 1))) C 60 [.slice (some ad) n bc, .int .i64 ((i : Int) + 1), .int .u64 h2] := hC1.set_ 1 (.int .i64 ((i : Int) + 1))
        have hch2 : Chg (fun b => b = C) w (w1.setCell ⟨C, 1, none⟩ (.int .i64 ((i : Int) + 1))) := hch.trans ⟨rfl, rfl, rfl, by simp, fun k _ hne => Below.heap_setCell _ _ _ _ (fun e => hne e)⟩
        refine ⟨_, rfl, hr0, hr1, ⟨⟨⟨i + 1, h2, ?_, by omega⟩, hb.chg hch2.drew.drew hap, hn, hap⟩, hch2.drew.drew⟩⟩
        rw [show ((i + 1 : Nat) : Int) = (i : Int) + 1 by omega]
        exact hC2
  · have hlt2 : ¬ (i : Int) < n := by omega
    have hr0 := Int.emod_nonneg x3 (show m ≠ 0 by omega)
    have hr1 := Int.emod_lt_of_pos x3 (show 0 < m by omega)
    go_region
    all_goals
      go_wp2
      go_ret
      exact ⟨_, rfl, hr0, hr1, ⟨⟨⟨i, h2, hC1, hin⟩, hb.chg hch.drew hap, hn, hap⟩, hch.drew⟩⟩
end Go.Proofs.Ytogfpalgnjlfcaa
