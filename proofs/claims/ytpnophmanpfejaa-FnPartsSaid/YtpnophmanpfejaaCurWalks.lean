/- The draws of the reference: a cursor over bytes. What they give back lies within bounds. -/
import Derived.Test.YtpnophmanpfejaaPkA
import Derived.Test.YtpnophmanpfejaaPkB
import Derived.BigRegion
namespace Go.Proofs.Ytpnophmanpfejaa
set_option linter.unusedSimpArgs false
set_option linter.unusedVariables false
open Go.RowKit

/-- v is a slice of n bytes. -/
def Bytes (w : World) (v : Value) (n : Nat) : Prop := ∃ f : Nat → Int, SlF w v n (fun k => .int .u8 (f k)) ∧ ∀ k, 0 ≤ f k ∧ f k ≤ 255
theorem Bytes.kept {w w' : World} {v : Value} {n : Nat} (h : Bytes w v n) (hk : Kept w w') : Bytes w' v n := by
  obtain ⟨f, h1, h2⟩ := h
  exact ⟨f, h1.kept hk, h2⟩
theorem cell_heap {w w' : World} {p : Addr} (h : w'.heap[p.block]? = w.heap[p.block]?) : w'.cell? p = w.cell? p := by
  unfold World.cell?
  rw [h]
theorem Bytes.chg {w w' : World} {v : Value} {n C : Nat} (h : Bytes w v n) (hc : Chg (fun b => b = C) w w') (hbC : ∀ A k c, v = .slice (some A) k c → n = 0 ∨ A.block ≠ C) : Bytes w' v n := by
  obtain ⟨f, ⟨A, c, rfl, h1, h2, h3⟩, h4⟩ := h
  refine ⟨f, ⟨A, c, rfl, h1, h2, fun k hk => ?_⟩, h4⟩
  obtain ⟨ad, rfl, hcl⟩ := h3 k hk
  refine ⟨ad, rfl, ?_⟩
  have hlt := World.block_lt_of_cell? w _ hcl
  rw [block_of_add] at hlt
  rw [← hcl]
  refine cell_heap ?_
  rw [block_of_add]
  exact hc.block _ hlt ((hbC ad n c rfl).resolve_left (by omega))
theorem Bytes.form {w : World} {v : Value} {n : Nat} (h : Bytes w v n) : ∃ A c, v = .slice A n c ∧ n ≤ c ∧ c ≤ 9223372036854775807 := by
  obtain ⟨f, ⟨A, c, h0, h1, h2, h3⟩, h4⟩ := h
  exact ⟨A, c, h0, h1, h2⟩
theorem Bytes.at_ {w : World} {A : Option Addr} {n c k : Nat} (h : Bytes w (.slice A n c) n) (hk : k < n) : ∃ ad y, A = some ad ∧ w.cell? (ad.add k) = some (.int .u8 y) ∧ 0 ≤ y ∧ y ≤ 255 := by
  obtain ⟨f, h1, h4⟩ := h
  obtain ⟨ad, e, hc⟩ := SlF.at_ h1 hk
  exact ⟨ad, f k, e, hc, h4 k⟩
theorem i64_and255 (n : Int) : bits .and .i64 n 255 = n % 256 := by
  have h127 : (BitVec.ofInt 64 255).toNat = 2 ^ 8 - 1 := by decide
  have key : (BitVec.ofInt 64 n &&& BitVec.ofInt 64 255).toNat = (n % ((2 ^ 64 : Nat) : Int)).toNat % 2 ^ 8 := by
    rw [BitVec.toNat_and, BitVec.toNat_ofInt, h127, Nat.and_two_pow_sub_one_eq_mod]
  show IntKind.i64.wrap ((BitVec.ofInt 64 n &&& BitVec.ofInt 64 255).toNat : Nat) = n % 256
  rw [key, IntKind.wrap_i64]
  omega
/-- Block C is a cursor over v. -/
def IsCur (w : World) (C : Nat) (v : Value) (n : Nat) : Prop := ∃ i : Nat, ∃ h : Int, Arr w C 114 [v, .int .i64 i, .int .i64 h] ∧ i ≤ n
/-- A cursor, the bytes that it runs over, and where they lie. -/
structure Cur (w : World) (C : Nat) (v : Value) (n : Nat) : Prop where
  cur : IsCur w C v n
  bytes : Bytes w v n
  len : n ≤ 4096
  apart : ∀ A k c, v = .slice (some A) k c → n = 0 ∨ A.block ≠ C
/-- What a draw does: new memory, and the cursor's own block. -/
def Drawn (w w' : World) (C : Nat) (v : Value) (n : Nat) : Prop := Cur w' C v n ∧ Chg (fun b => b = C) w w'
set_option maxRecDepth 100000 in
set_option maxHeartbeats 1000000 in
theorem l1Byte_any (C : Nat) (v : Value) (n : Nat) (w : World) (hc : Cur w C v n) :
    Calls Try.prog 153 #[.pointer (some ⟨C, 0, none⟩)] w fun e w' => ∃ x : Int, e = .returned (.int .i64 x) ∧ 0 ≤ x ∧ x ≤ 255 ∧ Drawn w w' C v n := by
  obtain ⟨⟨i, h, hC, hin⟩, hb, hn, hap⟩ := hc
  have hc2 := hC.c2
  have hf2 := hC.frozen 2
  obtain ⟨BA, bc, rfl, hbl, hbm⟩ := hb.form
  go_enter Try.func153, Try.ntmps153
  go_wp2
  clear hc2 hf2
  generalize wrap64 (wrap64 (h * 6364136223846793005) + 1442695040888963407) = h2 at *
  have hC1 : Arr (w.setCell ⟨C, 2, none⟩ (.int .i64 h2)) C 114 [.slice BA n bc, .int .i64 i, .int .i64 h2] := hC.set_ 2 (.int .i64 h2)
  have hch : Chg (fun b => b = C) w (w.setCell ⟨C, 2, none⟩ (.int .i64 h2)) := ⟨rfl, rfl, rfl, by simp, fun k _ hne => Below.heap_setCell _ _ _ _ (fun e => hne e)⟩
  generalize w.setCell ⟨C, 2, none⟩ (.int .i64 h2) = w1 at *
  have hb1 := hb.chg hch hap
  have hc2 := hC1.c2
  have hc1 := hC1.c1
  have hc0 := hC1.c0
  have hf1 := hC1.frozen 1
  go_region
  all_goals
    go_wp2
    generalize hx3 : bits .and .i64 (bits .xor .i64 (h2 / 8589934592) (h2 / 35184372088832)) 255 = x3
    have hx0 : 0 ≤ x3 := by rw [← hx3, i64_and255]; omega
    have hx1 : x3 ≤ 255 := by rw [← hx3, i64_and255]; omega
    clear hx3
    by_cases hlt : i < n
    · have hlt2 : (i : Int) < n := by omega
      obtain ⟨ad, y, ea, hcy, hy0, hy1⟩ := hb1.at_ hlt
      cases ea
      go_region
      all_goals
        go_wp2
        go_region
        all_goals
          go_wp2
          go_ret
          have hC2 : Arr (w1.setCell ⟨C, 1, none⟩ (.int .i64 ((i : Int) + 1))) C 114 [.slice (some ad) n bc, .int .i64 ((i : Int) + 1), .int .i64 h2] := hC1.set_ 1 (.int .i64 ((i : Int) + 1))
          have hch2 : Chg (fun b => b = C) w (w1.setCell ⟨C, 1, none⟩ (.int .i64 ((i : Int) + 1))) := hch.trans ⟨rfl, rfl, rfl, by simp, fun k _ hne => Below.heap_setCell _ _ _ _ (fun e => hne e)⟩
          refine ⟨_, rfl, by rw [i64_and255]; omega, by rw [i64_and255]; omega, ⟨⟨⟨i + 1, h2, ?_, by omega⟩, hb.chg hch2.drew.drew.drew hap, hn, hap⟩, hch2.drew.drew.drew⟩⟩
          rw [show ((i + 1 : Nat) : Int) = (i : Int) + 1 by omega]
          exact hC2
    · have hlt2 : ¬ (i : Int) < n := by omega
      go_region
      all_goals
        go_wp2
        go_ret
        exact ⟨_, rfl, hx0, hx1, ⟨⟨⟨i, h2, hC1, hin⟩, hb.chg hch.drew.drew hap, hn, hap⟩, hch.drew.drew⟩⟩
theorem Drawn.trans {w w1 w2 : World} {C n : Nat} {v : Value} (h : Drawn w w1 C v n) (k : Drawn w1 w2 C v n) : Drawn w w2 C v n := ⟨k.1, h.2.trans k.2⟩
theorem Drawn.refl {w : World} {C n : Nat} {v : Value} (h : Cur w C v n) : Drawn w w C v n := ⟨h, Chg.refl _ _⟩
theorem Cur.lt {w : World} {C n : Nat} {v : Value} (h : Cur w C v n) : C < w.heap.size := by
  obtain ⟨⟨i, x, hC, _⟩, _⟩ := h
  exact hC.lt
theorem Cur.below {w w' : World} {C n : Nat} {v : Value} (h : Cur w C v n) (hb : Below w.heap.size w w') : Cur w' C v n := by
  obtain ⟨⟨i, x, hC, hi⟩, h2, h3, h4⟩ := h
  exact ⟨⟨i, x, hC.below hb hC.lt, hi⟩, h2.kept (Kept.of hb), h3, h4⟩
theorem Drawn.below {w w1 w2 : World} {C n : Nat} {v : Value} (h : Drawn w w1 C v n) (hb : Below w1.heap.size w1 w2) : Drawn w w2 C v n := ⟨h.1.below hb, h.2.below hb⟩

set_option maxRecDepth 100000 in
set_option maxHeartbeats 1000000 in
theorem l1Below_any (C : Nat) (v : Value) (n : Nat) (m : Int) (w : World) (hc : Cur w C v n) :
    Calls Try.prog 114 #[.pointer (some ⟨C, 0, none⟩), .int .i64 m] w fun e w' => ∃ x : Int, e = .returned (.int .i64 x) ∧ 0 ≤ x ∧ (m ≤ 0 → x = 0) ∧ (0 < m → x < m) ∧ Drawn w w' C v n := by
  by_cases h0 : m ≤ 0
  · go_enter Try.func114, Try.ntmps114
    go_wp2
    go_ret
    exact ⟨0, rfl, by omega, fun _ => rfl, fun h => by omega, .refl hc⟩
  · by_cases h1 : m ≤ 256
    · have hm : 0 < m := by omega
      go_enter Try.func114, Try.ntmps114
      go_wp2_with fail
      refine (l1Byte_any C v n _ hc).mono ?_
      rintro e w1 ⟨x, rfl, hx0, hx1, hd⟩
      have hr0 := Int.emod_nonneg x (show m ≠ 0 by omega)
      have hr1 := Int.emod_lt_of_pos x hm
      go_wp2
      go_ret
      exact ⟨_, rfl, hr0, fun h => by omega, fun _ => hr1, hd⟩
    · have hm : 0 < m := by omega
      go_enter Try.func114, Try.ntmps114
      go_wp2_with fail
      refine (l1Byte_any C v n _ hc).mono ?_
      rintro e w1 ⟨x, rfl, hx0, hx1, hd1⟩
      go_wp2_with fail
      refine (l1Byte_any C v n _ hd1.1).mono ?_
      rintro e w2 ⟨y, rfl, hy0, hy1, hd2⟩
      go_wp2_with fail
      refine (l1Byte_any C v n _ hd2.1).mono ?_
      rintro e w3 ⟨z, rfl, hz0, hz1, hd3⟩
      go_wp2_with fail
      refine (l1Byte_any C v n _ hd3.1).mono ?_
      rintro e w4 ⟨u, rfl, hu0, hu1, hd4⟩
      have hr0 := Int.emod_nonneg (x * 16777216 + y * 65536 + z * 256 + u) (show m ≠ 0 by omega)
      have hr1 := Int.emod_lt_of_pos (x * 16777216 + y * 65536 + z * 256 + u) hm
      go_wp2
      go_ret
      exact ⟨_, rfl, hr0, fun h => by omega, fun _ => hr1, ((hd1.trans hd2).trans hd3).trans hd4⟩
theorem l1Once_any (C : Nat) (v : Value) (n : Nat) (m : Int) (w : World) (hc : Cur w C v n) :
    Calls Try.prog 113 #[.pointer (some ⟨C, 0, none⟩), .int .i64 m] w fun e w' => ∃ b : Bool, e = .returned (.bool b) ∧ Drawn w w' C v n := by
  go_enter Try.func113, Try.ntmps113
  go_wp2_with fail
  refine (l1Below_any C v n m _ hc).mono ?_
  rintro e w1 ⟨x, rfl, _, _, _, hd⟩
  go_wp2
  go_ret
  exact ⟨_, rfl, hd⟩
theorem l1From_any (C : Nat) (v : Value) (n : Nat) (lo hi : Int) (w : World) (hc : Cur w C v n) (h1 : -1099511627776 ≤ lo ∧ lo ≤ 1099511627776) (h2 : -1099511627776 ≤ hi ∧ hi ≤ 1099511627776) :
    Calls Try.prog 151 #[.pointer (some ⟨C, 0, none⟩), .int .i64 lo, .int .i64 hi] w fun e w' => ∃ x : Int, e = .returned (.int .i64 x) ∧ lo ≤ x ∧ (lo ≤ hi → x ≤ hi) ∧ (hi < lo → x = lo) ∧ Drawn w w' C v n := by
  go_enter Try.func151, Try.ntmps151
  go_wp2_with fail
  refine (l1Below_any C v n (hi - lo + 1) _ hc).mono ?_
  rintro e w1 ⟨x, rfl, hx0, hx1, hx2, hd⟩
  have hxb : x ≤ 4398046511104 := by
    by_cases h : 0 < hi - lo + 1
    · have := hx2 h; omega
    · have := hx1 (by omega); omega
  go_wp2
  go_ret
  exact ⟨_, rfl, by omega, fun h => by have := hx2 (by omega); omega, fun h => by have := hx1 (by omega); omega, hd⟩
theorem Drawn.grown {w w1 w2 : World} {C n : Nat} {v : Value} {row : Option Nat} (hc : Cur w C v n) (h : Drawn w w1 C v n) (k : w1.grownBy w2 row) (hr : ∀ r, row = some r → w.heap.size ≤ r) : Drawn w w2 C v n := by
  have hch : Chg (fun b => b = C) w w2 := ⟨k.os.trans h.2.os, k.tape.trans h.2.tape, k.output.trans h.2.output, Nat.le_trans h.2.size k.size, fun i hi hne => (k.block i (Nat.lt_of_lt_of_le hi h.2.size) (fun e => by have := hr i e.symm; omega)).trans (h.2.block i hi hne)⟩
  obtain ⟨⟨i, x, hC, hi⟩, _⟩ := h.1
  have hCl := hc.lt
  exact ⟨⟨⟨i, x, (k.block C hC.lt (fun e => by have := hr C e.symm; omega)).trans hC, hi⟩, hc.bytes.chg hch hc.apart, hc.len, hc.apart⟩, hch⟩
theorem own_some {b : Nat} {v v' : Value} (h : v'.ownBlock = v.ownBlock ∨ v'.ownBlock = some b) (hv : v.ownBlock ≠ none) : v'.ownBlock ≠ none := by
  rcases h with h | h
  · rw [h]; exact hv
  · rw [h]; simp
theorem Ints.chg {w w' : World} {v : Value} {l : List Int} {S : Nat → Prop} (h : Ints w v l) (hc : Chg S w w') (hS : ∀ A k c, v = .slice (some A) k c → ¬ S A.block) : Ints w' v l := by
  obtain ⟨A, c, rfl, h1, h2, h3⟩ := h
  refine ⟨A, c, rfl, h1, h2, fun k hk => ?_⟩
  obtain ⟨ad, rfl, hcl⟩ := h3 k hk
  refine ⟨ad, rfl, ?_⟩
  have hlt := World.block_lt_of_cell? w _ hcl
  rw [block_of_add] at hlt
  rw [← hcl]
  refine cell_heap ?_
  rw [block_of_add]
  exact hc.block _ hlt (hS ad _ c rfl)
theorem odd_at (k : Nat) (hk : k < 10) : ∃ y : Int, [Value.int .i64 (-1), .int .i64 0, .int .i64 1, .int .i64 2147483648, .int .i64 (-2147483648), .int .i64 1099511627776, .int .i64 4611686018427387904, .int .i64 (-4611686018427387904), .int .i64 9223372036854775807, .int .i64 (-9223372036854775808)][k]? = some (.int .i64 y) ∧ -9223372036854775808 ≤ y ∧ y ≤ 9223372036854775807 := by
  have h : k = 0 ∨ k = 1 ∨ k = 2 ∨ k = 3 ∨ k = 4 ∨ k = 5 ∨ k = 6 ∨ k = 7 ∨ k = 8 ∨ k = 9 := by omega
  rcases h with rfl | rfl | rfl | rfl | rfl | rfl | rfl | rfl | rfl | rfl <;> exact ⟨_, rfl, by omega, by omega⟩
set_option maxRecDepth 100000 in
set_option maxHeartbeats 1000000 in
theorem l1Odd_any (C : Nat) (v : Value) (n : Nat) (w : World) (hc : Cur w C v n) :
    Calls Try.prog 148 #[.pointer (some ⟨C, 0, none⟩)] w fun e w' => ∃ x : Int, e = .returned (.int .i64 x) ∧ -9223372036854775808 ≤ x ∧ x ≤ 9223372036854775807 ∧ Drawn w w' C v n := by
  have hA := Arr.new w 2 [Value.int .i64 (-1), .int .i64 0, .int .i64 1, .int .i64 2147483648, .int .i64 (-2147483648), .int .i64 1099511627776, .int .i64 4611686018427387904, .int .i64 (-4611686018427387904), .int .i64 9223372036854775807, .int .i64 (-9223372036854775808)]
  have hbn := (Below.refl w.heap.size w).alloc (Nat.le_refl _) (.cells #[Value.int .i64 (-1), .int .i64 0, .int .i64 1, .int .i64 2147483648, .int .i64 (-2147483648), .int .i64 1099511627776, .int .i64 4611686018427387904, .int .i64 (-4611686018427387904), .int .i64 9223372036854775807, .int .i64 (-9223372036854775808)] 2)
  have hCl := hc.lt
  go_enter Try.func148, Try.ntmps148
  go_wp2_with fail
  generalize w.alloc (.cells #[Value.int .i64 (-1), .int .i64 0, .int .i64 1, .int .i64 2147483648, .int .i64 (-2147483648), .int .i64 1099511627776, .int .i64 4611686018427387904, .int .i64 (-4611686018427387904), .int .i64 9223372036854775807, .int .i64 (-9223372036854775808)] 2) = w0 at *
  refine (l1Below_any C v n 10 _ (hc.below hbn)).mono ?_
  rintro e w1 ⟨x, rfl, hx0, _, hx1, hd⟩
  obtain ⟨k, rfl⟩ : ∃ k : Nat, x = (k : Int) := ⟨x.toNat, by omega⟩
  have hk : k < 10 := by have := hx1 (by omega); omega
  have hk2 : (k : Int) < 10 := by omega
  have hA1 := (hd.2.block w.heap.size hA.lt (by omega)).trans hA
  replace hA1 : Arr w1 w.heap.size _ _ := hA1
  obtain ⟨y, hy, hy0, hy1⟩ := odd_at k hk
  have hcell := hA1.cell (k := k) (by simpa using hk)
  rw [List.getElem?_eq_getElem (by simpa using hk)] at hy
  rw [Option.some.inj hy] at hcell
  have hd2 := (Drawn.below (.refl hc) hbn).trans hd
  clear hA hA1 hy hbn hx1
  go_wp2
  go_ret
  exact ⟨_, rfl, hy0, hy1, hd2⟩
theorem l1Min_any (a b : Int) (w : World) : Calls Try.prog 167 #[.int .i64 a, .int .i64 b] w fun e w' => e = .returned (.int .i64 (min a b)) ∧ w' = w := by
  by_cases h : a < b
  · have hm : min a b = a := by omega
    rw [hm]; clear hm
    go_enter Try.func167, Try.ntmps167
    go_wp2
    go_ret
    exact ⟨rfl, rfl⟩
  · have hm : min a b = b := by omega
    rw [hm]; clear hm
    go_enter Try.func167, Try.ntmps167
    go_wp2
    go_ret
    exact ⟨rfl, rfl⟩
theorem four_at (a b c d : Int) (k : Nat) (hk : k < 4) : ∃ y : Int, [Value.int .i64 a, .int .i64 b, .int .i64 c, .int .i64 d][k]? = some (.int .i64 y) ∧ (y = a ∨ y = b ∨ y = c ∨ y = d) := by
  have h : k = 0 ∨ k = 1 ∨ k = 2 ∨ k = 3 := by omega
  rcases h with rfl | rfl | rfl | rfl
  · exact ⟨a, rfl, by simp⟩
  · exact ⟨b, rfl, by simp⟩
  · exact ⟨c, rfl, by simp⟩
  · exact ⟨d, rfl, by simp⟩
set_option maxRecDepth 100000 in
set_option maxHeartbeats 1000000 in
theorem l1Num_any (C : Nat) (v : Value) (n : Nat) (most : Int) (w : World) (hc : Cur w C v n) (h0 : -1 ≤ most) (h1 : most ≤ 1099511627776) :
    Calls Try.prog 152 #[.pointer (some ⟨C, 0, none⟩), .int .i64 most] w fun e w' => ∃ x : Int, e = .returned (.int .i64 x) ∧ -9223372036854775808 ≤ x ∧ x ≤ 9223372036854775807 ∧ Drawn w w' C v n := by
  go_enter Try.func152, Try.ntmps152
  go_wp2_with fail
  refine (l1Once_any C v n 10 _ hc).mono ?_
  rintro e w1 ⟨b, rfl, hd1⟩
  cases b
  · go_wp2_with fail
    refine (l1Once_any C v n 2 _ hd1.1).mono ?_
    rintro e w2 ⟨b, rfl, hd2⟩
    cases b
    · go_wp2_with fail
      refine (l1Below_any C v n (most + 1) _ hd2.1).mono ?_
      rintro e w3 ⟨x, rfl, hx0, hx2, hx1, hd3⟩
      have hxb : x ≤ 9223372036854775807 := by
        by_cases h : 0 < most + 1
        · have := hx1 h; omega
        · have := hx2 (by omega); omega
      go_wp2
      go_ret
      exact ⟨_, rfl, by omega, hxb, (hd1.trans hd2).trans hd3⟩
    · go_wp2_with fail
      refine (l1Min_any most 4 _).mono ?_
      rintro e w4 ⟨rfl, hw4⟩
      subst w4
      have hm : -1 ≤ min most 4 ∧ min most 4 ≤ 4 := by omega
      obtain ⟨hm0, hm1⟩ := hm
      generalize min most 4 = mm at *
      go_wp2_with fail
      refine (l1Below_any C v n (mm + 1) _ hd2.1).mono ?_
      rintro e w3 ⟨x, rfl, hx0, hx2, hx1, hd3⟩
      have hxb : x ≤ 9223372036854775807 := by
        by_cases h : 0 < mm + 1
        · have := hx1 h; omega
        · have := hx2 (by omega); omega
      go_wp2
      go_ret
      exact ⟨_, rfl, by omega, hxb, (hd1.trans hd2).trans hd3⟩
  · go_wp2_with fail
    refine (l1Odd_any C v n _ hd1.1).mono ?_
    rintro e w2 ⟨y, rfl, hy0, hy1, hd2⟩
    have hA := Arr.new w2 2 [Value.int .i64 (-1), .int .i64 most, .int .i64 (most + 1), .int .i64 y]
    have hbn := (Below.refl w2.heap.size w2).alloc (Nat.le_refl _) (.cells #[Value.int .i64 (-1), .int .i64 most, .int .i64 (most + 1), .int .i64 y] 2)
    have hCl := hd2.1.lt
    go_wp2_with fail
    generalize w2.alloc (.cells #[Value.int .i64 (-1), .int .i64 most, .int .i64 (most + 1), .int .i64 y] 2) = w0 at *
    refine (l1Below_any C v n 4 _ (hd2.1.below hbn)).mono ?_
    rintro e w3 ⟨x, rfl, hx0, _, hx1, hd⟩
    obtain ⟨k, rfl⟩ : ∃ k : Nat, x = (k : Int) := ⟨x.toNat, by omega⟩
    have hk : k < 4 := by have := hx1 (by omega); omega
    have hk2 : (k : Int) < 4 := by omega
    have hA1 := (hd.2.block w2.heap.size hA.lt (by omega)).trans hA
    replace hA1 : Arr w3 w2.heap.size _ _ := hA1
    obtain ⟨z, hz, hzz⟩ := four_at (-1) most (most + 1) y k hk
    have hcell := hA1.cell (k := k) (by simpa using hk)
    rw [List.getElem?_eq_getElem (by simpa using hk)] at hz
    rw [Option.some.inj hz] at hcell
    have hzb : -9223372036854775808 ≤ z ∧ z ≤ 9223372036854775807 := by omega
    have hd3 := (Drawn.below (hd1.trans hd2) hbn).trans hd
    clear hA hA1 hz hbn hx1 hzz
    go_wp2
    go_ret
    exact ⟨_, rfl, hzb.1, hzb.2, hd3⟩
set_option maxRecDepth 100000 in
set_option maxHeartbeats 2000000 in
theorem l1DrawSet_any (C : Nat) (v : Value) (n m : Nat) (w : World) (hc : Cur w C v n) (hm : m ≤ 1048576) :
    Calls Try.prog 115 #[.pointer (some ⟨C, 0, none⟩), .int .i64 (m : Int)] w fun e w' => ∃ u l, e = .returned u ∧ OwnInts w' w.heap.size u l ∧ l.length ≤ m + 1 ∧ u.ownBlock ≠ none ∧ Drawn w w' C v n := by
  obtain ⟨hown0, hbn⟩ := new_ints w
  go_enter Try.func115, Try.ntmps115
  go_wp2_with fail
  have hd0 := Drawn.below (.refl hc) hbn
  have hnn0 : (Value.slice (some ⟨w.heap.size, 0, none⟩) 0 0).ownBlock ≠ none := by simp [Value.ownBlock]
  generalize w.alloc (.cells #[] 2) = w0 at *
  go_loopw [5, 6] (fun qv i wr => ∃ (k : Nat) (l : List Int), k ≤ m ∧ i = .int .i64 k ∧ OwnInts wr w.heap.size qv l ∧ l.length ≤ k ∧ qv.ownBlock ≠ none ∧ Drawn w wr C v n) (fun _ i _ => m - (intOf i).toNat)
  case atStart => exact ⟨0, [], Nat.zero_le _, rfl, hown0, Nat.le_refl _, hnn0, hd0⟩
  case round =>
    obtain ⟨k, l, hk, rfl, hown, hl, hnn, hd⟩ := hrel
    by_cases hlt : k < m
    · have hlt2 : (k : Int) < m := by omega
      go_wp2_with fail
      refine (l1Once_any C v n 2 _ hd.1).mono ?_
      rintro e w1 ⟨b, rfl, hd1⟩
      have hown1 : OwnInts w1 w.heap.size u5 l := ((OI.of hown).chg hd1.2 fun b hb e => by have := (hown.lt b hb).1; have := hc.lt; omega).1
      have hdd := hd.trans hd1
      have hbs := hdd.2.size
      cases b
      · go_wp2
        exact ⟨⟨k + 1, l, by omega, by go_num, hown1, by omega, hnn, hdd⟩, by simp [intOf]; omega⟩
      · go_wp2_with (at_builtin; refine append_int w1 rfl (.tmp 15) (.tmp 17) rfl w.heap.size u5 l rfl hown1 (k : Int) rfl (by omega) hbs ?_; intro v1 w8 ho8 hb8 hg8 hl8)
        exact ⟨⟨k + 1, l ++ [(k : Int)], by omega, by go_num, ho8, by simp; omega, own_some hl8 hnn, hdd.grown hc hg8 fun r hr => (hown1.lt r hr).1⟩, by simp [intOf]; omega⟩
    · obtain rfl : k = m := by omega
      have hlt2 : ¬ (k : Int) < k := by omega
      go_wp2_with fail
      refine (l1Once_any C v n 12 _ hd.1).mono ?_
      rintro e w1 ⟨b, rfl, hd1⟩
      have hown1 : OwnInts w1 w.heap.size u5 l := ((OI.of hown).chg hd1.2 fun b hb e => by have := (hown.lt b hb).1; have := hc.lt; omega).1
      have hdd := hd.trans hd1
      cases b
      · go_wp2
        go_ret
        exact ⟨_, l, rfl, hown1, by omega, hnn, hdd⟩
      · go_wp2_with fail
        refine (l1Num_any C v n (k : Int) _ hdd.1 (by omega) (by omega)).mono ?_
        rintro e w2 ⟨x, rfl, hx0, hx1, hd2⟩
        have hown2 : OwnInts w2 w.heap.size u5 l := ((OI.of hown1).chg hd2.2 fun b hb e => by have := (hown1.lt b hb).1; have := hc.lt; omega).1
        have hdd2 := hdd.trans hd2
        have hbs := hdd2.2.size
        go_wp2_with (at_builtin; refine append_int w2 rfl (.tmp 21) (.tmp 25) rfl w.heap.size u5 l rfl hown2 x rfl (by omega) hbs ?_; intro v1 w8 ho8 hb8 hg8 hl8)
        go_ret
        exact ⟨_, _, rfl, ho8, by simp; omega, own_some hl8 hnn, hdd2.grown hc hg8 fun r hr => (hown2.lt r hr).1⟩
set_option maxRecDepth 100000 in
set_option maxHeartbeats 1000000 in
theorem l1New_any (v : Value) (n : Nat) (w : World) (hb : Bytes w v n) (hn : n ≤ 4096) :
    Calls Try.prog 106 #[v] w fun e w' => ∃ C, e = .returned (.pointer (some ⟨C, 0, none⟩)) ∧ Cur w' C v n ∧ w.heap.size ≤ C ∧ Below w.heap.size w w' := by
  obtain ⟨BA, bc, rfl, hbl, hbm⟩ := hb.form
  go_enter Try.func106, Try.ntmps106
  go_wp2_with fail
  go_loopw [3, 4] (fun h i wr => ∃ (k : Nat) (x : Int), k ≤ n ∧ i = .int .i64 k ∧ h = .int .i64 x ∧ wr = w) (fun _ i _ => n - (intOf i).toNat)
  case atStart => exact ⟨0, _, Nat.zero_le _, rfl, rfl, rfl⟩
  case round =>
    obtain ⟨k, x, hk, rfl, rfl, hw⟩ := hrel
    subst hw
    by_cases hlt : k < n
    · have hlt2 : (k : Int) < n := by omega
      obtain ⟨ad, y, ea, hcy, hy0, hy1⟩ := hb.at_ hlt
      cases ea
      go_wp2
      exact ⟨⟨k + 1, _, by omega, by go_num, rfl, by first | rfl | trivial⟩, by simp [intOf]; omega⟩
    · obtain rfl : k = n := by omega
      have hlt2 : ¬ (k : Int) < k := by omega
      have hA := Arr.new wr 114 [.slice BA k bc, .int .i64 0, .int .i64 x]
      have hbn := (Below.refl wr.heap.size wr).alloc (Nat.le_refl _) (.cells #[.slice BA k bc, .int .i64 0, .int .i64 x] 114)
      have hap : ∀ A j c, Value.slice BA k bc = .slice (some A) j c → k = 0 ∨ A.block < wr.heap.size := fun A j c h => by
        injection h with h1 h2 h3
        subst h1
        by_cases h0 : k = 0
        · exact .inl h0
        · obtain ⟨ad, y, ea, hcy, _⟩ := hb.at_ (k := 0) (by omega)
          injection ea with ea
          subst ea
          have := World.block_lt_of_cell? wr _ hcy
          rw [block_of_add] at this
          exact .inr this
      go_wp2
      go_ret
      exact ⟨_, rfl, ⟨⟨0, x, hA, Nat.zero_le _⟩, hb.kept (Kept.of hbn), hn, fun A j c h => (hap A j c h).imp id fun h => by omega⟩, Nat.le_refl _, hbn⟩
theorem big_any (v : Value) (n : Nat) (w : World) (hb : Bytes w v n) : Calls Try.prog 50 #[v] w fun e w' => e = .returned (.bool (decide (4096 < n))) ∧ w' = w := by
  obtain ⟨BA, bc, rfl, hbl, hbm⟩ := hb.form
  go_enter Try.func50, Try.ntmps50
  go_wp2
  go_ret
  exact ⟨by simp; omega, rfl⟩
end Go.Proofs.Ytpnophmanpfejaa
