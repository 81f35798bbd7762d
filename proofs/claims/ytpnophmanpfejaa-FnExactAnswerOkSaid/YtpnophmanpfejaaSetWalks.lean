/- The walks of the functions on sets of numbers. -/
import Derived.Test.YtpnophmanpfejaaSetPlain
import Derived.Test.YtpnophmanpfejaaLawBase
namespace Go.Proofs.Ytpnophmanpfejaa
set_option linter.unusedSimpArgs false
set_option linter.unusedVariables false
open Go.RowKit

theorem l1In_any (a b c : Int) (w : World) : Calls Try.prog 110 #[.int .i64 a, .int .i64 b, .int .i64 c] w fun e w' => e = .returned (.bool (decide (b ≤ a ∧ a ≤ c))) ∧ w' = w := by
  by_cases h1 : b ≤ a
  · go_enter Try.func110, Try.ntmps110
    go_wp2
    go_ret
    exact ⟨by simp [h1], rfl⟩
  · have hd : decide (b ≤ a ∧ a ≤ c) = false := by simp [h1]
    rw [hd]
    clear hd
    go_enter Try.func110, Try.ntmps110
    go_wp2
    go_ret
    exact ⟨rfl, rfl⟩

set_option maxHeartbeats 400000 in
theorem isSet_any (v : Value) (l : List Int) (n : Int) (w : World) (hv : Ints w v l) :
    Calls Try.prog 75 #[v, .int .i64 n] w fun e w' => e = .returned (.bool (isSetB l n)) ∧ w' = w := by
  obtain ⟨A, c, rfl, hlc, hcm, hA⟩ := hv
  go_enter Try.func75, Try.ntmps75
  go_wp2
  go_loop [9] (fun i => ∃ k : Nat, k ≤ l.length ∧ i = .int .i64 k ∧ ∀ j, j < k → 0 ≤ ix l j ∧ ix l j < n ∧ (0 < j → ix l (j - 1) < ix l j)) (fun i => l.length - (intOf i).toNat)
  case atStart => exact ⟨0, Nat.zero_le _, rfl, fun j hj => by omega⟩
  case round =>
    obtain ⟨k, hk, rfl, hm⟩ := hrel
    by_cases hlt : k < l.length
    · obtain ⟨a1, rfl, h1⟩ := hA k hlt
      have hf : ¬ (0 ≤ ix l k ∧ ix l k < n ∧ (0 < k → ix l (k - 1) < ix l k)) → isSetB l n = false := isSetB_false hlt
      by_cases g1 : 0 ≤ ix l k
      · by_cases g2 : ix l k < n
        · by_cases hk0 : 0 < k
          · obtain ⟨_, e, h0⟩ := hA (k - 1) (by omega)
            injection e with e
            subst e
            by_cases g3 : ix l (k - 1) < ix l k
            · go_wp2
              exact ⟨⟨k + 1, by omega, by go_num, fun j hj => by
                by_cases hjk : j = k
                · subst hjk; exact ⟨g1, g2, fun _ => g3⟩
                · exact hm j (by omega)⟩, by simp [intOf]; omega⟩
            · have hf := hf (fun h => g3 (h.2.2 hk0))
              go_wp2
              go_ret
              exact ⟨by simp [hf], rfl⟩
          · go_wp2
            exact ⟨⟨k + 1, by omega, by go_num, fun j hj => by
              obtain rfl : j = k := by omega
              exact ⟨g1, g2, fun h => by omega⟩⟩, by simp [intOf]; omega⟩
        · have hf := hf (fun h => g2 h.2.1)
          go_wp2
          go_ret
          exact ⟨by simp [hf], rfl⟩
      · have hf := hf (fun h => g1 h.1)
        go_wp2
        go_ret
        exact ⟨by simp [hf], rfl⟩
    · have ht : isSetB l n = true := isSetB_true fun j hj => hm j (by omega)
      go_wp2
      go_ret
      exact ⟨by simp [ht], rfl⟩
set_option maxHeartbeats 1000000 in
theorem l1Rises_any (v : Value) (l : List Int) (n : Int) (w : World) (hv : Ints w v l) (hn0 : 0 ≤ n) (hn1 : n ≤ 9223372036854775807) :
    Calls Try.prog 146 #[v, .int .i64 n] w fun e w' => e = .returned (.bool (isSetB l n)) ∧ ∃ q, w' = w.drewN q := by
  obtain ⟨A, c, rfl, hlc, hcm, hA⟩ := hv
  go_enter Try.func146, Try.ntmps146
  go_wp2
  go_loopw [5] (fun i wr => ∃ k q : Nat, k ≤ l.length ∧ i = .int .i64 k ∧ wr = w.drewN q ∧ ∀ j, j < k → 0 ≤ ix l j ∧ ix l j < n ∧ (0 < j → ix l (j - 1) < ix l j)) (fun i _ => l.length - (intOf i).toNat)
  case atStart => exact ⟨0, 0, Nat.zero_le _, rfl, rfl, fun j hj => by omega⟩
  case round =>
    obtain ⟨k, q, hk, rfl, rfl, hm⟩ := hrel
    have hsub : IntKind.i64.wrap (n - 1) = n - 1 := IntWalk.i64_in _ (by omega)
    by_cases hlt : k < l.length
    · obtain ⟨a1, rfl, h1⟩ := hA k hlt
      have hf : ¬ (0 ≤ ix l k ∧ ix l k < n ∧ (0 < k → ix l (k - 1) < ix l k)) → isSetB l n = false := isSetB_false hlt
      by_cases g1 : 0 ≤ ix l k ∧ ix l k ≤ n - 1
      · obtain ⟨g1, g2⟩ := g1
        by_cases hk0 : 0 < k
        · have hd : decide ((0 : Int) < (k : Int)) = true := by simp; omega
          obtain ⟨_, e, h0⟩ := hA (k - 1) (by omega)
          injection e with e
          subst e
          go_wp2
          go_quiet ((go_at_call 110; first | exact Calls.quiet_of_same (l1In_any _ _ _ _) | exact Calls.quiet_of (l1In_any _ _ _ _) | exact quiet_add (quiet_same (l1In_any _ _ _ _)) | exact quiet_add (l1In_any _ _ _ _)))
          go_wp2
          · have hd : ix l k ≤ ix l (k - 1) := by assumption
            have hf := hf (fun h => by have := h.2.2 hk0; omega)
            go_ret
            exact ⟨by simp [hf], q + nq, by simp⟩
          · have hd : ix l (k - 1) < ix l k := by assumption
            exact ⟨⟨k + 1, q + nq, by omega, by go_num, by simp, fun j hj => by
              by_cases hjk : j = k
              · subst hjk; exact ⟨g1, by omega, fun _ => hd⟩
              · exact hm j (by omega)⟩, by simp [intOf]; omega⟩
        · have hd : decide ((0 : Int) < (k : Int)) = false := by simp; omega
          go_wp2
          go_quiet ((go_at_call 110; first | exact Calls.quiet_of_same (l1In_any _ _ _ _) | exact Calls.quiet_of (l1In_any _ _ _ _) | exact quiet_add (quiet_same (l1In_any _ _ _ _)) | exact quiet_add (l1In_any _ _ _ _)))
          go_wp2
          exact ⟨⟨k + 1, q + nq, by omega, by go_num, by simp, fun j hj => by
              obtain rfl : j = k := by omega
              exact ⟨g1, by omega, fun h => by omega⟩⟩, by simp [intOf]; omega⟩
      · have hd : decide (0 ≤ ix l k ∧ ix l k ≤ n - 1) = false := by simpa using g1
        have hf := hf (fun h => g1 ⟨h.1, by omega⟩)
        go_wp2
        go_quiet ((go_at_call 110; first | exact Calls.quiet_of_same (l1In_any _ _ _ _) | exact Calls.quiet_of (l1In_any _ _ _ _) | exact quiet_add (quiet_same (l1In_any _ _ _ _)) | exact quiet_add (l1In_any _ _ _ _)))
        go_wp2
        go_ret
        exact ⟨by simp [hf], q + nq, by simp⟩
    · have ht : isSetB l n = true := isSetB_true fun j hj => hm j (by omega)
      go_wp2
      go_ret
      exact ⟨by simp [ht], q, rfl⟩
theorem l1Set_any (v : Value) (l : List Int) (n : Int) (w : World) (hv : Ints w v l) (hn0 : 0 ≤ n) (hn1 : n ≤ 9223372036854775807) :
    Calls Try.prog 101 #[v, .int .i64 n] w fun e w' => e = .returned (.bool (isSetB l n)) ∧ ∃ q, w' = w.drewN q := by
  have hv' := hv
  obtain ⟨A, c, rfl, hlc, hcm, hA⟩ := hv
  clear hA
  by_cases h : (l.length : Int) ≤ n
  · go_enter Try.func101, Try.ntmps101
    go_wp2_with fail
    refine (l1Rises_any _ l n _ hv' hn0 hn1).mono ?_
    rintro e w' ⟨rfl, q, rfl⟩
    go_wp2
    go_ret
    exact ⟨rfl, q, rfl⟩
  · have hf : isSetB l n = false := by
      rw [Bool.eq_false_iff]
      intro h'
      rcases (isSetB_iff.1 h').length with h1 | h1
      · subst h1; simp at h; omega
      · exact h h1
    go_enter Try.func101, Try.ntmps101
    go_wp2
    go_ret
    exact ⟨by simp [hf], 0, rfl⟩

set_option maxHeartbeats 400000 in
theorem l1Has_any (v : Value) (l : List Int) (x : Int) (w : World) (hv : Ints w v l) :
    Calls Try.prog 111 #[v, .int .i64 x] w fun e w' => e = .returned (.bool (hasB l x)) ∧ w' = w := by
  obtain ⟨A, c, rfl, hlc, hcm, hA⟩ := hv
  go_enter Try.func111, Try.ntmps111
  go_wp2
  go_loop [5] (fun i => ∃ k : Nat, k ≤ l.length ∧ i = .int .i64 k ∧ ∀ j, j < k → ix l j ≠ x) (fun i => l.length - (intOf i).toNat)
  case atStart => exact ⟨0, Nat.zero_le _, rfl, fun j hj => by omega⟩
  case round =>
    obtain ⟨k, hk, rfl, hm⟩ := hrel
    by_cases hlt : k < l.length
    · obtain ⟨a1, rfl, h1⟩ := hA k hlt
      by_cases g : ix l k = x
      · have hd : (ix l k == x) = true := by simpa using g
        have ht : hasB l x = true := g ▸ hasB_ix hlt
        clear g
        go_wp2
        go_ret
        exact ⟨by simp [ht], rfl⟩
      · have hd : (ix l k == x) = false := by simpa using g
        go_wp2
        exact ⟨⟨k + 1, by omega, by go_num, fun j hj => by
          by_cases hjk : j = k
          · subst hjk; exact g
          · exact hm j (by omega)⟩, by simp [intOf]; omega⟩
    · have hf : hasB l x = false := hasB_none fun j hj => hm j (by omega)
      go_wp2
      go_ret
      exact ⟨by simp [hf], rfl⟩

set_option maxHeartbeats 400000 in
theorem Index_any (v : Value) (l : List Int) (x : Int) (w : World) (hv : Ints w v l) :
    Calls Try.prog 134 #[v, .int .i64 x] w fun e w' => e = .returned (.int .i64 (idxL l x)) ∧ w' = w := by
  obtain ⟨A, c, rfl, hlc, hcm, hA⟩ := hv
  go_enter Try.func134, Try.ntmps134
  go_wp2
  go_loop [8] (fun i => ∃ k : Nat, k ≤ l.length ∧ i = .int .i64 k ∧ ∀ j, j < k → ix l j ≠ x) (fun i => l.length - (intOf i).toNat)
  case atStart => exact ⟨0, Nat.zero_le _, rfl, fun j hj => by omega⟩
  case round =>
    obtain ⟨k, hk, rfl, hm⟩ := hrel
    by_cases hlt : k < l.length
    · obtain ⟨a1, rfl, h1⟩ := hA k hlt
      by_cases g : ix l k = x
      · have hd : (x == ix l k) = true := by simpa using g.symm
        have ht : idxL l x = k := idxL_at hlt g hm
        clear g
        have Ht := Lib.hid ht
        clear ht
        go_wp2
        go_ret
        exact ⟨by rw [Ht.out]; rfl, rfl⟩
      · have hd : (x == ix l k) = false := by simpa using (fun h : x = ix l k => g h.symm)
        go_wp2
        exact ⟨⟨k + 1, by omega, by go_num, fun j hj => by
          by_cases hjk : j = k
          · subst hjk; exact g
          · exact hm j (by omega)⟩, by simp [intOf]; omega⟩
    · have hf : idxL l x = -1 := idxL_none fun j hj => hm j (by omega)
      have Ht := Lib.hid hf
      clear hf
      go_wp2
      go_ret
      exact ⟨by rw [Ht.out]; rfl, rfl⟩

theorem Contains_any (v : Value) (l : List Int) (x : Int) (w : World) (hv : Ints w v l) :
    Calls Try.prog 81 #[v, .int .i64 x] w fun e w' => e = .returned (.bool (hasB l x)) ∧ w' = w := by
  go_enter Try.func81, Try.ntmps81
  go_wp2_with fail
  refine (Index_any v l x _ hv).mono ?_
  rintro e w' ⟨rfl, rfl⟩
  go_wp2
  go_ret
  exact ⟨by rw [← idxL_geq]; rfl, rfl⟩

set_option maxHeartbeats 400000 in
theorem BinarySearch_any (v : Value) (l : List Int) (x : Int) (w : World) (hv : Ints w v l) (hr : Rising l) (hlen : l.length ≤ 1099511627776) :
    Calls Try.prog 149 #[v, .int .i64 x] w fun e w' => ∃ i : Int, e = .returned (.tuple #[.int .i64 i, .bool (hasB l x)]) ∧ w' = w := by
  obtain ⟨A, c, rfl, hlc, hcm, hA⟩ := hv
  go_enter Try.func149, Try.ntmps149
  go_wp2
  go_loop [7, 8] (fun i j => ∃ a b : Nat, a ≤ b ∧ b ≤ l.length ∧ i = .int .i64 a ∧ j = .int .i64 b ∧ (∀ k, k < a → ix l k < x) ∧ ∀ k, b ≤ k → k < l.length → x ≤ ix l k) (fun i j => (intOf j).toNat - (intOf i).toNat)
  case atStart => exact ⟨0, l.length, Nat.zero_le _, Nat.le_refl _, rfl, rfl, fun j hj => by omega, fun k h1 h2 => by omega⟩
  case round =>
    obtain ⟨a, b, hab, hb, rfl, rfl, h1, h2⟩ := hrel
    by_cases hlt : a < b
    · obtain ⟨a1, rfl, hc⟩ := hA ((a + b) / 2) (by omega)
      have hmid : (((a : Int) + (b : Int)) / 2).toNat = (a + b) / 2 := by omega
      have hm0 : (0 : Int) ≤ ((a : Int) + (b : Int)) / 2 := by omega
      have hm1 : ((a : Int) + (b : Int)) / 2 < (l.length : Int) := by omega
      by_cases g : ix l ((a + b) / 2) < x
      · go_wp2
        refine ⟨⟨(a + b) / 2 + 1, b, by omega, hb, by go_num, rfl, fun k hk => ?_, h2⟩, by simp [intOf]; omega⟩
        by_cases e : k = (a + b) / 2
        · rw [e]; exact g
        · have := hr k ((a + b) / 2) (by omega) (by omega); omega
      · go_wp2
        refine ⟨⟨a, (a + b) / 2, by omega, by omega, rfl, by go_num, h1, fun k hk hk2 => ?_⟩, by simp [intOf]; omega⟩
        by_cases e : k = (a + b) / 2
        · rw [e]; omega
        · have := hr ((a + b) / 2) k (by omega) (by omega); omega
    · obtain rfl : a = b := by omega
      by_cases hal : a < l.length
      · obtain ⟨a1, rfl, hc⟩ := hA a hal
        by_cases g : ix l a = x
        · have hd : (ix l a == x) = true := by simpa using g
          have ht : hasB l x = true := g ▸ hasB_ix hal
          clear g
          go_wp2
          go_ret2
          exact ⟨⟨a, by simp [ht]⟩, rfl⟩
        · have hd : (ix l a == x) = false := by simpa using g
          have hf : hasB l x = false := hasB_none fun k hk he => by
            by_cases hka : k < a
            · have := h1 k hka; omega
            · by_cases e : k = a
              · subst e; exact g he
              · have h3 := h2 a (Nat.le_refl _) hal
                have := hr a k (by omega) hk; omega
          go_wp2
          go_ret2
          exact ⟨⟨a, by simp [hf]⟩, rfl⟩
      · have hf : hasB l x = false := hasB_none fun k hk he => by
          have := h1 k (by omega); omega
        go_wp2
        go_ret2
        exact ⟨⟨a, by simp [hf]⟩, rfl⟩

theorem specSetOk_any (v : Value) (l : List Int) (n : Int) (w : World) (hv : Ints w v l) :
    Calls Try.prog 55 #[v, .int .i64 n] w fun e w' => e = .returned (.bool (setOkB l n)) ∧ ∃ q, w' = w.drewN q := by
  by_cases h : 0 ≤ n ∧ n ≤ 256
  · go_enter Try.func55, Try.ntmps55
    go_wp2_with (first | (go_at_call 110; refine (l1In_any _ _ _ _).mono ?_; rintro e w' ⟨rfl, rfl⟩) | (go_at_call 101; refine (l1Set_any v l n _ hv h.1 (by omega)).mono ?_; rintro e w' ⟨rfl, q, rfl⟩))
    go_ret
    exact ⟨by simp [setOkB, h], q, rfl⟩
  · have hd : decide (0 ≤ n ∧ n ≤ 256) = false := by simpa using h
    go_enter Try.func55, Try.ntmps55
    go_wp2_with (first | (go_at_call 110; refine (l1In_any _ _ _ _).mono ?_; rintro e w' ⟨rfl, rfl⟩))
    go_ret
    exact ⟨by simp [setOkB, hd], 0, rfl⟩

end Go.Proofs.Ytpnophmanpfejaa
