/- The walks of the functions that copy, compare, mark and ask lists of int64s. No condition but the lists' lengths. -/
import Derived.Test.YtpnophmanpfejaaOps
import Derived.Outline
import Derived.LoopTactic
import Derived.OwnWalk
import Derived.BigQuiet
import Derived.Deep.QuietTactic
import Derived.Deep.LoopGhost
import Derived.IntWalk
namespace Go.Proofs.Ytpnophmanpfejaa
set_option linter.unusedSimpArgs false
set_option linter.unusedVariables false
open Go.RowKit
set_option maxHeartbeats 400000 in
theorem eqInt64S_any (v u : Value) (l m : List Int) (w : World) (hv : Ints w v l) (hu : Ints w u m) :
    Calls Try.prog 20 #[v, u] w fun e w' => e = .returned (.bool (decide (l = m))) ∧ ∃ n, w' = w.drewN n := by
  obtain ⟨A, c, rfl, hlc, hcm, hA⟩ := hv
  obtain ⟨B, d, rfl, hmd, hdm, hB⟩ := hu
  by_cases hne : l.length = m.length
  · go_enter Try.func20, Try.ntmps20
    go_wp2
    go_loopw [5] (fun i wr => ∃ k q : Nat, k ≤ m.length ∧ i = .int .i64 k ∧ wr = w.drewN q ∧ ∀ j, j < k → ix l j = ix m j) (fun i _ => m.length - (intOf i).toNat)
    case atStart => exact ⟨0, 0, Nat.zero_le _, rfl, rfl, fun j hj => absurd hj (Nat.not_lt_zero _)⟩
    case round =>
      obtain ⟨k, q, hk, rfl, rfl, heq⟩ := hrel
      by_cases hlt : k < m.length
      · obtain ⟨a1, rfl, h1⟩ := hA k (by omega)
        obtain ⟨a2, rfl, h2⟩ := hB k hlt
        go_wp2
        go_quiet (fail)
        go_wp2
        · have hd : (ix l k != ix m k) = true := by assumption
          go_ret
          have hlm : ¬ l = m := by rintro rfl; simp at hd
          exact ⟨by simp [hlm], q + nq, by simp⟩
        · have hd : (ix l k != ix m k) = false := by assumption
          refine ⟨⟨k + 1, q + nq, by omega, by go_num, by simp, fun j hj => ?_⟩, by simp [intOf]; omega⟩
          by_cases hjk : j = k
          · subst hjk; simpa using hd
          · exact heq j (by omega)
      · have hkm : k = m.length := by omega
        go_wp2
        go_ret
        refine ⟨?_, _, rfl⟩
        have hlm : l = m := int_range_ext hne fun j hj => heq j (by omega)
        simp [hlm]
  · have hlm : ¬ l = m := by rintro rfl; exact hne rfl
    have hd : ((l.length : Int) != (m.length : Int)) = true := by simpa using (by omega : ¬ (l.length : Int) = m.length)
    go_enter Try.func20, Try.ntmps20
    go_wp2
    go_ret
    exact ⟨by simp [hlm], 0, rfl⟩

/-- What is left of a budget behind n; -1 where it does not suffice. -/
def szLeft (n : Nat) (left : Int) : Int := if (n : Int) ≤ left then left - n else -1
theorem szLeft_pos {n : Nat} {left : Int} (h : (n : Int) ≤ left) : szLeft n left = left - n := if_pos h
theorem szLeft_neg {n : Nat} {left : Int} (h : ¬ (n : Int) ≤ left) : szLeft n left = -1 := if_neg h

set_option maxHeartbeats 400000 in
theorem szInt64S_any (v : Value) (l : List Int) (left : Int) (w : World) (hv : Ints w v l) (h0 : 0 ≤ left) (h1 : left ≤ 1048576) :
    Calls Try.prog 71 #[v, .int .i64 left] w fun e w' => e = .returned (.int .i64 (szLeft l.length left)) ∧ w' = w := by
  obtain ⟨A, c, rfl, hlc, hcm, hA⟩ := hv
  have hs : IntKind.i64.wrap (left - (l.length : Int)) = left - (l.length : Int) := IntWalk.i64_in _ (by omega)
  by_cases h : (l.length : Int) ≤ left
  · rw [szLeft_pos h]
    have hn : ¬ left - (l.length : Int) < 0 := by omega
    clear h
    go_enter Try.func71, Try.ntmps71
    go_wp2
    go_ret
    exact ⟨rfl, rfl⟩
  · rw [szLeft_neg h]
    have hn : left - (l.length : Int) < 0 := by omega
    clear h
    go_enter Try.func71, Try.ntmps71
    go_wp2
    go_ret
    exact ⟨rfl, rfl⟩

set_option maxHeartbeats 400000 in
theorem heldInt64S_any (v : Value) (n : Nat) (k0 : Int) (w : World) (hv : Ints w v (upFrom k0 n)) (h0 : 0 ≤ k0) (h1 : k0 + n ≤ 4611686018427387904) :
    Calls Try.prog 24 #[v, .int .i64 k0] w fun e w' => e = .returned (.int .i64 (k0 + n)) ∧ ∃ q, w' = w.drewN q := by
  obtain ⟨A, c, rfl, hlc, hcm, hA⟩ := hv
  rw [length_upFrom] at *
  go_enter Try.func24, Try.ntmps24
  go_wp2
  go_loopw [1, 5] (fun x i wr => ∃ k q : Nat, k ≤ n ∧ i = .int .i64 k ∧ x = .int .i64 (k0 + k) ∧ wr = w.drewN q) (fun _ i _ => n - (intOf i).toNat)
  case atStart => exact ⟨0, 0, Nat.zero_le _, rfl, by simp, rfl⟩
  case round =>
    obtain ⟨k, q, hk, rfl, rfl, rfl⟩ := hrel
    by_cases hlt : k < n
    · obtain ⟨a1, rfl, h1⟩ := hA k hlt
      rw [ix_upFrom hlt] at h1
      go_wp2
      exact ⟨⟨k + 1, q, by omega, by go_num, by go_num, rfl⟩, by simp [intOf]; omega⟩
    · have hkn : k = n := by omega
      subst hkn
      go_wp2
      go_ret
      exact ⟨rfl, q, rfl⟩

set_option maxHeartbeats 400000 in
theorem toInt64S_any (v : Value) (l : List Int) (w : World) (hv : Ints w v l) (h1 : l.length ≤ 4194304) :
    Calls Try.prog 18 #[v] w fun e w' => ∃ u, e = .returned u ∧ OwnInts w' w.heap.size u l ∧ Below w.heap.size w w' := by
  obtain ⟨A, c, rfl, hlc, hcm, hA⟩ := hv
  have hmk := make_one elem_int64 l.length (by omega)
  go_enter Try.func18, Try.ntmps18
  go_wp2
  clear hmk
  have h0 : IArr (w.alloc (.cells (zeros (.int .i64 0) l.length).toArray 2)) w.heap.size (List.replicate l.length 0) := by
    have := Arr.new w 2 (zeros (.int .i64 0) l.length)
    unfold IArr
    rwa [List.map_replicate]
  have hb0 : Below w.heap.size w (w.alloc (.cells (zeros (.int .i64 0) l.length).toArray 2)) := (Below.refl _ _).alloc (Nat.le_refl _) _
  generalize w.alloc (.cells (zeros (.int .i64 0) l.length).toArray 2) = w0 at *
  go_loopw [4] (fun i wr => ∃ (k : Nat) (m : List Int), k ≤ l.length ∧ i = .int .i64 k ∧ Below w.heap.size w wr ∧ IArr wr w.heap.size m ∧ m.length = l.length ∧ ∀ j, j < k → ix m j = ix l j) (fun i _ => l.length - (intOf i).toNat)
  case atStart => exact ⟨0, _, Nat.zero_le _, rfl, hb0, h0, by simp, fun j hj => by omega⟩
  case round =>
    obtain ⟨k, m, hk, rfl, hb, ha, hml, hm⟩ := hrel
    by_cases hlt : k < l.length
    · obtain ⟨a1, rfl, hc⟩ := (SlF.kept ⟨A, c, rfl, hlc, hcm, hA⟩ (Kept.of hb)).at_ hlt
      have hc1 := ha.cell (k := k) (by omega)
      have hf1 := ha.frozen k
      have Hml := Lib.hid hml; clear hml
      go_wp2
      refine ⟨⟨k + 1, m.set k (ix l k), by omega, by go_num, hb.setCell (Nat.le_refl _) _, ha.set_ k _, by simpa using Hml.out, fun j hj => ?_⟩, by simp [intOf]; omega⟩
      have := Hml.out
      rw [ix_set (by omega)]
      split
      · rename_i h; rw [h]
      · exact hm j (by omega)
    · have Hml := Lib.hid hml; clear hml
      go_wp2
      go_ret
      have hk' : k = l.length := by omega
      have hml : m = l := int_range_ext Hml.out fun j hj => hm j (by omega)
      subst hml
      exact ⟨_, rfl, ha.own (Nat.le_refl _) (by omega), hb⟩

set_option maxHeartbeats 400000 in
theorem markInt64S_any (v : Value) (l : List Int) (k0 : Int) (B : Nat) (w : World) (hv : OwnInts w B v l) (h0 : 0 ≤ k0) (h1 : k0 + l.length ≤ 4611686018427387904) :
    Calls Try.prog 23 #[v, .int .i64 k0] w fun e w' => e = .returned (.int .i64 (k0 + l.length)) ∧ OwnInts w' B v (upFrom k0 l.length) ∧ w.grownBy w' v.ownBlock := by
  rcases hv.form with ⟨rfl, rfl⟩ | ⟨g, cap, rfl, hB, hg, hnc, hcm⟩
  · go_enter Try.func23, Try.ntmps23
    go_wp2
    refine wp_loop_rounds 1 ?_
    rw [rounds_succ]
    go_wp2
    go_ret
    exact ⟨by simp, hv, grown_refl _ _⟩
  · go_enter Try.func23, Try.ntmps23
    go_wp2
    go_loopw [1, 5] (fun x i wr => ∃ (k : Nat) (m : List Int), k ≤ l.length ∧ i = .int .i64 k ∧ x = .int .i64 (k0 + k) ∧ OwnInts wr B (.slice (some ⟨g, 0, none⟩) m.length cap) m ∧ m.length = l.length ∧ w.grownBy wr (some g) ∧ ∀ j, j < k → ix m j = k0 + j) (fun _ i _ => l.length - (intOf i).toNat)
    case atStart => exact ⟨0, l, Nat.zero_le _, rfl, by simp, hv, rfl, grown_refl _ _, fun j hj => by omega⟩
    case round =>
      obtain ⟨k, m, hk, rfl, rfl, ha, hml, hgr, hm⟩ := hrel
      by_cases hlt : k < l.length
      · have hc1 := ha.cell (k := k) (by omega)
        have hf1 := ha.frozen k
        have hst := ha.set_ k (k0 + k)
        have Hml := Lib.hid hml; clear hml
        go_wp2
        refine ⟨⟨k + 1, m.set k (k0 + k), by omega, by go_num, by go_num, by simpa using hst.1, by simpa using Hml.out, grown_trans hgr hst.2, fun j hj => ?_⟩, by simp [intOf]; omega⟩
        have := Hml.out
        rw [ix_set (by omega)]
        split
        · rename_i h; rw [h]
        · exact hm j (by omega)
      · have Hml := Lib.hid hml; clear hml
        go_wp2
        go_ret
        have hk' : k = l.length := by omega
        have hml : m = upFrom k0 l.length := int_range_ext (by simpa using Hml.out) fun j hj => by
          rw [length_upFrom] at hj
          rw [ix_upFrom hj]; exact hm j (by omega)
        subst hml
        simp only [length_upFrom] at ha
        exact ⟨by rw [hk']; rfl, ha, hgr⟩
end Go.Proofs.Ytpnophmanpfejaa
