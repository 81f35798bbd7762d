/- The walks of PredsOf, LeastFull, FullIn and what they call. No condition. -/
import Derived.Test.YtpnophmanpfejaaPkB
namespace Go.Proofs.Ytpnophmanpfejaa
set_option linter.unusedSimpArgs false
set_option linter.unusedVariables false
open Go.RowKit

/-- The vertices below k of which u is a successor. -/
def predTo (a : ArenaD) (u : Int) (k : Nat) : List Int := (upFrom 0 k).filter fun v => hasB (rx a.next v.toNat) u
theorem predTo_succ (a : ArenaD) (u : Int) (k : Nat) : predTo a u (k + 1) = predTo a u k ++ if hasB (rx a.next k) u = true then [(k : Int)] else [] := by
  unfold predTo
  rw [upFrom_snoc, List.filter_append]
  congr 1
  by_cases h : hasB (rx a.next k) u = true <;> simp [h]
theorem predTo_len (a : ArenaD) (u : Int) (k : Nat) : (predTo a u k).length ≤ k := by
  have := List.length_filter_le (fun v => hasB (rx a.next v.toNat) u) (upFrom 0 k)
  rw [length_upFrom] at this
  exact this
def predG (a : ArenaD) (u : Int) : List Int := if arenaOkB a && thereB a u then predTo a u a.owner.length else []

/-- n times -1. -/
def noneL (n : Nat) : List Int := List.replicate n (-1)
@[simp] theorem length_noneL (n : Nat) : (noneL n).length = n := by simp [noneL]
theorem ix_noneL {n k : Nat} (h : k < n) : ix (noneL n) k = -1 := by simp [ix, noneL, h]
theorem IArr.new (w : World) (n : Nat) : IArr (w.alloc (.cells (zeros (.int .i64 0) n).toArray 2)) w.heap.size (List.replicate n 0) := by
  have := Arr.new w 2 (zeros (.int .i64 0) n)
  unfold IArr
  rwa [List.map_replicate]

set_option maxHeartbeats 1000000 in
theorem noPlan_any (v : Value) (a : ArenaD) (w : World) (hv : IsArena w v a) (hn : a.owner.length ≤ 1048576) :
    Calls Try.prog 143 #[v] w fun e w' => ∃ g, e = .returned (.slice (some ⟨g, 0, none⟩) a.owner.length a.owner.length) ∧ w.heap.size ≤ g ∧ IArr w' g (noneL a.owner.length) ∧ Below w.heap.size w w' := by
  obtain ⟨o, n, rfl, hbw, hB⟩ := arena_open hv
  obtain ⟨ho, hn1⟩ := hv.parts
  obtain ⟨A, c, rfl, hlc, hcm⟩ := ho.form
  have hmk := make_one elem_int64 a.owner.length (by omega)
  have hBc0 := hB.c0
  go_enter Try.func143, Try.ntmps143
  go_wp2
  clear hmk
  have hM := IArr.new (w.alloc (.cells #[.slice A a.owner.length c, n] 30)) a.owner.length
  have hb2 := hbw.alloc hbw.size (.cells (zeros (.int .i64 0) a.owner.length).toArray 2)
  have hsz : (w.alloc (.cells #[.slice A a.owner.length c, n] 30)).heap.size = w.heap.size + 1 := by simp
  rw [hsz] at hM
  clear hsz hBc0 hB hbw
  generalize (w.alloc (.cells #[.slice A a.owner.length c, n] 30)).alloc (.cells (zeros (.int .i64 0) a.owner.length).toArray 2) = w0 at *
  go_loopw [11] (fun i wr => ∃ (k : Nat) (l : List Int), k ≤ a.owner.length ∧ i = .int .i64 k ∧ IArr wr (w.heap.size + 1) l ∧ l.length = a.owner.length ∧ (∀ j, j < k → ix l j = -1) ∧ Below w.heap.size w wr) (fun i _ => a.owner.length - (intOf i).toNat)
  case atStart => exact ⟨0, _, Nat.zero_le _, rfl, hM, by simp, fun j hj => by omega, hb2⟩
  case round =>
    obtain ⟨k, l, hk, rfl, hM, hl, hm, hbw⟩ := hrel
    have Hl := Lib.hid hl
    clear hl
    have Hm := Lib.hid hm
    clear hm
    by_cases hlt : k < a.owner.length
    · have hc2 := hM.cell (k := k) (by rw [Hl.out]; exact hlt)
      have hf2 := hM.frozen k
      have hset := hM.set_ k (-1)
      have hlt' : (k : Int) < a.owner.length := by omega
      go_wp2
      refine ⟨⟨k + 1, _, by omega, by go_num, hset, by simpa using Hl.out, fun j hj => ?_, hbw.setCell (by simp) _⟩, by simp [intOf]; omega⟩
      rw [ix_set (by rw [Hl.out]; exact hlt)]
      split
      · rfl
      · exact Hm.out j (by omega)
    · obtain rfl : k = a.owner.length := by omega
      have hll : l = noneL a.owner.length := int_range_ext (by simpa using Hl.out) fun j hj => by
        rw [length_noneL] at hj
        rw [ix_noneL hj]; exact Hm.out j hj
      subst hll
      go_wp2
      go_ret
      exact ⟨_, rfl, by omega, hM, hbw⟩
theorem predG_len (a : ArenaD) (u : Int) : (predG a u).length ≤ 1048576 := by
  unfold predG
  split
  · rename_i h
    simp only [Bool.and_eq_true] at h
    have := predTo_len a u a.owner.length
    have := (arenaOkB_iff.1 h.1).le
    omega
  · simp
end Go.Proofs.Ytpnophmanpfejaa
