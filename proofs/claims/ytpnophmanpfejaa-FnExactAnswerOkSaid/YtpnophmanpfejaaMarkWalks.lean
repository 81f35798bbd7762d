/- The walks of markOf and l1Marks. Conditions: the elements are vertices, the arena is not too large. -/
import Derived.Test.YtpnophmanpfejaaBools
import Derived.Test.YtpnophmanpfejaaArenaWalks2
import Derived.Test.YtpnophmanpfejaaSame
namespace Go.Proofs.Ytpnophmanpfejaa
set_option linter.unusedSimpArgs false
set_option linter.unusedVariables false
open Go.RowKit

set_option maxHeartbeats 1000000 in
theorem markOf_any (v : Value) (a : ArenaD) (u : Value) (s : List Int) (w : World) (hv : IsArena w v a) (hu : Ints w u s) (hr : Vert s a.owner.length) (hn : a.owner.length ≤ 1048576) :
    Calls Try.prog 118 #[v, u] w (RetBools w (marksL a.owner.length s)) := by
  obtain ⟨o, n, rfl, hbw, hB, hv1⟩ := arena_box hv
  obtain ⟨ho, hn1⟩ := hv.parts
  obtain ⟨A, c, rfl, hlc, hcm⟩ := ho.form
  obtain ⟨A', c', rfl, hlc', hcm'⟩ := hu.form
  have hmk := make_one elem_bool a.owner.length (by omega)
  have hBc0 := hB.c0
  go_enter Try.func118, Try.ntmps118
  go_wp2
  clear hmk
  have hM := BArr.new (w.alloc (.cells #[.slice A a.owner.length c, n] 30)) a.owner.length
  rw [← marksL_nil] at hM
  have hb2 := hbw.alloc hbw.size (.cells (zeros (.bool false) a.owner.length).toArray 4)
  have hsz : (w.alloc (.cells #[.slice A a.owner.length c, n] 30)).heap.size = w.heap.size + 1 := by simp
  rw [hsz] at hM
  clear hsz hBc0 hB hv1 hbw
  generalize (w.alloc (.cells #[.slice A a.owner.length c, n] 30)).alloc (.cells (zeros (.bool false) a.owner.length).toArray 4) = w0 at *
  have Hall := Lib.hid (show marksL a.owner.length (s.take s.length) = marksL a.owner.length s by rw [List.take_length])
  go_loopw [14] (fun i wr => ∃ k : Nat, k ≤ s.length ∧ i = .int .i64 k ∧ BArr wr (w.heap.size + 1) (marksL a.owner.length (s.take k)) ∧ Below w.heap.size w wr) (fun i _ => s.length - (intOf i).toNat)
  case atStart => exact ⟨0, Nat.zero_le _, rfl, hM, hb2⟩
  case round =>
    obtain ⟨k, hk, rfl, hM, hbw⟩ := hrel
    by_cases hlt : k < s.length
    · have hu1 := (hu.kept (Kept.of hbw))
      obtain ⟨a1, rfl, hc1⟩ := hu1.at_ hlt
      obtain ⟨j, hj, hjn⟩ := hr k hlt
      have hc2 := hM.cell (k := j) (by simpa using hjn)
      have hf2 := hM.frozen j
      have hset := hM.set_ j true
      rw [marksL_set hlt hj hjn] at hset
      rw [hj] at hc1
      clear hj
      have hjn' : (j : Int) < a.owner.length := by omega
      go_wp2
      exact ⟨⟨k + 1, by omega, by go_num, hset, hbw.setCell (by simp) _⟩, by simp [intOf]; omega⟩
    · obtain rfl : k = s.length := by omega
      rw [Hall.out] at hM
      have hown := hM.own (B := w.heap.size) (by omega) (by simpa using (by omega : a.owner.length ≤ 4611686018427387904))
      rw [length_marksL] at hown
      go_wp2
      go_ret
      exact .mk' hown hbw

set_option maxHeartbeats 1000000 in
theorem l1Marks_any (u : Value) (s : List Int) (n : Nat) (w : World) (hu : Ints w u s) (hr : Vert s n) (hn : n ≤ 1048576) :
    Calls Try.prog 141 #[u, .int .i64 (n : Int)] w (RetBools w (marksL n s)) := by
  obtain ⟨A', c', rfl, hlc', hcm'⟩ := hu.form
  have hmk := make_one elem_bool n (by omega)
  go_enter Try.func141, Try.ntmps141
  go_wp2
  clear hmk
  have hM := BArr.new w n
  rw [← marksL_nil] at hM
  have hb2 := (Below.refl w.heap.size w).alloc (Nat.le_refl _) (.cells (zeros (.bool false) n).toArray 4)
  generalize w.alloc (.cells (zeros (.bool false) n).toArray 4) = w0 at *
  have Hall := Lib.hid (show marksL n (s.take s.length) = marksL n s by rw [List.take_length])
  go_loopw [6] (fun i wr => ∃ k : Nat, k ≤ s.length ∧ i = .int .i64 k ∧ BArr wr w.heap.size (marksL n (s.take k)) ∧ Below w.heap.size w wr) (fun i _ => s.length - (intOf i).toNat)
  case atStart => exact ⟨0, Nat.zero_le _, rfl, hM, hb2⟩
  case round =>
    obtain ⟨k, hk, rfl, hM, hbw⟩ := hrel
    by_cases hlt : k < s.length
    · have hu1 := (hu.kept (Kept.of hbw))
      obtain ⟨a1, rfl, hc1⟩ := hu1.at_ hlt
      obtain ⟨j, hj, hjn⟩ := hr k hlt
      have hc2 := hM.cell (k := j) (by simpa using hjn)
      have hf2 := hM.frozen j
      have hset := hM.set_ j true
      rw [marksL_set hlt hj hjn] at hset
      rw [hj] at hc1
      clear hj
      have hjn' : (j : Int) < n := by omega
      have hlt' : (k : Int) < s.length := by omega
      go_wp2
      exact ⟨⟨k + 1, by omega, by go_num, hset, hbw.setCell (by simp) _⟩, by simp [intOf]; omega⟩
    · obtain rfl : k = s.length := by omega
      rw [Hall.out] at hM
      have hown := hM.own (B := w.heap.size) (by omega) (by simpa using (by omega : n ≤ 4611686018427387904))
      rw [length_marksL] at hown
      go_wp2
      go_ret
      exact .mk' hown hbw
end Go.Proofs.Ytpnophmanpfejaa
