/- Small walks of the solver of parity games, the program's and the reference's: marks without others, all marks, marks of a set. Conditions: the lengths. -/
import Derived.Test.YtmkmghjmfaoobaaPkC
import Derived.Test.YtmkmghjmfaoobaaPkD
namespace Go.Proofs.Ytmkmghjmfaoobaa
set_option linter.unusedSimpArgs false
set_option linter.unusedVariables false
open Go.RowKit

set_option maxHeartbeats 1000000 in
theorem without_any (u : Value) (a : List Bool) (v : Value) (b : List Bool) (w : World) (hu : Bools w u a) (hv : Bools w v b) (hl : a.length = b.length) (hn : a.length ≤ 1048576) :
    Calls Try.prog 97 #[u, v] w (RetBools w (restL a b)) := by
  obtain ⟨A, c, rfl, hlc, hcm⟩ := hu.form
  obtain ⟨A', c', rfl, hlc', hcm'⟩ := hv.form
  have Hl := Lib.hid hl
  clear hl
  have hmk := make_one elem_bool a.length (by omega)
  go_enter Try.func97, Try.ntmps97
  go_wp2
  clear hmk
  have hM := BArr.new w a.length
  have hb2 := (Below.refl w.heap.size w).alloc (Nat.le_refl _) (.cells (zeros (.bool false) a.length).toArray 4)
  generalize w.alloc (.cells (zeros (.bool false) a.length).toArray 4) = w0 at *
  go_loopw [12] (fun i wr => ∃ (k : Nat) (m : List Bool), k ≤ a.length ∧ i = .int .i64 k ∧ BArr wr w.heap.size m ∧ Hid (m.length = a.length) ∧ Hid (∀ j, j < k → bx m j = bx (restL a b) j) ∧ Below w.heap.size w wr) (fun i _ => a.length - (intOf i).toNat)
  case atStart => exact ⟨0, _, Nat.zero_le _, rfl, hM, Lib.hid (by simp), Lib.hid (fun j hj => by omega), hb2⟩
  case round =>
    obtain ⟨k, m, hk, rfl, hM, Hml, Hm, hbw⟩ := hrel
    by_cases hlt : k < a.length
    · obtain ⟨a1, rfl, hc1⟩ := (hu.kept (Kept.of hbw)).at_ hlt
      obtain ⟨a2, rfl, hc2⟩ := (hv.kept (Kept.of hbw)).at_ (k := k) (by rw [← Hl.out]; exact hlt)
      have hlt2 : (k : Int) < b.length := by rw [← Hl.out]; omega
      have hf2 := hM.frozen k
      have Hset := fun x => Lib.hid (hM.set_ k x)
      have Hr := Lib.hid (bx_restL a b k)
      have hbs := hbw.size
      have Hbx := fun x j => Lib.hid (bx_set (l := m) (k := k) (j := j) (x := x) (by rw [Hml.out]; exact hlt))
      have key : ∀ x, bx (restL a b) k = x → ∀ j, j < k + 1 → bx (m.set k x) j = bx (restL a b) j := fun x hx j hj => by
        rw [(Hbx x j).out]
        by_cases e : j = k
        · rw [if_pos e, e, hx]
        · rw [if_neg e]; exact Hm.out j (by omega)
      have Hkey := Lib.hid key
      clear key
      have hcM := hM.cell (k := k) (by rw [Hml.out]; exact hlt)
      clear hM
      cases e1 : bx a k
      · rw [e1] at hc1 Hr
        clear e1
        go_wp2
        exact ⟨⟨k + 1, m.set k false, by omega, by go_num, (Hset false).out, Lib.hid (by rw [List.length_set]; exact Hml.out), Lib.hid (Hkey.out false Hr.out), hbw.setCell (by simp) _⟩, by simp [intOf]; omega⟩
      · cases e2 : bx b k
        · rw [e1] at hc1 Hr
          rw [e2] at hc2 Hr
          clear e1 e2
          go_wp2
          exact ⟨⟨k + 1, m.set k true, by omega, by go_num, (Hset true).out, Lib.hid (by rw [List.length_set]; exact Hml.out), Lib.hid (Hkey.out true Hr.out), hbw.setCell (by simp) _⟩, by simp [intOf]; omega⟩
        · rw [e1] at hc1 Hr
          rw [e2] at hc2 Hr
          clear e1 e2
          go_wp2
          exact ⟨⟨k + 1, m.set k false, by omega, by go_num, (Hset false).out, Lib.hid (by rw [List.length_set]; exact Hml.out), Lib.hid (Hkey.out false Hr.out), hbw.setCell (by simp) _⟩, by simp [intOf]; omega⟩
    · obtain rfl : k = a.length := by omega
      have hres : m = restL a b := bools_ext (by rw [Hml.out, length_restL]) fun j hj => Hm.out j (by rw [length_restL] at hj; exact hj)
      subst hres
      have hown := hM.own (B := w.heap.size) (Nat.le_refl _) (by rw [length_restL]; omega)
      rw [length_restL] at hown
      go_wp2
      go_ret
      exact .mk' hown hbw

set_option maxHeartbeats 1000000 in
theorem l7Less_any (u : Value) (a : List Bool) (v : Value) (b : List Bool) (w : World) (hu : Bools w u a) (hv : Bools w v b) (hl : a.length = b.length) (hn : a.length ≤ 1048576) :
    Calls Try.prog 88 #[u, v] w (RetBools w (restL a b)) := by
  obtain ⟨A, c, rfl, hlc, hcm⟩ := hu.form
  obtain ⟨A', c', rfl, hlc', hcm'⟩ := hv.form
  have Hl := Lib.hid hl
  clear hl
  have hmk := make_one elem_bool a.length (by omega)
  go_enter Try.func88, Try.ntmps88
  go_wp2
  clear hmk
  have hM := BArr.new w a.length
  have hb2 := (Below.refl w.heap.size w).alloc (Nat.le_refl _) (.cells (zeros (.bool false) a.length).toArray 4)
  generalize w.alloc (.cells (zeros (.bool false) a.length).toArray 4) = w0 at *
  go_loopw [6] (fun i wr => ∃ (k : Nat) (m : List Bool), k ≤ a.length ∧ i = .int .i64 k ∧ BArr wr w.heap.size m ∧ Hid (m.length = a.length) ∧ Hid (∀ j, j < k → bx m j = bx (restL a b) j) ∧ Below w.heap.size w wr) (fun i _ => a.length - (intOf i).toNat)
  case atStart => exact ⟨0, _, Nat.zero_le _, rfl, hM, Lib.hid (by simp), Lib.hid (fun j hj => by omega), hb2⟩
  case round =>
    obtain ⟨k, m, hk, rfl, hM, Hml, Hm, hbw⟩ := hrel
    by_cases hlt : k < a.length
    · obtain ⟨a1, rfl, hc1⟩ := (hu.kept (Kept.of hbw)).at_ hlt
      obtain ⟨a2, rfl, hc2⟩ := (hv.kept (Kept.of hbw)).at_ (k := k) (by rw [← Hl.out]; exact hlt)
      have hlt1 : (k : Int) < a.length := by omega
      have hlt2 : (k : Int) < b.length := by rw [← Hl.out]; omega
      have hf2 := hM.frozen k
      have Hset := fun x => Lib.hid (hM.set_ k x)
      have Hr := Lib.hid (bx_restL a b k)
      have hbs := hbw.size
      have Hbx := fun x j => Lib.hid (bx_set (l := m) (k := k) (j := j) (x := x) (by rw [Hml.out]; exact hlt))
      have key : ∀ x, bx (restL a b) k = x → ∀ j, j < k + 1 → bx (m.set k x) j = bx (restL a b) j := fun x hx j hj => by
        rw [(Hbx x j).out]
        by_cases e : j = k
        · rw [if_pos e, e, hx]
        · rw [if_neg e]; exact Hm.out j (by omega)
      have Hkey := Lib.hid key
      clear key
      have hcM := hM.cell (k := k) (by rw [Hml.out]; exact hlt)
      clear hM
      cases e1 : bx a k
      · rw [e1] at hc1 Hr
        clear e1
        go_wp2
        exact ⟨⟨k + 1, m.set k false, by omega, by go_num, (Hset false).out, Lib.hid (by rw [List.length_set]; exact Hml.out), Lib.hid (Hkey.out false Hr.out), hbw.setCell (by simp) _⟩, by simp [intOf]; omega⟩
      · cases e2 : bx b k
        · rw [e1] at hc1 Hr
          rw [e2] at hc2 Hr
          clear e1 e2
          go_wp2
          exact ⟨⟨k + 1, m.set k true, by omega, by go_num, (Hset true).out, Lib.hid (by rw [List.length_set]; exact Hml.out), Lib.hid (Hkey.out true Hr.out), hbw.setCell (by simp) _⟩, by simp [intOf]; omega⟩
        · rw [e1] at hc1 Hr
          rw [e2] at hc2 Hr
          clear e1 e2
          go_wp2
          exact ⟨⟨k + 1, m.set k false, by omega, by go_num, (Hset false).out, Lib.hid (by rw [List.length_set]; exact Hml.out), Lib.hid (Hkey.out false Hr.out), hbw.setCell (by simp) _⟩, by simp [intOf]; omega⟩
    · obtain rfl : k = a.length := by omega
      have hres : m = restL a b := bools_ext (by rw [Hml.out, length_restL]) fun j hj => Hm.out j (by rw [length_restL] at hj; exact hj)
      subst hres
      have hown := hM.own (B := w.heap.size) (Nat.le_refl _) (by rw [length_restL]; omega)
      rw [length_restL] at hown
      go_wp2
      go_ret
      exact .mk' hown hbw

set_option maxHeartbeats 1000000 in
theorem l7All_any (n : Nat) (w : World) (hn : n ≤ 1048576) : Calls Try.prog 78 #[.int .i64 (n : Int)] w (RetBools w (List.replicate n true)) := by
  have hmk := make_one elem_bool n (by omega)
  go_enter Try.func78, Try.ntmps78
  go_wp2
  clear hmk
  have hM := BArr.new w n
  have hb2 := (Below.refl w.heap.size w).alloc (Nat.le_refl _) (.cells (zeros (.bool false) n).toArray 4)
  generalize w.alloc (.cells (zeros (.bool false) n).toArray 4) = w0 at *
  go_loopw [4] (fun i wr => ∃ (k : Nat) (m : List Bool), k ≤ n ∧ i = .int .i64 k ∧ BArr wr w.heap.size m ∧ m.length = n ∧ (∀ j, j < k → bx m j = true) ∧ Below w.heap.size w wr) (fun i _ => n - (intOf i).toNat)
  case atStart => exact ⟨0, _, Nat.zero_le _, rfl, hM, by simp, fun j hj => by omega, hb2⟩
  case round =>
    obtain ⟨k, m, hk, rfl, hM, hl, hm, hbw⟩ := hrel
    have Hl := Lib.hid hl
    clear hl
    have Hm := Lib.hid hm
    clear hm
    by_cases hlt : k < n
    · have hc2 := hM.cell (k := k) (by rw [Hl.out]; exact hlt)
      have hf2 := hM.frozen k
      have hset := hM.set_ k true
      have hlt' : (k : Int) < n := by omega
      go_wp2
      refine ⟨⟨k + 1, _, by omega, by go_num, hset, by simpa using Hl.out, fun j hj => ?_, hbw.setCell (by simp) _⟩, by simp [intOf]; omega⟩
      rw [bx_set (by rw [Hl.out]; exact hlt)]
      split
      · rfl
      · exact Hm.out j (by omega)
    · obtain rfl : k = n := by omega
      have hml : m = List.replicate k true := bools_ext (by simpa using Hl.out) fun j hj => by
        rw [List.length_replicate] at hj
        rw [Hm.out j hj]; simp [bx, hj]
      subst hml
      have hown := hM.own (B := w.heap.size) (Nat.le_refl _) (by simp; omega)
      rw [List.length_replicate] at hown
      go_wp2
      go_ret
      exact .mk' hown hbw

set_option maxHeartbeats 1000000 in
theorem l7Part_any (u : Value) (s : List Int) (n : Nat) (w : World) (hu : Ints w u s) (hr : Vert s n) (hn : n ≤ 1048576) :
    Calls Try.prog 53 #[.int .i64 (n : Int), u] w (RetBools w (marksL n s)) := by
  obtain ⟨A', c', rfl, hlc', hcm'⟩ := hu.form
  have hmk := make_one elem_bool n (by omega)
  go_enter Try.func53, Try.ntmps53
  go_wp2
  clear hmk
  have hM := BArr.new w n
  rw [← marksL_nil] at hM
  have hb2 := (Below.refl w.heap.size w).alloc (Nat.le_refl _) (.cells (zeros (.bool false) n).toArray 4)
  generalize w.alloc (.cells (zeros (.bool false) n).toArray 4) = w0 at *
  have Hall := Lib.hid (show marksL n (s.take s.length) = marksL n s by rw [List.take_length])
  go_loopw [6] (fun i wr => ∃ k : Nat, k ≤ s.length ∧ i = .int .i64 k ∧ BArr wr w.heap.size (marksL n (s.take k)) ∧ Below w.heap.size w wr) (fun i _ => s.length - (intOf i).toNat)
  case atStart => exact ⟨0, Nat.zero_le _, rfl, hM, hb2⟩
  case round =>
    obtain ⟨k, hk, rfl, hM, hbw⟩ := hrel
    by_cases hlt : k < s.length
    · have hu1 := (hu.kept (Kept.of hbw))
      obtain ⟨a1, rfl, hc1⟩ := hu1.at_ hlt
      obtain ⟨j, hj, hjn⟩ := hr k hlt
      have hc2 := hM.cell (k := j) (by simpa using hjn)
      have hf2 := hM.frozen j
      have hset := hM.set_ j true
      rw [marksL_set hlt hj hjn] at hset
      rw [hj] at hc1
      clear hj
      have hjn' : (j : Int) < n := by omega
      have hlt' : (k : Int) < s.length := by omega
      go_wp2
      exact ⟨⟨k + 1, by omega, by go_num, hset, hbw.setCell (by simp) _⟩, by simp [intOf]; omega⟩
    · obtain rfl : k = s.length := by omega
      rw [Hall.out] at hM
      have hown := hM.own (B := w.heap.size) (by omega) (by simpa using (by omega : n ≤ 4611686018427387904))
      rw [length_marksL] at hown
      go_wp2
      go_ret
      exact .mk' hown hbw
end Go.Proofs.Ytmkmghjmfaoobaa
