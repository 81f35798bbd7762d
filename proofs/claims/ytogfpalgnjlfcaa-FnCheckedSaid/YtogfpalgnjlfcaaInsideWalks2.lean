/- The walks of InsideOf, the program's and the reference's. No condition. Printed by gen_inside.py. -/
import Derived.Test.YtogfpalgnjlfcaaInsidePlain
import Derived.Test.YtogfpalgnjlfcaaGrow
import Derived.Test.YtogfpalgnjlfcaaPkB
namespace Go.Proofs.Ytogfpalgnjlfcaa
set_option linter.unusedSimpArgs false
set_option linter.unusedVariables false
open Go.RowKit

theorem arena_boxR {w : World} {v : Value} {a : ArenaD} (hv : IsArena w v a) : ∃ o n, v = .agg #[o, n] ∧ Below w.heap.size w ((w.alloc (.cells #[o, n] 30)).alloc (.cells #[.slice none 0 0, .slice none 0 0] 30)) ∧
    Arr ((w.alloc (.cells #[o, n] 30)).alloc (.cells #[.slice none 0 0, .slice none 0 0] 30)) w.heap.size 30 [o, n] ∧ Arr ((w.alloc (.cells #[o, n] 30)).alloc (.cells #[.slice none 0 0, .slice none 0 0] 30)) (w.heap.size + 1) 30 [.slice none 0 0, .slice none 0 0] := by
  obtain ⟨o, n, rfl, hbw, hB⟩ := arena_open hv
  refine ⟨o, n, rfl, hbw.alloc hbw.size _, hB.alloc _, ?_⟩
  simpa using Arr.new (w.alloc (.cells #[o, n] 30)) 30 [.slice none 0 0, .slice none 0 0]
theorem insOkB_parts {a : ArenaD} {s : List Int} : insOkB a s = (arenaOkB a && (isSetB s a.owner.length && (decide (s ≠ []) && insB a s))) := rfl
theorem insG_bulk (a : ArenaD) (s : List Int) : bulkA (insG a s) ≤ 1048576 := by
  unfold insG
  split
  · rename_i h
    unfold insOkB at h
    simp only [Bool.and_eq_true] at h
    have hok := arenaOkB_iff.1 h.1
    have hs := isSetB_iff.1 h.2.1
    have h1 := hs.length_le
    have h2 := hok.le
    have h3 : sizeR (s.map fun v => rowIn a s v.toNat) ≤ (s.map fun v => rowIn a s v.toNat).length * 16 := offR_mul (fun k hk => by
      rw [List.length_map] at hk
      obtain ⟨j, hj, hjn⟩ := hs.vert k hk
      have h5 : rx (s.map fun v => rowIn a s v.toNat) k = rowIn a s j := by
        have h6 : s[k] = (j : Int) := by rw [← ix_lt hk]; exact hj
        rw [rx_lt (by simpa using hk)]
        simp [h6]
      rw [h5]
      have := rowIn_len (a := a) (s := s) (v := j)
      have := (hok.deg hjn).2
      omega) (Nat.le_refl _)
    rw [List.length_map] at h3
    unfold bulkA insP
    simp only [List.length_map]
    have : s.length * 16 ≤ 256 * 16 := Nat.mul_le_mul_right _ (by omega)
    omega
  · simp [bulkA, sizeR]

set_option maxHeartbeats 1000000 in
theorem l1Place_any (u : Value) (s : List Int) (x : Int) (w : World) (hu : Ints w u s) :
    Calls Try.prog 81 #[u, .int .i64 x] w fun e w' => e = .returned (.int .i64 (idxL s x)) ∧ w' = w := by
  obtain ⟨US, uc, rfl, huc, hum⟩ := hu.form
  obtain ⟨r, hr⟩ : ∃ r, idxL s x = r := ⟨_, rfl⟩
  rw [hr]
  have Hr := Lib.hid hr
  clear hr
  go_enter Try.func81, Try.ntmps81
  go_wp2
  go_loop [5] (fun i => ∃ k : Nat, k ≤ s.length ∧ i = .int .i64 k ∧ Hid (∀ j, j < k → ix s j ≠ x)) (fun i => s.length - (intOf i).toNat)
  case atStart => exact ⟨0, Nat.zero_le _, rfl, Lib.hid (fun j hj => by omega)⟩
  case round =>
    obtain ⟨k, hk, rfl, Hno⟩ := hrel
    by_cases hlt : k < s.length
    · obtain ⟨a1, rfl, hc1⟩ := hu.at_ hlt
      have hlt' : (k : Int) < s.length := by omega
      by_cases e : ix s k = x
      · have hd : (ix s k == x) = true := by simpa using e
        have Hf := Lib.hid (show r = (k : Int) by rw [← Hr.out, idxL_at hlt e Hno.out])
        clear e
        go_wp2
        go_ret
        exact ⟨by rw [Hf.out]; rfl, rfl⟩
      · have hd : (ix s k == x) = false := by simpa using e
        have He := Lib.hid e
        clear e
        go_wp2
        exact ⟨⟨k + 1, by omega, by go_num, Lib.hid (fun j hj => by
          by_cases ej : j = k
          · rw [ej]; exact He.out
          · exact Hno.out j (by omega))⟩, by simp [intOf]; omega⟩
    · obtain rfl : k = s.length := by omega
      have Hf := Lib.hid (show r = -1 by rw [← Hr.out, idxL_none Hno.out])
      go_wp2
      go_ret
      exact ⟨by rw [Hf.out]; rfl, rfl⟩


end Go.Proofs.Ytogfpalgnjlfcaa
