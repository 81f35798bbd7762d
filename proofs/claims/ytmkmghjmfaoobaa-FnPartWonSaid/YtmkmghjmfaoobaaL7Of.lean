/- The walk of the reference's l7Of. Condition: the game is valid. -/
import Derived.Test.YtmkmghjmfaoobaaPrevWalks
import Derived.Test.YtmkmghjmfaoobaaPkC
import Derived.Test.YtmkmghjmfaoobaaPkD
import Derived.Test.YtmkmghjmfaoobaaPkB
import Derived.Deep.RegionHeld3
import Derived.Deep.RegionLaw
import Derived.Test.YtmkmghjmfaoobaaPkE
namespace Go.Proofs.Ytmkmghjmfaoobaa
set_option linter.unusedSimpArgs false
set_option linter.unusedVariables false
open Go.RowKit

/-- v is the reference's game of a, p: no picks. -/
def IsSeven (w : World) (v : Value) (a : ArenaD) (p : List Int) : Prop :=
  ∃ o pv n q k, v = .agg #[o, pv, n, q, k] ∧ Ints w o a.owner ∧ Ints w pv p ∧ Rows w n a.next ∧ Rows w q (prevL a.next a.owner.length) ∧ Ints w k (List.replicate a.owner.length (-1))
theorem IsSeven.kept {w w' : World} {v : Value} {a : ArenaD} {p : List Int} (h : IsSeven w v a p) (hk : Kept w w') : IsSeven w' v a p := by
  obtain ⟨o, pv, n, q, k, rfl, h1, h2, h3, h4, h5⟩ := h
  exact ⟨o, pv, n, q, k, rfl, h1.kept hk, h2.kept hk, h3.kept hk, h4.kept hk, h5.kept hk⟩

set_option maxRecDepth 100000 in
set_option maxHeartbeats 4000000 in
theorem l7Of_any (v : Value) (g : ParityD) (w : World) (hv : IsParity w v g) (hok : ParityOk g) :
    Calls Try.prog 52 #[v] w fun e w' => ∃ u, e = .returned u ∧ IsSeven w' u g.arena g.prio ∧ Below w.heap.size w w' := by
  obtain ⟨o, n, p, rfl, hbw, hB⟩ := parity_box hv
  obtain ⟨ha, hp⟩ := hv.parts
  obtain ⟨P, pc, rfl, hlp, hmp⟩ := hp.form
  obtain ⟨ho, hn⟩ := ha.parts
  obtain ⟨A', c', rfl, hlc', hcm'⟩ := hn.form
  obtain ⟨A, c, rfl, hlc, hcm⟩ := ho.form
  have hle := hok.arena.le
  have Hlen := Lib.hid hok.len
  obtain ⟨an, rfl⟩ : ∃ an, A' = some an := by
    obtain ⟨an, _, _, e, _⟩ := hn.at_ (k := 0) (by rw [hok.arena.len]; exact hok.arena.pos)
    exact ⟨an, e⟩
  have hR : Arr ((w.alloc (.cells #[.slice A g.arena.owner.length c, .slice (some an) g.arena.next.length c', .slice P g.prio.length pc] 32)).alloc (.cells #[.slice none 0 0, .slice none 0 0, .slice none 0 0, .slice none 0 0, .slice none 0 0] 71)) (w.heap.size + 1) 71 [.slice none 0 0, .slice none 0 0, .slice none 0 0, .slice none 0 0, .slice none 0 0] := by
    simpa using Arr.new (w.alloc (.cells #[.slice A g.arena.owner.length c, .slice (some an) g.arena.next.length c', .slice P g.prio.length pc] 32)) 71 [.slice none 0 0, .slice none 0 0, .slice none 0 0, .slice none 0 0, .slice none 0 0]
  replace hB := hB.alloc (.cells #[.slice none 0 0, .slice none 0 0, .slice none 0 0, .slice none 0 0, .slice none 0 0] 71)
  replace hbw := hbw.alloc hbw.size (.cells #[.slice none 0 0, .slice none 0 0, .slice none 0 0, .slice none 0 0, .slice none 0 0] 71)
  have hmk1 := make_one elem_rows g.prio.length (by rw [hok.len]; omega)
  have hmk2 := make_one elem_int64 g.prio.length (by rw [hok.len]; omega)
  have hBc2 := hB.c2
  go_enter Try.func52, Try.ntmps52
  go_wp2_with fail
  generalize (w.alloc (.cells #[.slice A g.arena.owner.length c, .slice (some an) g.arena.next.length c', .slice P g.prio.length pc] 32)).alloc (.cells #[.slice none 0 0, .slice none 0 0, .slice none 0 0, .slice none 0 0, .slice none 0 0] 71) = w0 at *
  have HS := Lib.hid (fun W (hW : Below w0.heap.size w0 W) => (show W.cell? ⟨w.heap.size, 0, none⟩ = some (.slice A g.arena.owner.length c) ∧ W.cell? ⟨w.heap.size, 1, none⟩ = some (.slice (some an) g.arena.next.length c') ∧ W.cell? ⟨w.heap.size, 2, none⟩ = some (.slice P g.prio.length pc) from ⟨(hB.below hW hB.lt).c0, (hB.below hW hB.lt).c1, (hB.below hW hB.lt).c2⟩))
  have hR0 : Below w0.heap.size w0 w0.drew := ⟨rfl, rfl, rfl, Nat.le_refl _, fun _ _ => rfl⟩
  go_wp2_with fail
  refine Code.wp_mono (Q := fun e b W => ∃ gP gV gX : Nat, e = .normal ∧ b = ⟨#[.agg #[.slice A g.arena.owner.length c, .slice (some an) g.arena.next.length c', .slice P g.prio.length pc], .pointer (some ⟨w.heap.size, 0, none⟩), .pointer (some ⟨w.heap.size + 1, 0, none⟩), .int .i64 g.prio.length, .pointer (some ⟨gX, 0, none⟩), undef, undef, undef, .pointer (some ⟨w.heap.size, 2, none⟩), .slice P g.prio.length pc, .int .i64 g.prio.length, .pointer (some ⟨w.heap.size, 0, none⟩), .pointer (some ⟨w.heap.size, 0, none⟩), .slice A g.arena.owner.length c, .pointer (some ⟨w.heap.size, 2, none⟩), .slice P g.prio.length pc, .pointer (some ⟨w.heap.size, 0, none⟩), .pointer (some ⟨w.heap.size, 1, none⟩), .slice (some an) g.arena.next.length c', .int .i64 g.prio.length, .slice (some ⟨gP, 0, none⟩) g.prio.length g.prio.length, .int .i64 g.prio.length, .slice (some ⟨gV, 0, none⟩) g.prio.length g.prio.length, .agg #[.slice A g.arena.owner.length c, .slice P g.prio.length pc, .slice (some an) g.arena.next.length c', .slice (some ⟨gP, 0, none⟩) g.prio.length g.prio.length, .slice (some ⟨gV, 0, none⟩) g.prio.length g.prio.length], undef, undef, undef, undef, undef, undef, undef, undef, undef, undef, undef, undef, undef, undef, undef, undef, undef, undef, undef, undef, undef, undef, undef, undef, undef, undef, undef, undef, undef, undef, undef, undef, undef, undef, undef, undef, undef, undef, undef, undef, undef, undef], []⟩ ∧ Arr W gP 22 (zeros (.slice none 0 0) g.prio.length) ∧ IArr W gV (List.replicate g.prio.length 0) ∧ Arr W gX 71 [.slice A g.arena.owner.length c, .slice P g.prio.length pc, .slice (some an) g.arena.next.length c', .slice (some ⟨gP, 0, none⟩) g.prio.length g.prio.length, .slice (some ⟨gV, 0, none⟩) g.prio.length g.prio.length] ∧ Below w0.heap.size w0 W ∧ W.heap.size = w0.heap.size + 3 ∧ w0.heap.size ≤ gP ∧ w0.heap.size ≤ gV ∧ w0.heap.size ≤ gX ∧ gP ≠ gV ∧ gP ≠ gX ∧ gV ≠ gX) ?_ ?_
  rotate_left
  · go_region_held3 (fun W => W.cell? ⟨w.heap.size, 0, none⟩ = some (.slice A g.arena.owner.length c) ∧ W.cell? ⟨w.heap.size, 1, none⟩ = some (.slice (some an) g.arena.next.length c') ∧ W.cell? ⟨w.heap.size, 2, none⟩ = some (.slice P g.prio.length pc))
      (first | exact HS.out _ hR0 | exact HS.out _ (hR0.alloc (by simp <;> omega) _) | exact HS.out _ ((hR0.alloc (by simp <;> omega) _).alloc (by simp <;> omega) _) | exact HS.out _ (((hR0.alloc (by simp <;> omega) _).alloc (by simp <;> omega) _).alloc (by simp <;> omega) _))
      (fail)
    · have hP := (((Arr.new w0 22 (zeros (.slice none 0 0) g.prio.length)).alloc (.cells (zeros (.int .i64 0) g.prio.length).toArray 2)).alloc (.cells #[.slice A g.arena.owner.length c, .slice P g.prio.length pc, .slice (some an) g.arena.next.length c', .slice (some ⟨w0.heap.size, 0, none⟩) g.prio.length g.prio.length, .slice (some ⟨w0.heap.size + 1, 0, none⟩) g.prio.length g.prio.length] 71))
      have hV := ((Arr.new (w0.alloc (.cells (zeros (.slice none 0 0) g.prio.length).toArray 22)) 2 (zeros (.int .i64 0) g.prio.length)).alloc (.cells #[.slice A g.arena.owner.length c, .slice P g.prio.length pc, .slice (some an) g.arena.next.length c', .slice (some ⟨w0.heap.size, 0, none⟩) g.prio.length g.prio.length, .slice (some ⟨w0.heap.size + 1, 0, none⟩) g.prio.length g.prio.length] 71))
      have hX := (Arr.new ((w0.alloc (.cells (zeros (.slice none 0 0) g.prio.length).toArray 22)).alloc (.cells (zeros (.int .i64 0) g.prio.length).toArray 2)) 71 [.slice A g.arena.owner.length c, .slice P g.prio.length pc, .slice (some an) g.arena.next.length c', .slice (some ⟨w0.heap.size, 0, none⟩) g.prio.length g.prio.length, .slice (some ⟨w0.heap.size + 1, 0, none⟩) g.prio.length g.prio.length])
      have z1 : (w0.alloc (.cells (zeros (.slice none 0 0) g.prio.length).toArray 22)).heap.size = w0.heap.size + 1 := by simp
      have z2 : ((w0.alloc (.cells (zeros (.slice none 0 0) g.prio.length).toArray 22)).alloc (.cells (zeros (.int .i64 0) g.prio.length).toArray 2)).heap.size = w0.heap.size + 1 + 1 := by simp
      have z3 : (((w0.alloc (.cells (zeros (.slice none 0 0) g.prio.length).toArray 22)).alloc (.cells (zeros (.int .i64 0) g.prio.length).toArray 2)).alloc (.cells #[.slice A g.arena.owner.length c, .slice P g.prio.length pc, .slice (some an) g.arena.next.length c', .slice (some ⟨w0.heap.size, 0, none⟩) g.prio.length g.prio.length, .slice (some ⟨w0.heap.size + 1, 0, none⟩) g.prio.length g.prio.length] 71)).heap.size = w0.heap.size + 3 := by simp
      rw [z1] at hV
      rw [z2] at hX
      have hb5 : Below w0.heap.size w0 (((w0.alloc (.cells (zeros (.slice none 0 0) g.prio.length).toArray 22)).alloc (.cells (zeros (.int .i64 0) g.prio.length).toArray 2)).alloc (.cells #[.slice A g.arena.owner.length c, .slice P g.prio.length pc, .slice (some an) g.arena.next.length c', .slice (some ⟨w0.heap.size, 0, none⟩) g.prio.length g.prio.length, .slice (some ⟨w0.heap.size + 1, 0, none⟩) g.prio.length g.prio.length] 71)) := (((Below.refl _ _).alloc (Nat.le_refl _) (.cells (zeros (.slice none 0 0) g.prio.length).toArray 22)).alloc (by simp) (.cells (zeros (.int .i64 0) g.prio.length).toArray 2)).alloc (by simp <;> omega) (.cells #[.slice A g.arena.owner.length c, .slice P g.prio.length pc, .slice (some an) g.arena.next.length c', .slice (some ⟨w0.heap.size, 0, none⟩) g.prio.length g.prio.length, .slice (some ⟨w0.heap.size + 1, 0, none⟩) g.prio.length g.prio.length] 71)
      exact ⟨w0.heap.size, w0.heap.size + 1, w0.heap.size + 1 + 1, rfl, rfl, hP, by have h : Arr (((w0.alloc (.cells (zeros (.slice none 0 0) g.prio.length).toArray 22)).alloc (.cells (zeros (.int .i64 0) g.prio.length).toArray 2)).alloc (.cells #[.slice A g.arena.owner.length c, .slice P g.prio.length pc, .slice (some an) g.arena.next.length c', .slice (some ⟨w0.heap.size, 0, none⟩) g.prio.length g.prio.length, .slice (some ⟨w0.heap.size + 1, 0, none⟩) g.prio.length g.prio.length] 71)).drew (w0.heap.size + 1) 2 _ := hV; unfold IArr; rwa [List.map_replicate], hX, ⟨hb5.os, hb5.tape, hb5.output, hb5.size, hb5.block⟩, z3, by omega, by omega, by omega, by omega, by omega, by omega⟩
    · have hP := (((Arr.new w0 22 (zeros (.slice none 0 0) g.prio.length)).alloc (.cells #[.slice A g.arena.owner.length c, .slice P g.prio.length pc, .slice (some an) g.arena.next.length c', .slice (some ⟨w0.heap.size, 0, none⟩) g.prio.length g.prio.length, .slice (some ⟨w0.heap.size + 1 + 1, 0, none⟩) g.prio.length g.prio.length] 71)).alloc (.cells (zeros (.int .i64 0) g.prio.length).toArray 2))
      have hX := ((Arr.new (w0.alloc (.cells (zeros (.slice none 0 0) g.prio.length).toArray 22)) 71 [.slice A g.arena.owner.length c, .slice P g.prio.length pc, .slice (some an) g.arena.next.length c', .slice (some ⟨w0.heap.size, 0, none⟩) g.prio.length g.prio.length, .slice (some ⟨w0.heap.size + 1 + 1, 0, none⟩) g.prio.length g.prio.length]).alloc (.cells (zeros (.int .i64 0) g.prio.length).toArray 2))
      have hV := (Arr.new ((w0.alloc (.cells (zeros (.slice none 0 0) g.prio.length).toArray 22)).alloc (.cells #[.slice A g.arena.owner.length c, .slice P g.prio.length pc, .slice (some an) g.arena.next.length c', .slice (some ⟨w0.heap.size, 0, none⟩) g.prio.length g.prio.length, .slice (some ⟨w0.heap.size + 1 + 1, 0, none⟩) g.prio.length g.prio.length] 71)) 2 (zeros (.int .i64 0) g.prio.length))
      have z1 : (w0.alloc (.cells (zeros (.slice none 0 0) g.prio.length).toArray 22)).heap.size = w0.heap.size + 1 := by simp
      have z2 : ((w0.alloc (.cells (zeros (.slice none 0 0) g.prio.length).toArray 22)).alloc (.cells #[.slice A g.arena.owner.length c, .slice P g.prio.length pc, .slice (some an) g.arena.next.length c', .slice (some ⟨w0.heap.size, 0, none⟩) g.prio.length g.prio.length, .slice (some ⟨w0.heap.size + 1 + 1, 0, none⟩) g.prio.length g.prio.length] 71)).heap.size = w0.heap.size + 1 + 1 := by simp
      have z3 : (((w0.alloc (.cells (zeros (.slice none 0 0) g.prio.length).toArray 22)).alloc (.cells #[.slice A g.arena.owner.length c, .slice P g.prio.length pc, .slice (some an) g.arena.next.length c', .slice (some ⟨w0.heap.size, 0, none⟩) g.prio.length g.prio.length, .slice (some ⟨w0.heap.size + 1 + 1, 0, none⟩) g.prio.length g.prio.length] 71)).alloc (.cells (zeros (.int .i64 0) g.prio.length).toArray 2)).heap.size = w0.heap.size + 3 := by simp
      rw [z1] at hX
      rw [z2] at hV
      have hb5 : Below w0.heap.size w0 (((w0.alloc (.cells (zeros (.slice none 0 0) g.prio.length).toArray 22)).alloc (.cells #[.slice A g.arena.owner.length c, .slice P g.prio.length pc, .slice (some an) g.arena.next.length c', .slice (some ⟨w0.heap.size, 0, none⟩) g.prio.length g.prio.length, .slice (some ⟨w0.heap.size + 1 + 1, 0, none⟩) g.prio.length g.prio.length] 71)).alloc (.cells (zeros (.int .i64 0) g.prio.length).toArray 2)) := (((Below.refl _ _).alloc (Nat.le_refl _) (.cells (zeros (.slice none 0 0) g.prio.length).toArray 22)).alloc (by simp) (.cells #[.slice A g.arena.owner.length c, .slice P g.prio.length pc, .slice (some an) g.arena.next.length c', .slice (some ⟨w0.heap.size, 0, none⟩) g.prio.length g.prio.length, .slice (some ⟨w0.heap.size + 1 + 1, 0, none⟩) g.prio.length g.prio.length] 71)).alloc (by simp <;> omega) (.cells (zeros (.int .i64 0) g.prio.length).toArray 2)
      exact ⟨w0.heap.size, w0.heap.size + 1 + 1, w0.heap.size + 1, rfl, rfl, hP, by have h : Arr (((w0.alloc (.cells (zeros (.slice none 0 0) g.prio.length).toArray 22)).alloc (.cells #[.slice A g.arena.owner.length c, .slice P g.prio.length pc, .slice (some an) g.arena.next.length c', .slice (some ⟨w0.heap.size, 0, none⟩) g.prio.length g.prio.length, .slice (some ⟨w0.heap.size + 1 + 1, 0, none⟩) g.prio.length g.prio.length] 71)).alloc (.cells (zeros (.int .i64 0) g.prio.length).toArray 2)).drew (w0.heap.size + 1 + 1) 2 _ := hV; unfold IArr; rwa [List.map_replicate], hX, ⟨hb5.os, hb5.tape, hb5.output, hb5.size, hb5.block⟩, z3, by omega, by omega, by omega, by omega, by omega, by omega⟩
    · have hV := (((Arr.new w0 2 (zeros (.int .i64 0) g.prio.length)).alloc (.cells (zeros (.slice none 0 0) g.prio.length).toArray 22)).alloc (.cells #[.slice A g.arena.owner.length c, .slice P g.prio.length pc, .slice (some an) g.arena.next.length c', .slice (some ⟨w0.heap.size + 1, 0, none⟩) g.prio.length g.prio.length, .slice (some ⟨w0.heap.size, 0, none⟩) g.prio.length g.prio.length] 71))
      have hP := ((Arr.new (w0.alloc (.cells (zeros (.int .i64 0) g.prio.length).toArray 2)) 22 (zeros (.slice none 0 0) g.prio.length)).alloc (.cells #[.slice A g.arena.owner.length c, .slice P g.prio.length pc, .slice (some an) g.arena.next.length c', .slice (some ⟨w0.heap.size + 1, 0, none⟩) g.prio.length g.prio.length, .slice (some ⟨w0.heap.size, 0, none⟩) g.prio.length g.prio.length] 71))
      have hX := (Arr.new ((w0.alloc (.cells (zeros (.int .i64 0) g.prio.length).toArray 2)).alloc (.cells (zeros (.slice none 0 0) g.prio.length).toArray 22)) 71 [.slice A g.arena.owner.length c, .slice P g.prio.length pc, .slice (some an) g.arena.next.length c', .slice (some ⟨w0.heap.size + 1, 0, none⟩) g.prio.length g.prio.length, .slice (some ⟨w0.heap.size, 0, none⟩) g.prio.length g.prio.length])
      have z1 : (w0.alloc (.cells (zeros (.int .i64 0) g.prio.length).toArray 2)).heap.size = w0.heap.size + 1 := by simp
      have z2 : ((w0.alloc (.cells (zeros (.int .i64 0) g.prio.length).toArray 2)).alloc (.cells (zeros (.slice none 0 0) g.prio.length).toArray 22)).heap.size = w0.heap.size + 1 + 1 := by simp
      have z3 : (((w0.alloc (.cells (zeros (.int .i64 0) g.prio.length).toArray 2)).alloc (.cells (zeros (.slice none 0 0) g.prio.length).toArray 22)).alloc (.cells #[.slice A g.arena.owner.length c, .slice P g.prio.length pc, .slice (some an) g.arena.next.length c', .slice (some ⟨w0.heap.size + 1, 0, none⟩) g.prio.length g.prio.length, .slice (some ⟨w0.heap.size, 0, none⟩) g.prio.length g.prio.length] 71)).heap.size = w0.heap.size + 3 := by simp
      rw [z1] at hP
      rw [z2] at hX
      have hb5 : Below w0.heap.size w0 (((w0.alloc (.cells (zeros (.int .i64 0) g.prio.length).toArray 2)).alloc (.cells (zeros (.slice none 0 0) g.prio.length).toArray 22)).alloc (.cells #[.slice A g.arena.owner.length c, .slice P g.prio.length pc, .slice (some an) g.arena.next.length c', .slice (some ⟨w0.heap.size + 1, 0, none⟩) g.prio.length g.prio.length, .slice (some ⟨w0.heap.size, 0, none⟩) g.prio.length g.prio.length] 71)) := (((Below.refl _ _).alloc (Nat.le_refl _) (.cells (zeros (.int .i64 0) g.prio.length).toArray 2)).alloc (by simp) (.cells (zeros (.slice none 0 0) g.prio.length).toArray 22)).alloc (by simp <;> omega) (.cells #[.slice A g.arena.owner.length c, .slice P g.prio.length pc, .slice (some an) g.arena.next.length c', .slice (some ⟨w0.heap.size + 1, 0, none⟩) g.prio.length g.prio.length, .slice (some ⟨w0.heap.size, 0, none⟩) g.prio.length g.prio.length] 71)
      exact ⟨w0.heap.size + 1, w0.heap.size, w0.heap.size + 1 + 1, rfl, rfl, hP, by have h : Arr (((w0.alloc (.cells (zeros (.int .i64 0) g.prio.length).toArray 2)).alloc (.cells (zeros (.slice none 0 0) g.prio.length).toArray 22)).alloc (.cells #[.slice A g.arena.owner.length c, .slice P g.prio.length pc, .slice (some an) g.arena.next.length c', .slice (some ⟨w0.heap.size + 1, 0, none⟩) g.prio.length g.prio.length, .slice (some ⟨w0.heap.size, 0, none⟩) g.prio.length g.prio.length] 71)).drew (w0.heap.size) 2 _ := hV; unfold IArr; rwa [List.map_replicate], hX, ⟨hb5.os, hb5.tape, hb5.output, hb5.size, hb5.block⟩, z3, by omega, by omega, by omega, by omega, by omega, by omega⟩
    · have hV := (((Arr.new w0 2 (zeros (.int .i64 0) g.prio.length)).alloc (.cells #[.slice A g.arena.owner.length c, .slice P g.prio.length pc, .slice (some an) g.arena.next.length c', .slice (some ⟨w0.heap.size + 1 + 1, 0, none⟩) g.prio.length g.prio.length, .slice (some ⟨w0.heap.size, 0, none⟩) g.prio.length g.prio.length] 71)).alloc (.cells (zeros (.slice none 0 0) g.prio.length).toArray 22))
      have hX := ((Arr.new (w0.alloc (.cells (zeros (.int .i64 0) g.prio.length).toArray 2)) 71 [.slice A g.arena.owner.length c, .slice P g.prio.length pc, .slice (some an) g.arena.next.length c', .slice (some ⟨w0.heap.size + 1 + 1, 0, none⟩) g.prio.length g.prio.length, .slice (some ⟨w0.heap.size, 0, none⟩) g.prio.length g.prio.length]).alloc (.cells (zeros (.slice none 0 0) g.prio.length).toArray 22))
      have hP := (Arr.new ((w0.alloc (.cells (zeros (.int .i64 0) g.prio.length).toArray 2)).alloc (.cells #[.slice A g.arena.owner.length c, .slice P g.prio.length pc, .slice (some an) g.arena.next.length c', .slice (some ⟨w0.heap.size + 1 + 1, 0, none⟩) g.prio.length g.prio.length, .slice (some ⟨w0.heap.size, 0, none⟩) g.prio.length g.prio.length] 71)) 22 (zeros (.slice none 0 0) g.prio.length))
      have z1 : (w0.alloc (.cells (zeros (.int .i64 0) g.prio.length).toArray 2)).heap.size = w0.heap.size + 1 := by simp
      have z2 : ((w0.alloc (.cells (zeros (.int .i64 0) g.prio.length).toArray 2)).alloc (.cells #[.slice A g.arena.owner.length c, .slice P g.prio.length pc, .slice (some an) g.arena.next.length c', .slice (some ⟨w0.heap.size + 1 + 1, 0, none⟩) g.prio.length g.prio.length, .slice (some ⟨w0.heap.size, 0, none⟩) g.prio.length g.prio.length] 71)).heap.size = w0.heap.size + 1 + 1 := by simp
      have z3 : (((w0.alloc (.cells (zeros (.int .i64 0) g.prio.length).toArray 2)).alloc (.cells #[.slice A g.arena.owner.length c, .slice P g.prio.length pc, .slice (some an) g.arena.next.length c', .slice (some ⟨w0.heap.size + 1 + 1, 0, none⟩) g.prio.length g.prio.length, .slice (some ⟨w0.heap.size, 0, none⟩) g.prio.length g.prio.length] 71)).alloc (.cells (zeros (.slice none 0 0) g.prio.length).toArray 22)).heap.size = w0.heap.size + 3 := by simp
      rw [z1] at hX
      rw [z2] at hP
      have hb5 : Below w0.heap.size w0 (((w0.alloc (.cells (zeros (.int .i64 0) g.prio.length).toArray 2)).alloc (.cells #[.slice A g.arena.owner.length c, .slice P g.prio.length pc, .slice (some an) g.arena.next.length c', .slice (some ⟨w0.heap.size + 1 + 1, 0, none⟩) g.prio.length g.prio.length, .slice (some ⟨w0.heap.size, 0, none⟩) g.prio.length g.prio.length] 71)).alloc (.cells (zeros (.slice none 0 0) g.prio.length).toArray 22)) := (((Below.refl _ _).alloc (Nat.le_refl _) (.cells (zeros (.int .i64 0) g.prio.length).toArray 2)).alloc (by simp) (.cells #[.slice A g.arena.owner.length c, .slice P g.prio.length pc, .slice (some an) g.arena.next.length c', .slice (some ⟨w0.heap.size + 1 + 1, 0, none⟩) g.prio.length g.prio.length, .slice (some ⟨w0.heap.size, 0, none⟩) g.prio.length g.prio.length] 71)).alloc (by simp <;> omega) (.cells (zeros (.slice none 0 0) g.prio.length).toArray 22)
      exact ⟨w0.heap.size + 1 + 1, w0.heap.size, w0.heap.size + 1, rfl, rfl, hP, by have h : Arr (((w0.alloc (.cells (zeros (.int .i64 0) g.prio.length).toArray 2)).alloc (.cells #[.slice A g.arena.owner.length c, .slice P g.prio.length pc, .slice (some an) g.arena.next.length c', .slice (some ⟨w0.heap.size + 1 + 1, 0, none⟩) g.prio.length g.prio.length, .slice (some ⟨w0.heap.size, 0, none⟩) g.prio.length g.prio.length] 71)).alloc (.cells (zeros (.slice none 0 0) g.prio.length).toArray 22)).drew (w0.heap.size) 2 _ := hV; unfold IArr; rwa [List.map_replicate], hX, ⟨hb5.os, hb5.tape, hb5.output, hb5.size, hb5.block⟩, z3, by omega, by omega, by omega, by omega, by omega, by omega⟩
    · have hX := (((Arr.new w0 71 [.slice A g.arena.owner.length c, .slice P g.prio.length pc, .slice (some an) g.arena.next.length c', .slice (some ⟨w0.heap.size + 1, 0, none⟩) g.prio.length g.prio.length, .slice (some ⟨w0.heap.size + 1 + 1, 0, none⟩) g.prio.length g.prio.length]).alloc (.cells (zeros (.slice none 0 0) g.prio.length).toArray 22)).alloc (.cells (zeros (.int .i64 0) g.prio.length).toArray 2))
      have hP := ((Arr.new (w0.alloc (.cells #[.slice A g.arena.owner.length c, .slice P g.prio.length pc, .slice (some an) g.arena.next.length c', .slice (some ⟨w0.heap.size + 1, 0, none⟩) g.prio.length g.prio.length, .slice (some ⟨w0.heap.size + 1 + 1, 0, none⟩) g.prio.length g.prio.length] 71)) 22 (zeros (.slice none 0 0) g.prio.length)).alloc (.cells (zeros (.int .i64 0) g.prio.length).toArray 2))
      have hV := (Arr.new ((w0.alloc (.cells #[.slice A g.arena.owner.length c, .slice P g.prio.length pc, .slice (some an) g.arena.next.length c', .slice (some ⟨w0.heap.size + 1, 0, none⟩) g.prio.length g.prio.length, .slice (some ⟨w0.heap.size + 1 + 1, 0, none⟩) g.prio.length g.prio.length] 71)).alloc (.cells (zeros (.slice none 0 0) g.prio.length).toArray 22)) 2 (zeros (.int .i64 0) g.prio.length))
      have z1 : (w0.alloc (.cells #[.slice A g.arena.owner.length c, .slice P g.prio.length pc, .slice (some an) g.arena.next.length c', .slice (some ⟨w0.heap.size + 1, 0, none⟩) g.prio.length g.prio.length, .slice (some ⟨w0.heap.size + 1 + 1, 0, none⟩) g.prio.length g.prio.length] 71)).heap.size = w0.heap.size + 1 := by simp
      have z2 : ((w0.alloc (.cells #[.slice A g.arena.owner.length c, .slice P g.prio.length pc, .slice (some an) g.arena.next.length c', .slice (some ⟨w0.heap.size + 1, 0, none⟩) g.prio.length g.prio.length, .slice (some ⟨w0.heap.size + 1 + 1, 0, none⟩) g.prio.length g.prio.length] 71)).alloc (.cells (zeros (.slice none 0 0) g.prio.length).toArray 22)).heap.size = w0.heap.size + 1 + 1 := by simp
      have z3 : (((w0.alloc (.cells #[.slice A g.arena.owner.length c, .slice P g.prio.length pc, .slice (some an) g.arena.next.length c', .slice (some ⟨w0.heap.size + 1, 0, none⟩) g.prio.length g.prio.length, .slice (some ⟨w0.heap.size + 1 + 1, 0, none⟩) g.prio.length g.prio.length] 71)).alloc (.cells (zeros (.slice none 0 0) g.prio.length).toArray 22)).alloc (.cells (zeros (.int .i64 0) g.prio.length).toArray 2)).heap.size = w0.heap.size + 3 := by simp
      rw [z1] at hP
      rw [z2] at hV
      have hb5 : Below w0.heap.size w0 (((w0.alloc (.cells #[.slice A g.arena.owner.length c, .slice P g.prio.length pc, .slice (some an) g.arena.next.length c', .slice (some ⟨w0.heap.size + 1, 0, none⟩) g.prio.length g.prio.length, .slice (some ⟨w0.heap.size + 1 + 1, 0, none⟩) g.prio.length g.prio.length] 71)).alloc (.cells (zeros (.slice none 0 0) g.prio.length).toArray 22)).alloc (.cells (zeros (.int .i64 0) g.prio.length).toArray 2)) := (((Below.refl _ _).alloc (Nat.le_refl _) (.cells #[.slice A g.arena.owner.length c, .slice P g.prio.length pc, .slice (some an) g.arena.next.length c', .slice (some ⟨w0.heap.size + 1, 0, none⟩) g.prio.length g.prio.length, .slice (some ⟨w0.heap.size + 1 + 1, 0, none⟩) g.prio.length g.prio.length] 71)).alloc (by simp) (.cells (zeros (.slice none 0 0) g.prio.length).toArray 22)).alloc (by simp <;> omega) (.cells (zeros (.int .i64 0) g.prio.length).toArray 2)
      exact ⟨w0.heap.size + 1, w0.heap.size + 1 + 1, w0.heap.size, rfl, rfl, hP, by have h : Arr (((w0.alloc (.cells #[.slice A g.arena.owner.length c, .slice P g.prio.length pc, .slice (some an) g.arena.next.length c', .slice (some ⟨w0.heap.size + 1, 0, none⟩) g.prio.length g.prio.length, .slice (some ⟨w0.heap.size + 1 + 1, 0, none⟩) g.prio.length g.prio.length] 71)).alloc (.cells (zeros (.slice none 0 0) g.prio.length).toArray 22)).alloc (.cells (zeros (.int .i64 0) g.prio.length).toArray 2)).drew (w0.heap.size + 1 + 1) 2 _ := hV; unfold IArr; rwa [List.map_replicate], hX, ⟨hb5.os, hb5.tape, hb5.output, hb5.size, hb5.block⟩, z3, by omega, by omega, by omega, by omega, by omega, by omega⟩
    · have hX := (((Arr.new w0 71 [.slice A g.arena.owner.length c, .slice P g.prio.length pc, .slice (some an) g.arena.next.length c', .slice (some ⟨w0.heap.size + 1 + 1, 0, none⟩) g.prio.length g.prio.length, .slice (some ⟨w0.heap.size + 1, 0, none⟩) g.prio.length g.prio.length]).alloc (.cells (zeros (.int .i64 0) g.prio.length).toArray 2)).alloc (.cells (zeros (.slice none 0 0) g.prio.length).toArray 22))
      have hV := ((Arr.new (w0.alloc (.cells #[.slice A g.arena.owner.length c, .slice P g.prio.length pc, .slice (some an) g.arena.next.length c', .slice (some ⟨w0.heap.size + 1 + 1, 0, none⟩) g.prio.length g.prio.length, .slice (some ⟨w0.heap.size + 1, 0, none⟩) g.prio.length g.prio.length] 71)) 2 (zeros (.int .i64 0) g.prio.length)).alloc (.cells (zeros (.slice none 0 0) g.prio.length).toArray 22))
      have hP := (Arr.new ((w0.alloc (.cells #[.slice A g.arena.owner.length c, .slice P g.prio.length pc, .slice (some an) g.arena.next.length c', .slice (some ⟨w0.heap.size + 1 + 1, 0, none⟩) g.prio.length g.prio.length, .slice (some ⟨w0.heap.size + 1, 0, none⟩) g.prio.length g.prio.length] 71)).alloc (.cells (zeros (.int .i64 0) g.prio.length).toArray 2)) 22 (zeros (.slice none 0 0) g.prio.length))
      have z1 : (w0.alloc (.cells #[.slice A g.arena.owner.length c, .slice P g.prio.length pc, .slice (some an) g.arena.next.length c', .slice (some ⟨w0.heap.size + 1 + 1, 0, none⟩) g.prio.length g.prio.length, .slice (some ⟨w0.heap.size + 1, 0, none⟩) g.prio.length g.prio.length] 71)).heap.size = w0.heap.size + 1 := by simp
      have z2 : ((w0.alloc (.cells #[.slice A g.arena.owner.length c, .slice P g.prio.length pc, .slice (some an) g.arena.next.length c', .slice (some ⟨w0.heap.size + 1 + 1, 0, none⟩) g.prio.length g.prio.length, .slice (some ⟨w0.heap.size + 1, 0, none⟩) g.prio.length g.prio.length] 71)).alloc (.cells (zeros (.int .i64 0) g.prio.length).toArray 2)).heap.size = w0.heap.size + 1 + 1 := by simp
      have z3 : (((w0.alloc (.cells #[.slice A g.arena.owner.length c, .slice P g.prio.length pc, .slice (some an) g.arena.next.length c', .slice (some ⟨w0.heap.size + 1 + 1, 0, none⟩) g.prio.length g.prio.length, .slice (some ⟨w0.heap.size + 1, 0, none⟩) g.prio.length g.prio.length] 71)).alloc (.cells (zeros (.int .i64 0) g.prio.length).toArray 2)).alloc (.cells (zeros (.slice none 0 0) g.prio.length).toArray 22)).heap.size = w0.heap.size + 3 := by simp
      rw [z1] at hV
      rw [z2] at hP
      have hb5 : Below w0.heap.size w0 (((w0.alloc (.cells #[.slice A g.arena.owner.length c, .slice P g.prio.length pc, .slice (some an) g.arena.next.length c', .slice (some ⟨w0.heap.size + 1 + 1, 0, none⟩) g.prio.length g.prio.length, .slice (some ⟨w0.heap.size + 1, 0, none⟩) g.prio.length g.prio.length] 71)).alloc (.cells (zeros (.int .i64 0) g.prio.length).toArray 2)).alloc (.cells (zeros (.slice none 0 0) g.prio.length).toArray 22)) := (((Below.refl _ _).alloc (Nat.le_refl _) (.cells #[.slice A g.arena.owner.length c, .slice P g.prio.length pc, .slice (some an) g.arena.next.length c', .slice (some ⟨w0.heap.size + 1 + 1, 0, none⟩) g.prio.length g.prio.length, .slice (some ⟨w0.heap.size + 1, 0, none⟩) g.prio.length g.prio.length] 71)).alloc (by simp) (.cells (zeros (.int .i64 0) g.prio.length).toArray 2)).alloc (by simp <;> omega) (.cells (zeros (.slice none 0 0) g.prio.length).toArray 22)
      exact ⟨w0.heap.size + 1 + 1, w0.heap.size + 1, w0.heap.size, rfl, rfl, hP, by have h : Arr (((w0.alloc (.cells #[.slice A g.arena.owner.length c, .slice P g.prio.length pc, .slice (some an) g.arena.next.length c', .slice (some ⟨w0.heap.size + 1 + 1, 0, none⟩) g.prio.length g.prio.length, .slice (some ⟨w0.heap.size + 1, 0, none⟩) g.prio.length g.prio.length] 71)).alloc (.cells (zeros (.int .i64 0) g.prio.length).toArray 2)).alloc (.cells (zeros (.slice none 0 0) g.prio.length).toArray 22)).drew (w0.heap.size + 1) 2 _ := hV; unfold IArr; rwa [List.map_replicate], hX, ⟨hb5.os, hb5.tape, hb5.output, hb5.size, hb5.block⟩, z3, by omega, by omega, by omega, by omega, by omega, by omega⟩
  rintro e b w5 ⟨gP, gV, gX, rfl, rfl, hP', hV', hX', hb5', z3', hgP, hgV, hgX, hPV, hPX, hVX⟩
  go_wp2_with fail
  have hXl : gX < w0.heap.size + 3 := by have := hX'.lt; omega
  have hVl : gV < w0.heap.size + 3 := by have h : gV < w5.heap.size := Arr.lt hV'; omega
  have hPl : gP < w0.heap.size + 3 := by have := hP'.lt; omega
  have hr0 := RowsV.made (B := w0.heap.size) (C := w5.heap.size) hP' hgP hP'.lt (by rw [Hlen.out]; omega)
  rw [← prevAt_zero g.arena.next] at hr0
  have hnb : ∀ j, (vx (List.replicate g.prio.length (Value.slice none 0 0)) j).ownBlock = none := fun j => by
    unfold vx
    by_cases hj : j < g.prio.length
    · simp [hj, Value.ownBlock]
    · simp [hj]
      rfl
  have Hz3 := Lib.hid z3'
  clear hP' z3'
  go_loopw [5] (fun i wr => ∃ (k : Nat) (vs : List Value) (pl : List Int), k ≤ g.prio.length ∧ i = .int .i64 k ∧ RowsV wr w0.heap.size wr.heap.size (.slice (some ⟨gP, 0, none⟩) g.prio.length g.prio.length) vs (prevAt g.arena.next g.prio.length k 0) ∧ Hid (∀ j b, (vx vs j).ownBlock = some b → w0.heap.size + 3 ≤ b) ∧ IArr wr gV pl ∧ Hid (pl.length = g.prio.length) ∧ Hid (∀ j, j < k → ix pl j = -1) ∧ Arr wr gX 71 [.slice A g.arena.owner.length c, .slice P g.prio.length pc, .slice (some an) g.arena.next.length c', .slice (some ⟨gP, 0, none⟩) g.prio.length g.prio.length, .slice (some ⟨gV, 0, none⟩) g.prio.length g.prio.length] ∧ Below w0.heap.size w0 wr ∧ w0.heap.size + 3 ≤ wr.heap.size) (fun i _ => g.prio.length - (intOf i).toNat)
  case atStart => exact ⟨0, _, _, Nat.zero_le _, rfl, hr0, Lib.hid (fun j b hb => by rw [hnb j] at hb; cases hb), hV', Lib.hid (by simp), Lib.hid (fun j hj => by omega), hX', hb5', by have := Hz3.out; omega⟩
  case round =>
    obtain ⟨k, vs, pl, hk, rfl, hrw, Hfar, hV, Hpl, Hpk, hX, hb0, hsz⟩ := hrel
    obtain ⟨wo, rfl⟩ : ∃ wo : World, wo = wr := ⟨_, rfl⟩
    have hbW := Below.up hbw hb0
    have hB1 := hB.below hb0 hB.lt
    by_cases hlt : k < g.prio.length
    · have hkl : (k : Int) < g.prio.length := by omega
      have hkn : k < g.arena.owner.length := by rw [← Hlen.out]; exact hlt
      have hkx : (k : Int) < g.arena.next.length := by rw [hok.arena.len]; omega
      have hcV := hV.cell (k := k) (by rw [Hpl.out]; exact hlt)
      have hfV := hV.frozen k
      have hX4 := hX.cell (k := 4) (by simp)
      have hBc1 := hB1.c1
      obtain ⟨a2, R, r, ea, hc2, hrow⟩ := (hn.kept (Kept.refl w)).at_ (k := k) (by rw [hok.arena.len]; exact hkn)
      cases ea
      obtain ⟨R', r', he, hrl, hrm⟩ := hrow.form
      simp only [Value.slice.injEq, true_and] at he
      obtain ⟨rfl, rfl⟩ := he
      have hvn := fun t ht => hok.arena.vert_next' hkn (t := t) ht
      have Hset : Hid (IsSet (rx g.arena.next k) g.prio.length) := Lib.hid (by rw [Hlen.out]; exact hok.arena.set hkn)
      have hV1 := hV.set_ k (-1)
      have hb1 := hb0.setCell (p := ⟨gV, k, none⟩) (by simp <;> omega) (.int .i64 (-1))
      have hX1 := hX.far (p := ⟨gV, k, none⟩) (by simp <;> omega) (.int .i64 (-1))
      have hrw1 : RowsV (wo.setCell ⟨gV, k, none⟩ (.int .i64 (-1))) w0.heap.size (wo.setCell ⟨gV, k, none⟩ (.int .i64 (-1))).heap.size (.slice (some ⟨gP, 0, none⟩) g.prio.length g.prio.length) vs (prevAt g.arena.next g.prio.length k 0) := by
        have h := hrw.heap (w' := wo.setCell ⟨gV, k, none⟩ (.int .i64 (-1))) (fun b hb => Below.heap_setCell _ _ _ _ (by simp only [Value.ownBlock, Option.some.injEq] at hb; simp <;> omega)) (fun j _ b hb => Below.heap_setCell _ _ _ _ (by have := Hfar.out j b hb; simp <;> omega))
        simpa using h
      have hs1 : (wo.setCell ⟨gV, k, none⟩ (.int .i64 (-1))).heap.size = wo.heap.size := by simp
      have Hpl1 : Hid ((pl.set k (-1)).length = g.prio.length) := Lib.hid (by rw [List.length_set]; exact Hpl.out)
      have Hpk1 : Hid (∀ j, j < k + 1 → ix (pl.set k (-1)) j = -1) := Lib.hid fun j hj => by
        rw [set_ix (by rw [Hpl.out]; exact hlt)]
        split
        · rfl
        · exact Hpk.out j (by omega)
      go_wp2_with fail
      clear hcV hfV hX4 hBc1 hV hX hrw hb0 hB1 hbW
      generalize wo.setCell ⟨gV, k, none⟩ (.int .i64 (-1)) = wp at *
      rw [← hs1] at hsz
      clear hs1
      go_loopw [6] (fun i wr => ∃ (t : Nat) (vs : List Value), t ≤ (rx g.arena.next k).length ∧ i = .int .i64 t ∧ RowsV wr w0.heap.size wr.heap.size (.slice (some ⟨gP, 0, none⟩) g.prio.length g.prio.length) vs (prevAt g.arena.next g.prio.length k t) ∧ Hid (∀ j b, (vx vs j).ownBlock = some b → w0.heap.size + 3 ≤ b) ∧ IArr wr gV (pl.set k (-1)) ∧ Arr wr gX 71 [.slice A g.arena.owner.length c, .slice P g.prio.length pc, .slice (some an) g.arena.next.length c', .slice (some ⟨gP, 0, none⟩) g.prio.length g.prio.length, .slice (some ⟨gV, 0, none⟩) g.prio.length g.prio.length] ∧ Below w0.heap.size w0 wr ∧ w0.heap.size + 3 ≤ wr.heap.size) (fun i _ => (rx g.arena.next k).length - (intOf i).toNat)
      case atStart => exact ⟨0, vs, Nat.zero_le _, rfl, hrw1, Hfar, hV1, hX1, hb1, hsz⟩
      case round =>
        obtain ⟨t, vs, ht, rfl, hrw, Hfar, hV, hX, hb0, hsz⟩ := hrel
        have hbW := Below.up hbw hb0
        have hB1 := hB.below hb0 hB.lt
        have hBc1 := hB1.c1
        have hc2' := (Kept.of hbW).cell hc2
        by_cases htl : t < (rx g.arena.next k).length
        · obtain ⟨a4, rfl, hc4⟩ := (hrow.kept (Kept.of hbW)).at_ htl
          have htl' : (t : Int) < (rx g.arena.next k).length := by omega
          obtain ⟨j, hj, hjn⟩ := hvn t htl
          rw [hj] at hc4
          have hjp : j < g.prio.length := by rw [Hlen.out]; exact hjn
          have Hstep := Lib.hid (prevAt_set htl hj hjp Hset.out)
          clear hj
          have hjn' : (j : Int) < g.prio.length := by omega
          have hro := hrw.own
          rw [length_prevAt] at hro
          have hcG := hro.cellAt j (by omega)
          have hvl : vs.length = g.prio.length := by rw [hrw.len, length_prevAt]
          have hvx : vs[j]? = some (vx vs j) := by rw [List.getElem?_eq_getElem (by omega), ← vx_lt (by omega)]
          rw [hvx] at hcG
          have Hvl := Lib.hid hvl
          clear hvl
          have hri := (hrw.row j (by rw [length_prevAt]; exact hjp))
          have hli := prevAt_len (next := g.arena.next) (k := k) (t := t) hjp
          obtain ⟨Y, yc, ey, hyc, hym⟩ := hri.ints.form
          rw [ey] at hcG hri hvx
          have Hvx := Lib.hid hvx
          clear hvx
          have Hown := Lib.hid hro
          have HY := Lib.hid ey
          clear hro ey
          have hro2 := owns_heap (w' := wr.alloc (.cells #[.int .i64 (k : Int)] 2)) Hown.out fun b hb => Below.heap_alloc wr _ b (Hown.out.lt b hb).2
          have hcG2 := hro2.cellAt j (by omega)
          rw [Hvx.out] at hcG2
          clear hro2
          have q0 : wr.cell? ⟨gX, 3, none⟩ = some (.slice (some ⟨gP, 0, none⟩) g.prio.length g.prio.length) := hX.cell (k := 3) (by simp)
          have q1 : (wr.alloc (.cells #[.int .i64 (k : Int)] 2)).cell? ⟨gX, 3, none⟩ = some (.slice (some ⟨gP, 0, none⟩) g.prio.length g.prio.length) := (hX.alloc (.cells #[.int .i64 (k : Int)] 2)).cell (k := 3) (by simp)
          have hovd : OwnInts wr.drew w0.heap.size (.slice Y (rx (prevAt g.arena.next g.prio.length k t) j).length yc) (rx (prevAt g.arena.next g.prio.length k t) j) := hri.1
          have hwX : w0.heap.size ≤ wr.drew.heap.size := by show w0.heap.size ≤ wr.heap.size; omega
          have hXz : gX < wr.heap.size := hX.lt
          have hVz : gV < wr.heap.size := hV.lt
          have Hyb := Lib.hid (fun b (hb : (Value.slice Y (rx (prevAt g.arena.next g.prio.length k t) j).length yc).ownBlock = some b) => Hfar.out j b (by rw [HY.out]; exact hb))
          have hle' : (rx (prevAt g.arena.next g.prio.length k t) j).length ≤ 1048576 := by have := Hlen.out; omega
          go_wp2_with fail
          refine wp_region_held_drew (S := fun W => W.cell? ⟨gX, 3, none⟩ = some (.slice (some ⟨gP, 0, none⟩) g.prio.length g.prio.length)) rfl q0 (fun hHeld => ?_)
          refine wpAnyH_take (i := 0) (v := ?va0) rfl (by kernel_rfl) (by kernel_rfl) (by kernel_rfl) (fun _ _ _ h => h) (Or.inl ⟨by rfl, ?ya0⟩) (by assumption) ?ra0
          case ya0 =>
            intro w hSw; (try dsimp only at hSw); go_simp; (try with_reducible rfl)
          case' ra0 => try simp only [Act.put, List.setIfInBounds_toArray, List.set_cons_zero, List.set_cons_succ]
          refine wpAnyH_take (i := 1) (v := ?va1) rfl (by kernel_rfl) (by kernel_rfl) (by kernel_rfl) (fun _ _ _ h => h) (Or.inl ⟨by rfl, ?ya1⟩) (by assumption) ?ra1
          case ya1 =>
            intro w hSw; (try dsimp only at hSw); go_simp; (try with_reducible rfl)
          case' ra1 => try simp only [Act.put, List.setIfInBounds_toArray, List.set_cons_zero, List.set_cons_succ]
          refine wpAnyH_take (i := 2) (v := ?va2) rfl (by kernel_rfl) (by kernel_rfl) (by kernel_rfl) (fun _ _ _ h => h) (Or.inl ⟨by rfl, ?ya2⟩) (by assumption) ?ra2
          case ya2 =>
            intro w hSw; (try dsimp only at hSw); go_simp; (try with_reducible rfl)
          case' ra2 => try simp only [Act.put, List.setIfInBounds_toArray, List.set_cons_zero, List.set_cons_succ]
          refine wpAnyH_take (i := 3) (v := ?va3) rfl (by kernel_rfl) (by kernel_rfl) (by kernel_rfl) (fun _ _ _ h => h) (Or.inl ⟨by rfl, ?ya3⟩) (by assumption) ?ra3
          case ya3 =>
            intro w hSw; (try dsimp only at hSw); go_simp; (try with_reducible rfl)
          case' ra3 => try simp only [Act.put, List.setIfInBounds_toArray, List.set_cons_zero, List.set_cons_succ]
          refine wpAnyH_take (i := 4) (v := ?va4) rfl (by kernel_rfl) (by kernel_rfl) (by kernel_rfl) (fun _ _ _ h => h) (Or.inl ⟨by rfl, ?ya4⟩) (by assumption) ?ra4
          case ya4 =>
            intro w hSw; (try dsimp only at hSw); go_simp; (try with_reducible rfl)
          case' ra4 => try simp only [Act.put, List.setIfInBounds_toArray, List.set_cons_zero, List.set_cons_succ]
          refine wpAnyH_take (i := 5) (v := ?va5) rfl (by kernel_rfl) (by kernel_rfl) (by kernel_rfl) (fun _ _ _ h => h) (Or.inl ⟨by rfl, ?ya5⟩) (by assumption) ?ra5
          case ya5 =>
            intro w hSw; (try dsimp only at hSw); go_simp; (try with_reducible rfl)
          case' ra5 => try simp only [Act.put, List.setIfInBounds_toArray, List.set_cons_zero, List.set_cons_succ]
          refine wpAnyH_take (i := 6) (v := ?va6) rfl (by kernel_rfl) (by kernel_rfl) (by kernel_rfl) (fun _ _ _ h => h) (Or.inl ⟨by rfl, ?ya6⟩) (by assumption) ?ra6
          case ya6 =>
            intro w hSw; (try dsimp only at hSw); go_simp; (try with_reducible rfl)
          case' ra6 => try simp only [Act.put, List.setIfInBounds_toArray, List.set_cons_zero, List.set_cons_succ]
          refine wpAnyH_take (i := 8) (v := ?va8) rfl (by kernel_rfl) (by kernel_rfl) (by kernel_rfl) (fun _ _ _ h => h) (Or.inl ⟨by rfl, ?ya8⟩) (by assumption) ?ra8
          case ya8 =>
            intro w hSw; (try dsimp only at hSw); go_simp; (try with_reducible rfl)
          case' ra8 => try simp only [Act.put, List.setIfInBounds_toArray, List.set_cons_zero, List.set_cons_succ]
          refine wpAnyH_ready (rs := [7, 9]) (by kernel_rfl) (by simp) ?_
          refine AllReadyH.cons rfl (fun K hK => ?_) (AllReadyH.cons rfl (fun K hK => ?_) AllReadyH.nil)
          · go_simp
            refine hK.out _ _ q0 (fun hHeld => ?_)
            clear hK K
            try simp only [Act.put, List.setIfInBounds_toArray, List.set_cons_zero, List.set_cons_succ]
            refine wpAnyH_ready (rs := [9]) (by kernel_rfl) (by simp) ?_
            refine AllReadyH.cons rfl (fun K hK => ?_) AllReadyH.nil
            go_simp
            refine hK.out _ _ q1 (fun hHeld => ?_)
            clear hK K
            try simp only [Act.put, List.setIfInBounds_toArray, List.set_cons_zero, List.set_cons_succ]
            refine wpAnyH_ready (rs := [10]) (by kernel_rfl) (by simp) ?_
            refine AllReadyH.cons rfl (fun K hK => ?_) AllReadyH.nil
            refine step_append_int wr.drew rfl (.tmp 60) (.tmp 62) rfl w0.heap.size (.slice Y (rx (prevAt g.arena.next g.prio.length k t) j).length yc) (rx (prevAt g.arena.next g.prio.length k t) j) rfl hovd (k : Int) rfl hle' hwX ?_
            intro v7 w8 ho7 hg7 hd7
            obtain ⟨O7, c7, e7, _⟩ := ho7.ints.form
            rw [List.length_append, List.length_singleton] at e7
            subst e7
            have hg8 : wr.grownBy w8 (Value.slice Y (rx (prevAt g.arena.next g.prio.length k t) j).length yc).ownBlock := ⟨hg7.os, hg7.tape, hg7.output, hg7.size, hg7.block⟩
            have hro3 := owns_heap (w' := w8) Hown.out (fun b hb => hg8.block b (Hown.out.lt b hb).2 fun e => owns_ne Hown.out hri.1 row_type_ne hb e.symm)
            have hfG3 := hro3.frozenAt j
            have hcG3 := hro3.cellAt j (by omega)
            rw [Hvx.out] at hcG3
            clear hro3
            have hX7 : Arr w8 gX 71 [.slice A g.arena.owner.length c, .slice P g.prio.length pc, .slice (some an) g.arena.next.length c', .slice (some ⟨gP, 0, none⟩) g.prio.length g.prio.length, .slice (some ⟨gV, 0, none⟩) g.prio.length g.prio.length] := (hg8.block _ hXz (fun e => by have := Hyb.out _ e.symm; omega)).trans hX
            have hV7 : IArr w8 gV (pl.set k (-1)) := hV.heap' (hg8.block _ hVz (fun e => by have := Hyb.out _ e.symm; omega))
            have q5 : w8.cell? ⟨gX, 3, none⟩ = some (.slice (some ⟨gP, 0, none⟩) g.prio.length g.prio.length) := hX7.cell (k := 3) (by simp)
            have q6 : (w8.setCell ⟨gP, j, none⟩ (.slice O7 ((rx (prevAt g.arena.next g.prio.length k t) j).length + 1) c7)).cell? ⟨gX, 3, none⟩ = some (.slice (some ⟨gP, 0, none⟩) g.prio.length g.prio.length) := (hX7.far (p := ⟨gP, j, none⟩) (by simp <;> omega) (.slice O7 ((rx (prevAt g.arena.next g.prio.length k t) j).length + 1) c7)).cell (k := 3) (by simp)
            try go_simp
            refine hK.out _ _ q5 (fun hHeld => ?_)
            clear hK K
            try simp only [Act.put, List.setIfInBounds_toArray, List.set_cons_zero, List.set_cons_succ]
            refine wpAnyH_ready (rs := [11]) (by kernel_rfl) (by simp) ?_
            refine AllReadyH.cons rfl (fun K hK => ?_) AllReadyH.nil
            go_simp
            refine hK.out _ _ q5 (fun hHeld => ?_)
            clear hK K
            try simp only [Act.put, List.setIfInBounds_toArray, List.set_cons_zero, List.set_cons_succ]
            refine wpAnyH_ready (rs := [12]) (by kernel_rfl) (by simp) ?_
            refine AllReadyH.cons rfl (fun K hK => ?_) AllReadyH.nil
            go_simp
            refine hK.out _ _ q6 (fun hHeld => ?_)
            clear hK K
            try simp only [Act.put, List.setIfInBounds_toArray, List.set_cons_zero, List.set_cons_succ]
            refine wpAnyH_done (by kernel_rfl) ?_ _
            clear hcG hcG2 hcG3 hfG3 q0 q1 q5 q6
            have hgr := RowsV.grow (C' := w8.heap.size) hrw (length_prevAt _ _ _ _) (by rw [length_prevAt]; exact hjp) (by rw [HY.out]; exact hg8) ho7 (by rw [HY.out]; exact hd7.imp id fun e => ⟨_, e, by show wr.heap.size ≤ wr.heap.size + 1; omega⟩) hg8.size (Nat.le_refl _)
            rw [Hstep.out] at hgr
            have hV8 := hV7.far (p := ⟨gP, j, none⟩) (by simp <;> omega) (.slice O7 ((rx (prevAt g.arena.next g.prio.length k t) j).length + 1) c7)
            have hX8 := hX7.far (p := ⟨gP, j, none⟩) (by simp <;> omega) (.slice O7 ((rx (prevAt g.arena.next g.prio.length k t) j).length + 1) c7)
            have hb8 := (hb0.grown hg8 (by omega) fun b hb => by have := Hyb.out b hb; omega).setCell (p := ⟨gP, j, none⟩) (by simp <;> omega) (.slice O7 ((rx (prevAt g.arena.next g.prio.length k t) j).length + 1) c7)
            have hg8s := hg8.size
            go_wp2
            refine ⟨⟨t + 1, _, by omega, by go_num, by simpa using hgr, Lib.hid (fun i b hb => ?_), hV8, by simpa using hX8, by simpa using hb8, by simp; omega⟩, by simp [intOf]; omega⟩
            rw [vx_set (by rw [Hvl.out]; exact hjp)] at hb
            by_cases e : i = j
            · rw [if_pos e] at hb
              rcases hd7 with h | h
              · rw [h] at hb; exact Hyb.out b hb
              · rw [h] at hb
                have hb' : wr.drew.heap.size + 1 = b := by simpa using hb
                have : wr.heap.size + 1 = b := hb'
                omega
            · rw [if_neg e] at hb; exact Hfar.out i b hb
          · go_simp
            refine hK.out _ _ q1 (fun hHeld => ?_)
            clear hK K
            try simp only [Act.put, List.setIfInBounds_toArray, List.set_cons_zero, List.set_cons_succ]
            refine wpAnyH_ready (rs := [7]) (by kernel_rfl) (by simp) ?_
            refine AllReadyH.cons rfl (fun K hK => ?_) AllReadyH.nil
            go_simp
            refine hK.out _ _ q1 (fun hHeld => ?_)
            clear hK K
            try simp only [Act.put, List.setIfInBounds_toArray, List.set_cons_zero, List.set_cons_succ]
            refine wpAnyH_ready (rs := [10]) (by kernel_rfl) (by simp) ?_
            refine AllReadyH.cons rfl (fun K hK => ?_) AllReadyH.nil
            refine step_append_int wr.drew rfl (.tmp 60) (.tmp 62) rfl w0.heap.size (.slice Y (rx (prevAt g.arena.next g.prio.length k t) j).length yc) (rx (prevAt g.arena.next g.prio.length k t) j) rfl hovd (k : Int) rfl hle' hwX ?_
            intro v7 w8 ho7 hg7 hd7
            obtain ⟨O7, c7, e7, _⟩ := ho7.ints.form
            rw [List.length_append, List.length_singleton] at e7
            subst e7
            have hg8 : wr.grownBy w8 (Value.slice Y (rx (prevAt g.arena.next g.prio.length k t) j).length yc).ownBlock := ⟨hg7.os, hg7.tape, hg7.output, hg7.size, hg7.block⟩
            have hro3 := owns_heap (w' := w8) Hown.out (fun b hb => hg8.block b (Hown.out.lt b hb).2 fun e => owns_ne Hown.out hri.1 row_type_ne hb e.symm)
            have hfG3 := hro3.frozenAt j
            have hcG3 := hro3.cellAt j (by omega)
            rw [Hvx.out] at hcG3
            clear hro3
            have hX7 : Arr w8 gX 71 [.slice A g.arena.owner.length c, .slice P g.prio.length pc, .slice (some an) g.arena.next.length c', .slice (some ⟨gP, 0, none⟩) g.prio.length g.prio.length, .slice (some ⟨gV, 0, none⟩) g.prio.length g.prio.length] := (hg8.block _ hXz (fun e => by have := Hyb.out _ e.symm; omega)).trans hX
            have hV7 : IArr w8 gV (pl.set k (-1)) := hV.heap' (hg8.block _ hVz (fun e => by have := Hyb.out _ e.symm; omega))
            have q5 : w8.cell? ⟨gX, 3, none⟩ = some (.slice (some ⟨gP, 0, none⟩) g.prio.length g.prio.length) := hX7.cell (k := 3) (by simp)
            have q6 : (w8.setCell ⟨gP, j, none⟩ (.slice O7 ((rx (prevAt g.arena.next g.prio.length k t) j).length + 1) c7)).cell? ⟨gX, 3, none⟩ = some (.slice (some ⟨gP, 0, none⟩) g.prio.length g.prio.length) := (hX7.far (p := ⟨gP, j, none⟩) (by simp <;> omega) (.slice O7 ((rx (prevAt g.arena.next g.prio.length k t) j).length + 1) c7)).cell (k := 3) (by simp)
            try go_simp
            refine hK.out _ _ q5 (fun hHeld => ?_)
            clear hK K
            try simp only [Act.put, List.setIfInBounds_toArray, List.set_cons_zero, List.set_cons_succ]
            refine wpAnyH_ready (rs := [11]) (by kernel_rfl) (by simp) ?_
            refine AllReadyH.cons rfl (fun K hK => ?_) AllReadyH.nil
            go_simp
            refine hK.out _ _ q5 (fun hHeld => ?_)
            clear hK K
            try simp only [Act.put, List.setIfInBounds_toArray, List.set_cons_zero, List.set_cons_succ]
            refine wpAnyH_ready (rs := [12]) (by kernel_rfl) (by simp) ?_
            refine AllReadyH.cons rfl (fun K hK => ?_) AllReadyH.nil
            go_simp
            refine hK.out _ _ q6 (fun hHeld => ?_)
            clear hK K
            try simp only [Act.put, List.setIfInBounds_toArray, List.set_cons_zero, List.set_cons_succ]
            refine wpAnyH_done (by kernel_rfl) ?_ _
            clear hcG hcG2 hcG3 hfG3 q0 q1 q5 q6
            have hgr := RowsV.grow (C' := w8.heap.size) hrw (length_prevAt _ _ _ _) (by rw [length_prevAt]; exact hjp) (by rw [HY.out]; exact hg8) ho7 (by rw [HY.out]; exact hd7.imp id fun e => ⟨_, e, by show wr.heap.size ≤ wr.heap.size + 1; omega⟩) hg8.size (Nat.le_refl _)
            rw [Hstep.out] at hgr
            have hV8 := hV7.far (p := ⟨gP, j, none⟩) (by simp <;> omega) (.slice O7 ((rx (prevAt g.arena.next g.prio.length k t) j).length + 1) c7)
            have hX8 := hX7.far (p := ⟨gP, j, none⟩) (by simp <;> omega) (.slice O7 ((rx (prevAt g.arena.next g.prio.length k t) j).length + 1) c7)
            have hb8 := (hb0.grown hg8 (by omega) fun b hb => by have := Hyb.out b hb; omega).setCell (p := ⟨gP, j, none⟩) (by simp <;> omega) (.slice O7 ((rx (prevAt g.arena.next g.prio.length k t) j).length + 1) c7)
            have hg8s := hg8.size
            go_wp2
            refine ⟨⟨t + 1, _, by omega, by go_num, by simpa using hgr, Lib.hid (fun i b hb => ?_), hV8, by simpa using hX8, by simpa using hb8, by simp; omega⟩, by simp [intOf]; omega⟩
            rw [vx_set (by rw [Hvl.out]; exact hjp)] at hb
            by_cases e : i = j
            · rw [if_pos e] at hb
              rcases hd7 with h | h
              · rw [h] at hb; exact Hyb.out b hb
              · rw [h] at hb
                have hb' : wr.drew.heap.size + 1 = b := by simpa using hb
                have : wr.heap.size + 1 = b := hb'
                omega
            · rw [if_neg e] at hb; exact Hfar.out i b hb
        · obtain rfl : t = (rx g.arena.next k).length := by omega
          rw [prevAt_next (Nat.le_refl _)] at hrw
          have htl' : ¬ ((rx g.arena.next k).length : Int) < (rx g.arena.next k).length := by omega
          go_wp2
          exact ⟨⟨k + 1, vs, pl.set k (-1), by omega, by go_num, hrw, Hfar, hV, Hpl1, Hpk1, hX, hb0, hsz⟩, by simp [intOf]; omega⟩
    · obtain rfl : k = g.prio.length := by omega
      have hX5 := hX
      have x0 := hX.c0
      have x1 := hX.c1
      have x2 := hX.c2
      have x3 := hX.cell (k := 3) (by simp)
      have x4 := hX.cell (k := 4) (by simp)
      have hR1 := hR.below hb0 hR.lt
      have r0 := hR1.frozen 0
      have r1 := hR1.frozen 1
      have r2 := hR1.frozen 2
      have r3 := hR1.frozen 3
      have r4 := hR1.frozen 4
      have r5 := hR1.c0
      have r6 := hR1.c1
      have r7 := hR1.c2
      have r8 := hR1.cell (k := 3) (by simp)
      have r9 := hR1.cell (k := 4) (by simp)
      have hRl := hR.lt
      go_wp2
      have hR6 := ((((hR1.set_ 0 (.slice A g.arena.owner.length c)).set_ 1 (.slice P g.prio.length pc)).set_ 2 (.slice (some an) g.arena.next.length c')).set_ 3 (.slice (some ⟨gP, 0, none⟩) g.prio.length g.prio.length)).set_ 4 (.slice (some ⟨gV, 0, none⟩) g.prio.length g.prio.length)
      have hbF := ((((hbW.setCell (p := ⟨w.heap.size + 1, 0, none⟩) (by simp) (.slice A g.arena.owner.length c)).setCell (p := ⟨w.heap.size + 1, 1, none⟩) (by simp) (.slice P g.prio.length pc)).setCell (p := ⟨w.heap.size + 1, 2, none⟩) (by simp) (.slice (some an) g.arena.next.length c')).setCell (p := ⟨w.heap.size + 1, 3, none⟩) (by simp) (.slice (some ⟨gP, 0, none⟩) g.prio.length g.prio.length)).setCell (p := ⟨w.heap.size + 1, 4, none⟩) (by simp) (.slice (some ⟨gV, 0, none⟩) g.prio.length g.prio.length)
      have hcb : ∀ b, w0.heap.size ≤ b → (((((wo.setCell ⟨w.heap.size + 1, 0, none⟩ (.slice A g.arena.owner.length c)).setCell ⟨w.heap.size + 1, 1, none⟩ (.slice P g.prio.length pc)).setCell ⟨w.heap.size + 1, 2, none⟩ (.slice (some an) g.arena.next.length c')).setCell ⟨w.heap.size + 1, 3, none⟩ (.slice (some ⟨gP, 0, none⟩) g.prio.length g.prio.length)).setCell ⟨w.heap.size + 1, 4, none⟩ (.slice (some ⟨gV, 0, none⟩) g.prio.length g.prio.length)).heap[b]? = wo.heap[b]? := fun b hb => by
        rw [Below.heap_setCell _ _ _ _ (by simp; omega), Below.heap_setCell _ _ _ _ (by simp; omega), Below.heap_setCell _ _ _ _ (by simp; omega), Below.heap_setCell _ _ _ _ (by simp; omega), Below.heap_setCell _ _ _ _ (by simp; omega)]
      clear r0 r1 r2 r3 r4 r5 r6 r7 r8 r9 x0 x1 x2 x3 x4
      generalize ((((wo.setCell ⟨w.heap.size + 1, 0, none⟩ (.slice A g.arena.owner.length c)).setCell ⟨w.heap.size + 1, 1, none⟩ (.slice P g.prio.length pc)).setCell ⟨w.heap.size + 1, 2, none⟩ (.slice (some an) g.arena.next.length c')).setCell ⟨w.heap.size + 1, 3, none⟩ (.slice (some ⟨gP, 0, none⟩) g.prio.length g.prio.length)).setCell ⟨w.heap.size + 1, 4, none⟩ (.slice (some ⟨gV, 0, none⟩) g.prio.length g.prio.length) = w9 at *
      have q0 := hR6.c0
      have q1 := hR6.c1
      have q2 := hR6.c2
      have q3 := hR6.cell (k := 3) (by simp)
      have q4 := hR6.cell (k := 4) (by simp)
      have hprev : Rows w9 (.slice (some ⟨gP, 0, none⟩) g.prio.length g.prio.length) (prevL g.arena.next g.arena.owner.length) := by
        have h := (hrw.heap (w' := w9) (fun b hb => hcb b (by simp only [Value.ownBlock, Option.some.injEq] at hb; omega)) (fun j _ b hb => hcb b (by have := Hfar.out j b hb; omega))).rows
        unfold prevL
        rw [← Hlen.out]
        exact h
      have hpick : Ints w9 (.slice (some ⟨gV, 0, none⟩) g.prio.length g.prio.length) (List.replicate g.arena.owner.length (-1)) := by
        have hpe : pl = List.replicate g.arena.owner.length (-1) := List.ext_getElem (by rw [Hpl.out, Hlen.out, List.length_replicate]) fun j h1 h2 => by
          rw [← ix_lt h1, Hpk.out j (by rw [Hpl.out] at h1; exact h1)]
          simp
        have h := ((hV.heap' (hcb gV hgV)).own (B := 0) (Nat.zero_le _) (by rw [Hpl.out, Hlen.out]; omega)).ints
        rw [Hpl.out, hpe] at h
        exact h
      refine bodyPost_ret (v := .agg #[.slice A g.arena.owner.length c, .slice P g.prio.length pc, .slice (some an) g.arena.next.length c', .slice (some ⟨gP, 0, none⟩) g.prio.length g.prio.length, .slice (some ⟨gV, 0, none⟩) g.prio.length g.prio.length]) (by
        have q3' : w9.cell? ⟨w.heap.size + 1, 3, none⟩ = some (.slice (some ⟨gP, 0, none⟩) g.prio.length g.prio.length) := q3
        have q4' : w9.cell? ⟨w.heap.size + 1, 4, none⟩ = some (.slice (some ⟨gV, 0, none⟩) g.prio.length g.prio.length) := q4
        simp [results, Try.results52, go_sem, q0, q1, q2, q3', q4']) rfl ?_
      exact ⟨_, rfl, ⟨_, _, _, _, _, rfl, ho.kept (Kept.of hbF), hp.kept (Kept.of hbF), hn.kept (Kept.of hbF), hprev, hpick⟩, hbF⟩
end Go.Proofs.Ytmkmghjmfaoobaa
