/- The walks of SameArena. Printed by gen_same.py. -/
import Derived.Test.YtigjhhcndigncaaArenaWalks2
import Derived.Test.YtigjhhcndigncaaEqWalks
namespace Go.Proofs.Ytigjhhcndigncaa
set_option linter.unusedSimpArgs false
set_option linter.unusedVariables false
open Go.RowKit

theorem arena_eq (a b : ArenaD) : decide (a = b) = (decide (a.owner = b.owner) && decide (a.next = b.next)) := by
  cases a; cases b; simp
/-- Behind the boxes of two arenas. -/
theorem arena_box2 {w : World} {v u : Value} {a b : ArenaD} (hv : IsArena w v a) (hu : IsArena w u b) : ∃ o n o' n', v = .agg #[o, n] ∧ u = .agg #[o', n'] ∧
    Below w.heap.size w ((w.alloc (.cells #[o, n] 28)).alloc (.cells #[o', n'] 28)) ∧ Arr ((w.alloc (.cells #[o, n] 28)).alloc (.cells #[o', n'] 28)) w.heap.size 28 [o, n] ∧
    Arr ((w.alloc (.cells #[o, n] 28)).alloc (.cells #[o', n'] 28)) (w.heap.size + 1) 28 [o', n'] ∧
    IsArena ((w.alloc (.cells #[o, n] 28)).alloc (.cells #[o', n'] 28)) (.agg #[o, n]) a ∧ IsArena ((w.alloc (.cells #[o, n] 28)).alloc (.cells #[o', n'] 28)) (.agg #[o', n']) b := by
  have hv0 := hv
  have hu0 := hu
  obtain ⟨o, n, rfl, ho, hn⟩ := hv
  obtain ⟨o', n', rfl, ho', hn'⟩ := hu
  have hb : Below w.heap.size w ((w.alloc (.cells #[o, n] 28)).alloc (.cells #[o', n'] 28)) := ((Below.refl _ _).alloc (Nat.le_refl _) _).alloc (by simp) _
  have h2 := Arr.new (w.alloc (.cells #[o, n] 28)) 28 [o', n']
  refine ⟨o, n, o', n', rfl, rfl, hb, (Arr.new _ _ _).alloc _, by simpa using h2, hv0.kept (Kept.of hb), hu0.kept (Kept.of hb)⟩
theorem IsArena.parts {w : World} {o n : Value} {a : ArenaD} (h : IsArena w (.agg #[o, n]) a) : Ints w o a.owner ∧ Rows w n a.next := by
  obtain ⟨o', n', he, h1, h2⟩ := h
  simp only [Value.agg.injEq, Array.mk.injEq, List.cons.injEq, and_true] at he
  obtain ⟨rfl, rfl⟩ := he
  exact ⟨h1, h2⟩
def sameP (a b : ArenaD) : Bool := decide (a.owner = b.owner) && decide (a.next = b.next)

end Go.Proofs.Ytigjhhcndigncaa
