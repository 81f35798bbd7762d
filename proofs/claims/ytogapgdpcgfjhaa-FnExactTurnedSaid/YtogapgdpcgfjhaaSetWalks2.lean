/- The walks of the functions that make sets: AllOf, MeetOf, LessOf, and of those that call them. Printed by gen_sets.py. -/
import Derived.Test.YtogapgdpcgfjhaaSetWalks
import Derived.Deep.DeepMust
namespace Go.Proofs.Ytogapgdpcgfjhaa
set_option linter.unusedSimpArgs false
set_option linter.unusedVariables false
open Go.RowKit

/-- A function that makes a row of int64s, and writes nothing that was there. -/
def RetInts (w : World) (l : List Int) (e : Ending) (w' : World) : Prop := ∃ u, e = .returned u ∧ OwnInts w' w.heap.size u l ∧ Below w.heap.size w w'
theorem RetInts.mk' {w w' : World} {l : List Int} {u : Value} (h1 : OwnInts w' w.heap.size u l) (h2 : Below w.heap.size w w') : RetInts w l (.returned u) w' := ⟨u, rfl, h1, h2⟩

theorem new_ints (w : World) : OwnInts (w.alloc (.cells #[] 2)) w.heap.size (.slice (some ⟨w.heap.size, 0, none⟩) 0 0) [] ∧ Below w.heap.size w (w.alloc (.cells #[] 2)) :=
  ⟨OwnInts.empty w _ (Nat.le_refl _), (Below.refl _ _).alloc (Nat.le_refl _) _⟩
theorem new_ints_drewN (w : World) (q : Nat) : OwnInts ((w.alloc (.cells #[] 2)).drewN q) w.heap.size (.slice (some ⟨w.heap.size, 0, none⟩) 0 0) [] ∧ Below w.heap.size w ((w.alloc (.cells #[] 2)).drewN q) :=
  ⟨(new_ints w).1, below_drewN (new_ints w).2 q⟩

def MeetOf (a b : List Int) : List Int := if bothOkB a b = true then meetL a b else []
def LessOf (a b : List Int) : List Int := if bothOkB a b = true then lessL a b else []
theorem MeetOf_len (a b : List Int) : (MeetOf a b).length ≤ a.length := by
  unfold MeetOf meetL; split
  · exact List.length_filter_le _ _
  · simp
theorem LessOf_len (a b : List Int) : (LessOf a b).length ≤ a.length := by
  unfold LessOf lessL; split
  · exact List.length_filter_le _ _
  · simp
theorem allL_len (n : Int) : (allL n).length ≤ 256 := by
  unfold allL; split
  · rw [length_upFrom]; omega
  · simp

end Go.Proofs.Ytogapgdpcgfjhaa
