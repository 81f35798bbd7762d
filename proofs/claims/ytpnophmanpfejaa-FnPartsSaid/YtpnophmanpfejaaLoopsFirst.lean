/- The start of the first search. -/
import Derived.Test.YtpnophmanpfejaaLoopsVisit
namespace Go.Proofs.Ytpnophmanpfejaa
set_option linter.unusedSimpArgs false
set_option linter.unusedVariables false
open Go.RowKit

theorem VS.first (wo : World) (n TW : Nat) : VS (((((wo.alloc (.cells (zeros (.bool false) n).toArray 4)).alloc (.cells #[.slice (some ⟨wo.heap.size, 0, none⟩) n n] 81)).alloc (.cells #[] 2)).alloc (.cells #[.slice (some ⟨wo.heap.size + 1 + 1, 0, none⟩) 0 0] 22)).alloc (.cells #[.func (.func 160) #[] #[.pointer (some ⟨wo.heap.size + 1, 0, none⟩), .pointer (some ⟨TW, 0, none⟩), .pointer (some ⟨wo.heap.size + 1 + 1 + 1 + 1, 0, none⟩)]] 123)) wo.heap.size wo.heap.size (wo.heap.size + 1) TW (wo.heap.size + 1 + 1 + 1 + 1) (wo.heap.size + 1 + 1 + 1) (List.replicate n false) (.slice (some ⟨wo.heap.size + 1 + 1, 0, none⟩) 0 0) [] ∧
    Below wo.heap.size wo (((((wo.alloc (.cells (zeros (.bool false) n).toArray 4)).alloc (.cells #[.slice (some ⟨wo.heap.size, 0, none⟩) n n] 81)).alloc (.cells #[] 2)).alloc (.cells #[.slice (some ⟨wo.heap.size + 1 + 1, 0, none⟩) 0 0] 22)).alloc (.cells #[.func (.func 160) #[] #[.pointer (some ⟨wo.heap.size + 1, 0, none⟩), .pointer (some ⟨TW, 0, none⟩), .pointer (some ⟨wo.heap.size + 1 + 1 + 1 + 1, 0, none⟩)]] 123)) ∧ VB wo.heap.size wo.heap.size (wo.heap.size + 1) (wo.heap.size + 1 + 1 + 1 + 1) (wo.heap.size + 1 + 1 + 1) := by
  have e1 : (wo.alloc (.cells (zeros (.bool false) n).toArray 4)).heap.size = wo.heap.size + 1 := by simp
  have e2 : ((wo.alloc (.cells (zeros (.bool false) n).toArray 4)).alloc (.cells #[.slice (some ⟨wo.heap.size, 0, none⟩) n n] 81)).heap.size = wo.heap.size + 1 + 1 := by simp
  have e3 : (((wo.alloc (.cells (zeros (.bool false) n).toArray 4)).alloc (.cells #[.slice (some ⟨wo.heap.size, 0, none⟩) n n] 81)).alloc (.cells #[] 2)).heap.size = wo.heap.size + 1 + 1 + 1 := by simp
  have e4 : ((((wo.alloc (.cells (zeros (.bool false) n).toArray 4)).alloc (.cells #[.slice (some ⟨wo.heap.size, 0, none⟩) n n] 81)).alloc (.cells #[] 2)).alloc (.cells #[.slice (some ⟨wo.heap.size + 1 + 1, 0, none⟩) 0 0] 22)).heap.size = wo.heap.size + 1 + 1 + 1 + 1 := by simp
  have hb1 := (Below.refl wo.heap.size wo).alloc (Nat.le_refl _) (.cells (zeros (.bool false) n).toArray 4)
  have hb2 := hb1.alloc hb1.size (.cells #[.slice (some ⟨wo.heap.size, 0, none⟩) n n] 81)
  have hb3 := hb2.alloc hb2.size (.cells #[] 2)
  have hb4 := hb3.alloc hb3.size (.cells #[.slice (some ⟨wo.heap.size + 1 + 1, 0, none⟩) 0 0] 22)
  have hb5 := hb4.alloc hb4.size (.cells #[.func (.func 160) #[] #[.pointer (some ⟨wo.heap.size + 1, 0, none⟩), .pointer (some ⟨TW, 0, none⟩), .pointer (some ⟨wo.heap.size + 1 + 1 + 1 + 1, 0, none⟩)]] 123)
  have hG := BArr.new wo n
  have hD := Arr.new (wo.alloc (.cells (zeros (.bool false) n).toArray 4)) 81 [.slice (some ⟨wo.heap.size, 0, none⟩) n n]
  rw [e1] at hD
  obtain ⟨hO, _⟩ := new_ints ((wo.alloc (.cells (zeros (.bool false) n).toArray 4)).alloc (.cells #[.slice (some ⟨wo.heap.size, 0, none⟩) n n] 81))
  rw [e2] at hO
  have hT := Arr.new (((wo.alloc (.cells (zeros (.bool false) n).toArray 4)).alloc (.cells #[.slice (some ⟨wo.heap.size, 0, none⟩) n n] 81)).alloc (.cells #[] 2)) 22 [.slice (some ⟨wo.heap.size + 1 + 1, 0, none⟩) 0 0]
  rw [e3] at hT
  have hV := Arr.new ((((wo.alloc (.cells (zeros (.bool false) n).toArray 4)).alloc (.cells #[.slice (some ⟨wo.heap.size, 0, none⟩) n n] 81)).alloc (.cells #[] 2)).alloc (.cells #[.slice (some ⟨wo.heap.size + 1 + 1, 0, none⟩) 0 0] 22)) 123 [.func (.func 160) #[] #[.pointer (some ⟨wo.heap.size + 1, 0, none⟩), .pointer (some ⟨TW, 0, none⟩), .pointer (some ⟨wo.heap.size + 1 + 1 + 1 + 1, 0, none⟩)]]
  rw [e4] at hV
  have hO4 := (OI.of hO).below ((Below.refl _ _).alloc (Nat.le_refl _) (.cells #[.slice (some ⟨wo.heap.size + 1 + 1, 0, none⟩) 0 0] 22))
  have hO5 := hO4.1
  refine ⟨⟨?_, Arr.alloc (Arr.alloc (Arr.alloc (Arr.alloc hG _) _) _) _, hV, Arr.alloc hT _, ?_, fun b hb => ?_⟩, hb5, ?_⟩
  · rw [List.length_replicate]
    exact Arr.alloc (Arr.alloc (Arr.alloc hD _) _) _
  · exact ((OI.of hO4.1).below ((Below.refl _ _).alloc (Nat.le_refl _) _)).1.more (by omega)
  · have hb' : b = wo.heap.size + 1 + 1 := by simp [Value.ownBlock] at hb; omega
    subst hb'
    omega
  · unfold VB
    omega
end Go.Proofs.Ytpnophmanpfejaa
