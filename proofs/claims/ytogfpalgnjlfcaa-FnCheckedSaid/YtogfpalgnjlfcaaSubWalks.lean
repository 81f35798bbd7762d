/- The walks of SubgameOf, the program's and the reference's. No condition. Printed by gen_sub.py. -/
import Derived.Test.YtogfpalgnjlfcaaInsideWalks2
import Derived.Test.YtogfpalgnjlfcaaPkB
namespace Go.Proofs.Ytogfpalgnjlfcaa
set_option linter.unusedSimpArgs false
set_option linter.unusedVariables false
open Go.RowKit

theorem RowsV.under {w w' : World} {B C : Nat} {v : Value} {vs : List Value} {ll : List (List Int)} (h : RowsV w B C v vs ll) (hb : Below C w w') : RowsV w' B C v vs ll :=
  h.heap (fun b hbb => hb.block b (h.lt b hbb)) (fun k hk b hbb => hb.block b ((h.row k hk).2 b hbb))
theorem OA.under {w w' : World} {B C : Nat} {v : Value} {a : ArenaD} (h : OA w B C v a) (hb : Below C w w') : OA w' B C v a := by
  obtain ⟨o, n, vs, rfl, h1, h2, h3⟩ := h
  exact ⟨o, n, vs, rfl, h1.under hb, h2.under hb, h3⟩
def subOkB (g : ParityD) (s : List Int) : Bool := parityOkB g && insOkB g.arena s
def subP (g : ParityD) (s : List Int) : ParityD := ⟨insP g.arena s, s.map fun v => ix g.prio v.toNat⟩
def subG (g : ParityD) (s : List Int) : ParityD := if subOkB g s then subP g s else ⟨⟨[], []⟩, []⟩
theorem subG_bulk (g : ParityD) (s : List Int) : bulkP (subG g s) ≤ 1049000 := by
  unfold subG
  split
  · rename_i h
    unfold subOkB at h
    rw [Bool.and_eq_true] at h
    have h1 := insG_bulk g.arena s
    have h2 : insG g.arena s = insP g.arena s := by unfold insG; rw [h.2]; rfl
    rw [h2] at h1
    have h3 := h.2
    unfold insOkB at h3
    simp only [Bool.and_eq_true] at h3
    have h4 := (isSetB_iff.1 h3.2.1).length_le
    have h5 := (arenaOkB_iff.1 h3.1).le
    unfold bulkP subP
    simp only [List.length_map]
    unfold bulkA at *
    omega
  · simp [bulkP, bulkA, sizeR]
theorem parity_boxR {w : World} {v : Value} {g : ParityD} (hv : IsParity w v g) : ∃ o n p, v = .agg #[o, n, p] ∧ Below w.heap.size w ((w.alloc (.cells #[o, n, p] 32)).alloc (.cells #[.slice none 0 0, .slice none 0 0, .slice none 0 0] 32)) ∧
    Arr ((w.alloc (.cells #[o, n, p] 32)).alloc (.cells #[.slice none 0 0, .slice none 0 0, .slice none 0 0] 32)) w.heap.size 32 [o, n, p] ∧ Arr ((w.alloc (.cells #[o, n, p] 32)).alloc (.cells #[.slice none 0 0, .slice none 0 0, .slice none 0 0] 32)) (w.heap.size + 1) 32 [.slice none 0 0, .slice none 0 0, .slice none 0 0] := by
  obtain ⟨o, n, p, rfl, hbw, hB⟩ := parity_box hv
  refine ⟨o, n, p, rfl, hbw.alloc hbw.size _, hB.alloc _, ?_⟩
  simpa using Arr.new (w.alloc (.cells #[o, n, p] 32)) 32 [.slice none 0 0, .slice none 0 0, .slice none 0 0]


end Go.Proofs.Ytogfpalgnjlfcaa
