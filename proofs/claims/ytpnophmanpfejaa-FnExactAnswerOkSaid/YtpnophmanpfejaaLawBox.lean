/- Small lemmas for the laws' own walks. -/
import Derived.Test.YtpnophmanpfejaaArena
namespace Go.Proofs.Ytpnophmanpfejaa
set_option linter.unusedSimpArgs false
set_option linter.unusedVariables false
open Go.RowKit

theorem toArena_B (v : Value) (a : ArenaD) (w : World) (hv : IsArena w v a) (h1 : bulkA a ≤ 4194304) :
    Calls Try.prog 43 #[v] w fun e w' => ∃ u, e = .returned u ∧ OA w' w.heap.size w'.heap.size u a ∧ Below w.heap.size w w' := toArena_any v a w hv h1
theorem eqArena_B (v u : Value) (a b : ArenaD) (w : World) (hv : IsArena w v a) (hu : IsArena w u b) :
    Calls Try.prog 46 #[v, u] w fun e w' => e = .returned (.bool (decide (a = b))) ∧ Below w.heap.size w w' := eqArena_any v u a b w hv hu
theorem OA.form {w : World} {B C : Nat} {v : Value} {a : ArenaD} (h : OA w B C v a) : ∃ A c A' c', v = .agg #[.slice A a.owner.length c, .slice A' a.next.length c'] := by
  obtain ⟨o, n, vs, rfl, h1, h2, _⟩ := h
  obtain ⟨A, c, rfl, _⟩ := h1.ints.form
  obtain ⟨A', c', rfl⟩ := h2.form
  exact ⟨A, c, A', c', rfl⟩
theorem IsArena.open {w : World} {v : Value} {a : ArenaD} (h : IsArena w v a) : ∃ o n, v = .agg #[o, n] := by
  obtain ⟨o, n, h, _⟩ := h; exact ⟨o, n, h⟩
theorem IsTwo.open {w : World} {v : Value} {a : TwoD} (h : IsTwo w v a) : ∃ o n, v = .agg #[o, n] := by
  obtain ⟨o, n, h, _⟩ := h; exact ⟨o, n, h⟩
theorem Arr.only {w w' : World} {B C g : Nat} {e : TypeId} {xs : List Value} (h : Arr w g e xs) (ho : Only B C w w') (hd : g < B ∨ C ≤ g) : Arr w' g e xs := (ho.block g h.lt hd).trans h
end Go.Proofs.Ytpnophmanpfejaa
