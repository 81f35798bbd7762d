/- Structs of two slices of int64s: read, and made by a call of its own. -/
import Derived.Test.YtpnophmanpfejaaObj
namespace Go.Proofs.Ytpnophmanpfejaa
set_option linter.unusedSimpArgs false
set_option linter.unusedVariables false
open Go.RowKit

structure TwoD where
  fst : List Int
  snd : List Int
  deriving DecidableEq
def IsTwo (w : World) (v : Value) (a : TwoD) : Prop := ∃ o n, v = .agg #[o, n] ∧ Ints w o a.fst ∧ Ints w n a.snd
theorem IsTwo.kept {w w' : World} {v : Value} {a : TwoD} (h : IsTwo w v a) (hk : Kept w w') : IsTwo w' v a := by
  obtain ⟨o, n, rfl, h1, h2⟩ := h
  exact ⟨o, n, rfl, h1.kept hk, h2.kept hk⟩
theorem IsTwo.parts {w : World} {o n : Value} {a : TwoD} (h : IsTwo w (.agg #[o, n]) a) : Ints w o a.fst ∧ Ints w n a.snd := by
  obtain ⟨o', n', he, h1, h2⟩ := h
  simp only [Value.agg.injEq, Array.mk.injEq, List.cons.injEq, and_true] at he
  obtain ⟨rfl, rfl⟩ := he
  exact ⟨h1, h2⟩
def OT (w : World) (B C : Nat) (v : Value) (a : TwoD) : Prop :=
  ∃ o n, v = .agg #[o, n] ∧ OI w B C o a.fst ∧ OI w B C n a.snd ∧ ∀ b, o.ownBlock = some b → n.ownBlock ≠ some b
theorem OT.two {w : World} {B C : Nat} {v : Value} {a : TwoD} (h : OT w B C v a) : IsTwo w v a := by
  obtain ⟨o, n, rfl, h1, h2, _⟩ := h
  exact ⟨o, n, rfl, h1.ints, h2.ints⟩
theorem OT.kept {w w' : World} {B C B' C' : Nat} {v : Value} {a : TwoD} (h : OT w B C v a) (ho : Only B' C' w w') (hd : C ≤ B' ∨ C' ≤ B) : OT w' B C v a := by
  obtain ⟨o, n, rfl, h1, h2, h3⟩ := h
  exact ⟨o, n, rfl, h1.kept ho hd, h2.kept ho hd, h3⟩
theorem OT.below {w w' : World} {B C : Nat} {v : Value} {a : TwoD} (h : OT w B C v a) (hb : Below w.heap.size w w') : OT w' B C v a := h.kept (Only.of_below (B := C) (C := B) hb) (.inl (Nat.le_refl _))
theorem OI.mono' {w : World} {B C B' C' : Nat} {v : Value} {l : List Int} (h : OI w B C v l) (hB : B' ≤ B) (hC : C ≤ C') : OI w B' C' v l := ⟨h.1.more hB, fun k hk => Nat.lt_of_lt_of_le (h.2 k hk) hC⟩
theorem OI.heap' {w w' : World} {B C : Nat} {v : Value} {l : List Int} (h : OI w B C v l) (hh : ∀ b, v.ownBlock = some b → w'.heap[b]? = w.heap[b]?) : OI w' B C v l := by
  refine ⟨⟨h.1.1, ?_⟩, h.2⟩
  rcases h.1.2 with hn | ⟨g, cap, cur, rfl, hg, hc, rest⟩
  · exact .inl hn
  · exact .inr ⟨g, cap, cur, rfl, hg, (hh g rfl).trans hc, rest⟩
theorem OT.form {w : World} {B C : Nat} {v : Value} {a : TwoD} (h : OT w B C v a) : ∃ A c A' c', v = .agg #[.slice A a.fst.length c, .slice A' a.snd.length c'] := by
  obtain ⟨o, n, rfl, h1, h2, _⟩ := h
  obtain ⟨A, c, rfl, _⟩ := h1.ints.form
  obtain ⟨A', c', rfl, _⟩ := h2.ints.form
  exact ⟨A, c, A', c', rfl⟩
def sizeT (a : TwoD) : Nat := a.fst.length + a.snd.length
def markT (k0 : Int) (a : TwoD) : TwoD := ⟨upFrom k0 a.fst.length, upFrom (k0 + (a.fst.length : Nat)) a.snd.length⟩
theorem szLeft_add {m n : Nat} {left : Int} (h : (m : Int) ≤ left) : szLeft (m + n) left = szLeft n (left - m) := by
  unfold szLeft
  by_cases g : (n : Int) ≤ left - m
  · rw [if_pos g, if_pos (by omega)]; omega
  · rw [if_neg g, if_neg (by omega)]
theorem szLeft_none {m n : Nat} {left : Int} (h : ¬ (m : Int) ≤ left) : szLeft (m + n) left = -1 := if_neg (by omega)
theorem Kept.drew (w : World) : Kept w w.drew := fun _ _ => rfl
theorem below_of_drew {w w' : World} (h : Below w.drew.heap.size w.drew w') : Below w.heap.size w w' := ⟨h.os, h.tape, h.output, h.size, h.block⟩
end Go.Proofs.Ytpnophmanpfejaa
