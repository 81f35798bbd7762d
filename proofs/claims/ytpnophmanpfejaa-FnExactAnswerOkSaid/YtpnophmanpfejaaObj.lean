/- Data that a call has made for itself: which blocks it lies in, and what a change of other blocks leaves of it. -/
import Derived.Test.YtpnophmanpfejaaLawBase
namespace Go.Proofs.Ytpnophmanpfejaa
set_option linter.unusedSimpArgs false
set_option linter.unusedVariables false
open Go.RowKit

/-- Of the blocks that w has, w' has turned none but some from B on and below C. -/
structure Only (B C : Nat) (w w' : World) : Prop where
  os : w'.os = w.os
  tape : w'.tape = w.tape
  output : w'.output = w.output
  size : w.heap.size ≤ w'.heap.size
  block : ∀ k, k < w.heap.size → (k < B ∨ C ≤ k) → w'.heap[k]? = w.heap[k]?

theorem Only.of_below {B C : Nat} {w w' : World} (h : Below w.heap.size w w') : Only B C w w' := ⟨h.os, h.tape, h.output, h.size, fun k hk _ => h.block k hk⟩
theorem Only.trans {B C : Nat} {a b c : World} (h : Only B C a b) (k : Only B C b c) : Only B C a c :=
  ⟨k.os.trans h.os, k.tape.trans h.tape, k.output.trans h.output, Nat.le_trans h.size k.size, fun i hi hne => (k.block i (Nat.lt_of_lt_of_le hi h.size) hne).trans (h.block i hi hne)⟩
theorem Only.mono {B C B' C' : Nat} {w w' : World} (h : Only B C w w') (hB : B' ≤ B) (hC : C ≤ C') : Only B' C' w w' := ⟨h.os, h.tape, h.output, h.size, fun k hk hh => h.block k hk (by omega)⟩
theorem Only.below {B C B0 : Nat} {w0 w w' : World} (hb : Below B0 w0 w) (h : Only B C w w') (hB : B0 ≤ B) (hw : B0 ≤ w.heap.size) : Below B0 w0 w' :=
  hb.trans ⟨h.os, h.tape, h.output, h.size, fun k hk => h.block k (by omega) (.inl (by omega))⟩
theorem Only.grown {B C : Nat} {w w' : World} {row : Option Nat} (h : w.grownBy w' row) (hr : ∀ k, row = some k → B ≤ k ∧ k < C) : Only B C w w' :=
  ⟨h.os, h.tape, h.output, h.size, fun k hk hh => h.block k hk (fun e => by have := hr k e.symm; omega)⟩
theorem Kept.below {B0 : Nat} {w0 w1 : World} (h : Below B0 w0 w1) (hB : w0.heap.size ≤ B0) : Kept w0 w1 := fun p hp => h.cell (by omega)

/-- A row of int64s of a call's own that lies from block B on and below C, and holds l. -/
def OI (w : World) (B C : Nat) (v : Value) (l : List Int) : Prop := OwnInts w B v l ∧ ∀ k, v.ownBlock = some k → k < C
theorem OI.ints {w : World} {B C : Nat} {v : Value} {l : List Int} (h : OI w B C v l) : Ints w v l := h.1.ints
theorem OI.of {w : World} {B : Nat} {v : Value} {l : List Int} (h : OwnInts w B v l) : OI w B w.heap.size v l := ⟨h, fun k hk => (h.lt k hk).2⟩
theorem OI.kept {w w' : World} {B C B' C' : Nat} {v : Value} {l : List Int} (h : OI w B C v l) (ho : Only B' C' w w') (hd : C ≤ B' ∨ C' ≤ B) : OI w' B C v l := by
  refine ⟨⟨h.1.1, ?_⟩, h.2⟩
  rcases h.1.2 with hn | ⟨g, cap, cur, rfl, hg, hh, rest⟩
  · exact .inl hn
  · have h2 := h.2 g rfl
    exact .inr ⟨g, cap, cur, rfl, hg, (ho.block g (Array.getElem?_eq_some_iff.1 hh).1 (by omega)).trans hh, rest⟩
theorem OI.drewN {w : World} {B C : Nat} {v : Value} {l : List Int} (h : OI w B C v l) (n : Nat) : OI (w.drewN n) B C v l := h
theorem OI.below {w w' : World} {B C : Nat} {v : Value} {l : List Int} (h : OI w B C v l) (hb : Below w.heap.size w w') : OI w' B C v l := h.kept (Only.of_below (B := C) (C := B) hb) (.inl (Nat.le_refl _))

theorem Below.up {w0 w1 w2 : World} (h : Below w0.heap.size w0 w1) (k : Below w1.heap.size w1 w2) : Below w0.heap.size w0 w2 := h.trans (k.mono h.size)
theorem same_below {P : Program} {f : FuncId} {args : Array Value} {w : World} {r : Ending} (h : Calls P f args w fun e w' => e = r ∧ w' = w) : Calls P f args w fun e w' => e = r ∧ Below w.heap.size w w' :=
  h.mono fun e w' ⟨h1, h2⟩ => ⟨h1, h2 ▸ Below.refl _ _⟩
theorem drew_below {P : Program} {f : FuncId} {args : Array Value} {w : World} {r : Ending} (h : Calls P f args w fun e w' => e = r ∧ ∃ q, w' = w.drewN q) : Calls P f args w fun e w' => e = r ∧ Below w.heap.size w w' :=
  h.mono fun e w' ⟨h1, q, h2⟩ => ⟨h1, h2 ▸ ⟨rfl, rfl, rfl, Nat.le_refl _, fun _ _ => rfl⟩⟩

theorem toInt64S_B (v : Value) (l : List Int) (w : World) (hv : Ints w v l) (h1 : l.length ≤ 4194304) :
    Calls Try.prog 18 #[v] w fun e w' => ∃ u, e = .returned u ∧ OI w' w.heap.size w'.heap.size u l ∧ Below w.heap.size w w' :=
  (toInt64S_any v l w hv h1).mono fun _ _ ⟨u, h2, h3, h4⟩ => ⟨u, h2, OI.of h3, h4⟩
theorem eqInt64S_B (v u : Value) (l m : List Int) (w : World) (hv : Ints w v l) (hu : Ints w u m) :
    Calls Try.prog 20 #[v, u] w fun e w' => e = .returned (.bool (decide (l = m))) ∧ Below w.heap.size w w' := drew_below (eqInt64S_any v u l m w hv hu)
theorem heldInt64S_B (v : Value) (l : List Int) (k0 : Int) (w : World) (hv : Ints w v (upFrom k0 l.length)) (h0 : 0 ≤ k0) (h1 : k0 + l.length ≤ 4611686018427387904) :
    Calls Try.prog 24 #[v, .int .i64 k0] w fun e w' => e = .returned (.int .i64 (k0 + l.length)) ∧ Below w.heap.size w w' := drew_below (heldInt64S_any v l.length k0 w hv h0 h1)

theorem markInt64S_O (v : Value) (l : List Int) (k0 : Int) (B C : Nat) (w : World) (hv : OI w B C v l) (h0 : 0 ≤ k0) (h1 : k0 + l.length ≤ 4611686018427387904) :
    Calls Try.prog 23 #[v, .int .i64 k0] w fun e w' => e = .returned (.int .i64 (k0 + l.length)) ∧ OI w' B C v (upFrom k0 l.length) ∧ Only B C w w' :=
  (markInt64S_any v l k0 B w hv.1 h0 h1).mono fun e w' ⟨h2, h3, h4⟩ => ⟨h2, ⟨h3, hv.2⟩, Only.grown h4 fun k hk => ⟨(hv.1.lt k hk).1, hv.2 k hk⟩⟩
end Go.Proofs.Ytpnophmanpfejaa
