/- Texts of this claim that go together: Mem, Ops, LawBase, Obj, Two, RowsPlain, Lists, Append, Arena, SetPlain, Bools, Frame. Conditions: those that each theorem names. -/
import Derived.WalkKit
import Derived.Below
import Derived.Laws.OwnMore
import Derived.Laws.Rows
import Derived.Deep.Draws
import Derived.Deep.AppendLies
import Derived.Lib.Hide
import Derived.Laws.MakeOwn
import Derived.Laws.Entries
import Derived.Deep.QuietTactic
import Derived.Test.YtogfpalgnjlfcaaChecked
import Derived.Maps.AppendAt
import Derived.OwnWalk
import Derived.Outline
import Derived.LoopTactic
import Derived.BigQuiet
import Derived.Deep.LoopGhost
import Derived.IntWalk
import Derived.Laws.ResultCell
import Derived.Deep.RegionHeld3
import Derived.ProofKit
import Derived.OpenShut
import Derived.ShutString
import Derived.ChangeOld
/- The words in which the contracts of this seat speak of memory: slices that read as lists, arrays that a call made. Plain definitions and lemmas, no condition. -/
namespace Go.Proofs.Ytogfpalgnjlfcaa
set_option linter.unusedSimpArgs false
set_option linter.unusedVariables false
open Go.RowKit

/-- The k-th number of a list, 0 beyond it. -/
def ix (l : List Int) (k : Nat) : Int := l.getD k 0
def bx (l : List Bool) (k : Nat) : Bool := l.getD k false
def rx (l : List (List Int)) (k : Nat) : List Int := l.getD k []

theorem ix_lt {l : List Int} {k : Nat} (h : k < l.length) : ix l k = l[k] := by simp [ix, h]
theorem bx_lt {l : List Bool} {k : Nat} (h : k < l.length) : bx l k = l[k] := by simp [bx, h]
theorem rx_lt {l : List (List Int)} {k : Nat} (h : k < l.length) : rx l k = l[k] := by simp [rx, h]

theorem add_head (g k : Nat) : (⟨g, 0, none⟩ : Addr).add k = ⟨g, k, none⟩ := by
  unfold Addr.add
  by_cases h : k = 0
  · subst h; rfl
  · rw [if_neg h]; simp
theorem block_of_add (a : Addr) (n : Nat) : (a.add n).block = a.block := by unfold Addr.add; split <;> rfl

/-- v is a slice of n cells, and the k-th cell holds f k. -/
def SlF (w : World) (v : Value) (n : Nat) (f : Nat → Value) : Prop :=
  ∃ A c, v = .slice A n c ∧ n ≤ c ∧ c ≤ 9223372036854775807 ∧ ∀ k, k < n → ∃ ad, A = some ad ∧ w.cell? (ad.add k) = some (f k)

/-- What was there in w is there in w'. -/
def Kept (w w' : World) : Prop := ∀ p : Addr, p.block < w.heap.size → w'.cell? p = w.cell? p

theorem Kept.refl (w : World) : Kept w w := fun _ _ => rfl
theorem Kept.of {w w' : World} (h : Below w.heap.size w w') : Kept w w' := fun _ hp => h.cell hp
theorem Kept.drewN (w : World) (q : Nat) : Kept w (w.drewN q) := fun _ _ => rfl
theorem Kept.trans {a b c : World} (h : Kept a b) (k : Kept b c) (hs : a.heap.size ≤ b.heap.size) : Kept a c := fun p hp => (k p (Nat.lt_of_lt_of_le hp hs)).trans (h p hp)
theorem Kept.at {B : Nat} {w0 w w' : World} (h : Below B w w') (hB : w0.heap.size ≤ B) (h0 : Kept w0 w) : Kept w0 w' := fun p hp => (h.cell (Nat.lt_of_lt_of_le hp hB)).trans (h0 p hp)
theorem Kept.cell {w w' : World} (h : Kept w w') {p : Addr} {v : Value} (hc : w.cell? p = some v) : w'.cell? p = some v := (h p (World.block_lt_of_cell? w p hc)).trans hc

theorem SlF.kept {w w' : World} {v : Value} {n : Nat} {f : Nat → Value} (h : SlF w v n f) (hk : Kept w w') : SlF w' v n f := by
  obtain ⟨A, c, h1, h2, h3, h4⟩ := h
  refine ⟨A, c, h1, h2, h3, fun k hkn => ?_⟩
  obtain ⟨ad, e, hc⟩ := h4 k hkn
  exact ⟨ad, e, hk.cell hc⟩

theorem SlF.congr {w : World} {v : Value} {n : Nat} {f g : Nat → Value} (h : SlF w v n f) (hfg : ∀ k, k < n → f k = g k) : SlF w v n g := by
  obtain ⟨A, c, h1, h2, h3, h4⟩ := h
  refine ⟨A, c, h1, h2, h3, fun k hkn => ?_⟩
  obtain ⟨ad, e, hc⟩ := h4 k hkn
  exact ⟨ad, e, by rw [hc, hfg k hkn]⟩

theorem SlF.at_ {w : World} {A : Option Addr} {n c k : Nat} {f : Nat → Value} (h : SlF w (.slice A n c) n f) (hk : k < n) : ∃ ad, A = some ad ∧ w.cell? (ad.add k) = some (f k) := by
  obtain ⟨A', c', he, _, _, h4⟩ := h
  injection he with h1
  subst h1
  exact h4 k hk

def Ints (w : World) (v : Value) (l : List Int) : Prop := SlF w v l.length (fun k => .int .i64 (ix l k))
def Bools (w : World) (v : Value) (l : List Bool) : Prop := SlF w v l.length (fun k => .bool (bx l k))
def Rows (w : World) (v : Value) (l : List (List Int)) : Prop := ∃ f, SlF w v l.length f ∧ ∀ k, k < l.length → Ints w (f k) (rx l k)

theorem Ints.kept {w w' : World} {v : Value} {l : List Int} (h : Ints w v l) (hk : Kept w w') : Ints w' v l := SlF.kept h hk
theorem Bools.kept {w w' : World} {v : Value} {l : List Bool} (h : Bools w v l) (hk : Kept w w') : Bools w' v l := SlF.kept h hk
theorem Rows.kept {w w' : World} {v : Value} {l : List (List Int)} (h : Rows w v l) (hk : Kept w w') : Rows w' v l := by
  obtain ⟨f, h1, h2⟩ := h
  exact ⟨f, h1.kept hk, fun k hkn => (h2 k hkn).kept hk⟩

theorem Rows.form {w : World} {v : Value} {ll : List (List Int)} (h : Rows w v ll) : ∃ A c, v = .slice A ll.length c ∧ ll.length ≤ c ∧ c ≤ 9223372036854775807 := by
  obtain ⟨f, ⟨A, c, h1, h2, h3, _⟩, _⟩ := h
  exact ⟨A, c, h1, h2, h3⟩
theorem Rows.at_ {w : World} {A : Option Addr} {n c k : Nat} {ll : List (List Int)} (h : Rows w (.slice A n c) ll) (hk : k < ll.length) :
    ∃ ad A2 c2, A = some ad ∧ w.cell? (ad.add k) = some (.slice A2 (rx ll k).length c2) ∧ Ints w (.slice A2 (rx ll k).length c2) (rx ll k) := by
  obtain ⟨f, h1, h2⟩ := h
  obtain ⟨A', c', he, _, _, h4⟩ := h1
  injection he with h5
  subst h5
  obtain ⟨ad, e, hc⟩ := h4 k hk
  obtain ⟨A2, c2, h6, _⟩ := id (h2 k hk)
  refine ⟨ad, A2, c2, e, ?_, ?_⟩
  · rw [hc, h6]
  · rw [← h6]; exact h2 k hk
theorem Ints.form {w : World} {v : Value} {l : List Int} (h : Ints w v l) : ∃ A c, v = .slice A l.length c ∧ l.length ≤ c ∧ c ≤ 9223372036854775807 := by
  obtain ⟨A, c, h1, h2, h3, _⟩ := h
  exact ⟨A, c, h1, h2, h3⟩
theorem Ints.at_ {w : World} {A : Option Addr} {n c k : Nat} {l : List Int} (h : Ints w (.slice A n c) l) (hk : k < l.length) : ∃ ad, A = some ad ∧ w.cell? (ad.add k) = some (.int .i64 (ix l k)) := by
  obtain ⟨A', c', he, _, _, h4⟩ := h
  injection he with h1
  subst h1
  exact h4 k hk

/-- A row of the call's own reads as what it holds. -/
theorem SlF.of_own {w : World} {base n : Nat} {e : TypeId} {v : Value} {xs : List Value} (h : w.ownsRow base e 1 v n xs) : SlF w v n (fun k => xs.getD k undef) := by
  have hl : xs.length = n := by have := h.1; omega
  rcases h.2 with ⟨rfl, rfl⟩ | ⟨g, cap, cur, rfl, _, hg, hnc, hcm, _⟩
  · exact ⟨none, 0, rfl, by omega, by omega, fun k hk => by omega⟩
  · refine ⟨_, cap, rfl, hnc, by unfold maxLen at hcm; omega, fun k hk => ⟨_, rfl, ?_⟩⟩
    have hk' : k < xs.length := by omega
    exact h.cells (g := g) rfl k _ (by simp [hk'])

/-- v is a row of int64s of the call's own, from block B on, that holds l. -/
def OwnInts (w : World) (B : Nat) (v : Value) (l : List Int) : Prop := w.ownsRow B 2 1 v l.length (l.map (Value.int .i64))

theorem OwnInts.ints {w : World} {B : Nat} {v : Value} {l : List Int} (h : OwnInts w B v l) : Ints w v l :=
  (SlF.of_own h).congr fun k hk => by simp [ix, hk]

/-- k, k + 1, .., n of them. -/
def upFrom (k : Int) (n : Nat) : List Int := (List.range n).map fun (i : Nat) => k + (i : Int)
@[simp] theorem length_upFrom (k : Int) (n : Nat) : (upFrom k n).length = n := by simp [upFrom]
theorem ix_upFrom {k : Int} {n i : Nat} (h : i < n) : ix (upFrom k n) i = k + (i : Int) := by simp [ix, upFrom, h]

/-- n times the same value. -/
def zeros (z : Value) (n : Nat) : List Value := List.replicate n z

/-- Block g is an array of the call's own that holds just xs. -/
def Arr (w : World) (g : Nat) (e : TypeId) (xs : List Value) : Prop := w.heap[g]? = some (.cells xs.toArray e (0, 0))

theorem Arr.lt {w : World} {g : Nat} {e : TypeId} {xs : List Value} (h : Arr w g e xs) : g < w.heap.size := (Array.getElem?_eq_some_iff.1 h).1
theorem Arr.cell {w : World} {g : Nat} {e : TypeId} {xs : List Value} (h : Arr w g e xs) {k : Nat} (hk : k < xs.length) : w.cell? ⟨g, k, none⟩ = some xs[k] := by
  rw [cell_of_row w g k _ e (0, 0) h]; simp [hk]
theorem Arr.frozen {w : World} {g : Nat} {e : TypeId} {xs : List Value} (h : Arr w g e xs) (k : Nat) : w.frozen? ⟨g, k, none⟩ = false := frozen_of_row w g k _ e h
theorem Arr.set_ {w : World} {g : Nat} {e : TypeId} {xs : List Value} (h : Arr w g e xs) (k : Nat) (u : Value) : Arr (w.setCell ⟨g, k, none⟩ u) g e (xs.set k u) := by
  have := heap_setCell_same w g k xs.toArray e u h
  rw [List.setIfInBounds_toArray] at this
  exact this
theorem Arr.far {w : World} {g : Nat} {e : TypeId} {xs : List Value} (h : Arr w g e xs) {p : Addr} (hp : g ≠ p.block) (u : Value) : Arr (w.setCell p u) g e xs := (heap_setCell_other w p g u hp).trans h
theorem Arr.alloc {w : World} {g : Nat} {e : TypeId} {xs : List Value} (h : Arr w g e xs) (o : Obj) : Arr (w.alloc o) g e xs := (Below.heap_alloc w o g h.lt).trans h
theorem Arr.below {w w' : World} {B g : Nat} {e : TypeId} {xs : List Value} (h : Arr w g e xs) (hb : Below B w w') (hg : g < B) : Arr w' g e xs := (hb.block g hg).trans h
theorem Arr.drewN {w : World} {g : Nat} {e : TypeId} {xs : List Value} (h : Arr w g e xs) (n : Nat) : Arr (w.drewN n) g e xs := h
theorem Arr.new (w : World) (e : TypeId) (xs : List Value) : Arr (w.alloc (.cells xs.toArray e)) w.heap.size e xs := heap_alloc_new w _
theorem Arr.own {w : World} {g n B : Nat} {e : TypeId} {xs : List Value} (h : Arr w g e xs) (hB : B ≤ g) (hn : xs.length = n) (hm : n ≤ 4611686018427387904) : w.ownsRow B e 1 (.slice (some ⟨g, 0, none⟩) n n) n xs :=
  ⟨by omega, .inr ⟨g, n, _, rfl, hB, h, Nat.le_refl _, by unfold maxLen; omega, by simpa using hn, by subst hn; simp⟩⟩

theorem Arr.c0 {w : World} {g : Nat} {e : TypeId} {x : Value} {xs : List Value} (h : Arr w g e (x :: xs)) : w.cell? ⟨g, 0, none⟩ = some x := h.cell (k := 0) (by simp)
theorem Arr.c1 {w : World} {g : Nat} {e : TypeId} {x y : Value} {xs : List Value} (h : Arr w g e (x :: y :: xs)) : w.cell? ⟨g, 1, none⟩ = some y := h.cell (k := 1) (by simp)
theorem Arr.c2 {w : World} {g : Nat} {e : TypeId} {x y z : Value} {xs : List Value} (h : Arr w g e (x :: y :: z :: xs)) : w.cell? ⟨g, 2, none⟩ = some z := h.cell (k := 2) (by simp)

/-- make([]T, n): a new array of n zero values. -/
theorem run_make_zeros {P : Program} (t e : TypeId) (i : TypeInfo) (z : Value) (ht : P.underlying t = some (.slice e)) (hi : P.info? e = some i) (hz : i.zero = some z) (hs : i.size = 1) (hzc : z.cells = #[z]) (hb : i.bytes ≤ 24)
    (n : Nat) (hn : n ≤ 1099511627776) (w : World) :
    (Instr.makeSlice t (.int .i64 (n : Int)) (.int .i64 (n : Int))).run P w = .ok (.slice (some ⟨w.heap.size, 0, none⟩) n n) (w.alloc (.cells (zeros z n).toArray e)) := by
  have hb1 : i.bytes * n ≤ 24 * 1099511627776 := Nat.mul_le_mul hb hn
  have hb' : (i.bytes : Int) * (n : Int) ≤ 281474976710656 := by
    have h : ((i.bytes * n : Nat) : Int) ≤ 281474976710656 := by omega
    rwa [Int.natCast_mul] at h
  have hr := run_make (P := P) w t e i z ht hi hz .i64 .i64 n n (by omega) (by omega) hb' (by omega)
  simp only [Int.toNat_natCast] at hr
  rw [hr, hs, hzc]
  have : madeCells #[z] (n * 1) = (zeros z n).toArray := by
    rw [← Array.toList_inj, Nat.mul_one, toList_madeCells_one]; rfl
  rw [this]

def IArr (w : World) (g : Nat) (l : List Int) : Prop := Arr w g 2 (l.map (Value.int .i64))
theorem IArr.cell {w : World} {g : Nat} {l : List Int} (h : IArr w g l) {k : Nat} (hk : k < l.length) : w.cell? ⟨g, k, none⟩ = some (.int .i64 (ix l k)) := by
  have := Arr.cell h (k := k) (by simpa using hk)
  simpa [ix, hk] using this
theorem IArr.frozen {w : World} {g : Nat} {l : List Int} (h : IArr w g l) (k : Nat) : w.frozen? ⟨g, k, none⟩ = false := Arr.frozen h k
theorem IArr.set_ {w : World} {g : Nat} {l : List Int} (h : IArr w g l) (k : Nat) (x : Int) : IArr (w.setCell ⟨g, k, none⟩ (.int .i64 x)) g (l.set k x) := by
  have := Arr.set_ h k (.int .i64 x)
  unfold IArr
  rwa [List.map_set]
theorem IArr.own {w : World} {g B : Nat} {l : List Int} (h : IArr w g l) (hB : B ≤ g) (hm : l.length ≤ 4611686018427387904) : OwnInts w B (.slice (some ⟨g, 0, none⟩) l.length l.length) l :=
  Arr.own h hB (by simp) hm
theorem ix_set {l : List Int} {k j : Nat} {x : Int} (hk : k < l.length) : ix (l.set k x) j = if j = k then x else ix l j := by
  unfold ix
  by_cases h : j = k
  · subst h; simp [hk]
  · simp [h, Ne.symm h]
theorem ix_zeros {n k : Nat} : ix (List.replicate n 0) k = 0 := by
  unfold ix
  by_cases h : k < n <;> simp [h]

theorem int_range_ext {l m : List Int} (hl : l.length = m.length) (h : ∀ j, j < m.length → ix l j = ix m j) : l = m := by
  apply List.ext_getElem hl
  intro j h1 h2
  have := h j h2
  rwa [ix_lt h1, ix_lt h2] at this

theorem OwnInts.form {w : World} {B : Nat} {v : Value} {l : List Int} (h : OwnInts w B v l) : (v = .slice none 0 0 ∧ l = []) ∨ ∃ g cap, v = .slice (some ⟨g, 0, none⟩) l.length cap ∧ B ≤ g ∧ g < w.heap.size ∧ l.length ≤ cap ∧ cap ≤ 9223372036854775807 := by
  rcases h.2 with ⟨rfl, h2⟩ | ⟨g, cap, cur, rfl, hB, hg, hnc, hcm, _⟩
  · exact .inl ⟨rfl, List.eq_nil_of_length_eq_zero h2⟩
  · exact .inr ⟨g, cap, rfl, hB, (Array.getElem?_eq_some_iff.1 hg).1, hnc, by unfold maxLen at hcm; omega⟩
theorem OwnInts.cell {w : World} {B g n cap : Nat} {l : List Int} (h : OwnInts w B (.slice (some ⟨g, 0, none⟩) n cap) l) {k : Nat} (hk : k < l.length) : w.cell? ⟨g, k, none⟩ = some (.int .i64 (ix l k)) := by
  obtain ⟨ad, e, hc⟩ := (OwnInts.ints h).choose_spec.choose_spec.2.2.2 k hk
  have he := (OwnInts.ints h).choose_spec.choose_spec.1
  injection he with h1
  rw [← h1] at e
  injection e with e
  subst e
  rwa [add_head] at hc
theorem OwnInts.frozen {w : World} {B g cap : Nat} {l : List Int} (h : OwnInts w B (.slice (some ⟨g, 0, none⟩) l.length cap) l) (k : Nat) : w.frozen? ⟨g, k, none⟩ = false := World.ownsRow.frozenAt h k
theorem OwnInts.set_ {w : World} {B g cap : Nat} {l : List Int} (h : OwnInts w B (.slice (some ⟨g, 0, none⟩) l.length cap) l) (k : Nat) (x : Int) :
    OwnInts (w.setCell ⟨g, k, none⟩ (.int .i64 x)) B (.slice (some ⟨g, 0, none⟩) l.length cap) (l.set k x) ∧ w.grownBy (w.setCell ⟨g, k, none⟩ (.int .i64 x)) (some g) := by
  have := World.ownsRow.stored h k (.int .i64 x)
  refine ⟨?_, this.2⟩
  unfold OwnInts
  rw [List.length_set, List.map_set]
  exact this.1

theorem grown_trans {a b c : World} {r : Option Nat} (h : a.grownBy b r) (k : b.grownBy c r) : a.grownBy c r :=
  ⟨k.os.trans h.os, k.tape.trans h.tape, k.output.trans h.output, Nat.le_trans h.size k.size, fun i hi hne => (k.block i (Nat.lt_of_lt_of_le hi h.size) hne).trans (h.block i hi hne)⟩
theorem grown_refl (a : World) (r : Option Nat) : a.grownBy a r := ⟨rfl, rfl, rfl, Nat.le_refl _, fun _ _ _ => rfl⟩

/-- A quiet contract at a world that has drawn already. -/
theorem quiet_any {P : Program} {f : FuncId} {args : Array Value} {w : World} {v : Value}
    (h : Calls P f args w fun e w' => e = .returned v ∧ ∃ m, w' = w.drewN m) :
    Calls P f args w fun e w'' => e = .returned v ∧ ∃ m, w'' = w.drewN m := h
theorem quiet_add {P : Program} {f : FuncId} {args : Array Value} {w : World} {a n : Nat} {v : Value}
    (h : Calls P f args (w.drewN (a + n)) fun e w' => e = .returned v ∧ ∃ m, w' = (w.drewN (a + n)).drewN m) :
    Calls P f args (w.drewN (a + n)) fun e w'' => e = .returned v ∧ ∃ m, w'' = w.drewN (a + m) :=
  h.mono fun _ _ ⟨he, m, hm⟩ => ⟨he, n + m, by rw [hm, World.drewN_drewN, Nat.add_assoc]⟩
theorem quiet_same {P : Program} {f : FuncId} {args : Array Value} {w : World} {v : Value}
    (h : Calls P f args w fun e w' => e = .returned v ∧ w' = w) : Calls P f args w fun e w'' => e = .returned v ∧ ∃ m, w'' = w.drewN m :=
  h.mono fun _ _ ⟨he, hm⟩ => ⟨he, 0, hm⟩
theorem IsQuiet.of_same {P : Program} {f : FuncId} {args : Array Value} {w : World} {v : Value}
    (h : Calls P f args w fun e w' => e = .returned v ∧ w' = w) : Calls P f args w fun e w'' => e = .returned v ∧ ∃ m, w'' = w.drewN m := quiet_same h

theorem length_le_cap {w : World} {v : Value} {n : Nat} {f : Nat → Value} (h : SlF w v n f) : n ≤ 9223372036854775807 := by
  obtain ⟨A, c, _, h2, h3, _⟩ := h
  omega

end Go.Proofs.Ytogfpalgnjlfcaa

/- append and make at this program's element types: the laws in the words of Mem. Condition: the lengths are below 2^40. -/
namespace Go.Proofs.Ytogfpalgnjlfcaa
set_option linter.unusedSimpArgs false
set_option linter.unusedVariables false
open Go.RowKit

/-- t is the slice type over e, and a value of type e is one cell, z the zero one. -/
structure Elem (t e : TypeId) (z : Value) : Prop where
  ht : Try.prog.underlying t = some (.slice e)
  hi : ∃ i, Try.prog.info? e = some i ∧ i.zero = some z ∧ i.size = 1 ∧ i.bytes ≤ 24
  hz : z.cells = #[z]

theorem Elem.mk' {t e : TypeId} {z : Value} {b : Nat} (ht : Try.prog.underlying t = some (.slice e)) (hi : (Try.prog.info? e).map (fun i => (i.zero, i.size, i.bytes)) = some (some z, 1, b)) (hb : b ≤ 24) (hz : z.cells = #[z]) : Elem t e z := by
  refine ⟨ht, ?_, hz⟩
  obtain ⟨i0, h0, h1, h2, h3⟩ := info_parts hi
  exact ⟨i0, h0, h1, h2, by omega⟩

theorem int64_info : (Try.prog.info? 2).map (fun i => (i.zero, i.size, i.bytes)) = some (some (.int .i64 0), 1, 8) := by kernel_rfl
theorem elem_int64 : Elem 27 2 (.int .i64 0) := Elem.mk' Try.underlying27 int64_info (by omega) rfl

theorem make_one {t e : TypeId} {z : Value} (E : Elem t e z) (n : Nat) (hn : n ≤ 1099511627776) (w : World) :
    (Instr.makeSlice t (.int .i64 (n : Int)) (.int .i64 (n : Int))).run Try.prog w = .ok (.slice (some ⟨w.heap.size, 0, none⟩) n n) (w.alloc (.cells (zeros z n).toArray e)) := by
  obtain ⟨i0, hi, hz0, hz1, hz2⟩ := E.hi
  exact run_make_zeros _ _ i0 _ E.ht hi hz0 hz1 E.hz hz2 n hn w

/-- 'append(s, y)', y one value: the row s of the call's own has one element more. -/
theorem append_one {ops : Array Oper} {rest : List Oper} {o : Oper} {a : Act} {Q : Exit → Act → World → Prop} {t e : TypeId} {z : Value} (E : Elem t e z) (w0 : World) (hgd : o.guard = none) (s x : Operand)
    (ho : o.op = .call { callee := .builtin .append, args := #[s, x], argTypes := #[t, t] })
    (B : Nat) (v : Value) (n : Nat) (xs : List Value) (hs : a.eval s = v) (hown : w0.ownsRow B e 1 v n xs) (y : Value) (hy : y.oneCell' = true)
    (hx : a.eval x = .slice (some ⟨w0.heap.size, 0, none⟩) 1 1) (hn : n ≤ 1099511627776) (hB : B ≤ w0.heap.size)
    (h : ∀ v' w', w'.ownsRow B e 1 v' (n + 1) (xs ++ [y]) → w0.grownBy w' v.ownBlock → (v'.ownBlock = v.ownBlock ∨ v'.ownBlock = some (w0.heap.size + 1)) → wpList Try.prog ops Q rest (a.put o.dst v') w') :
    wpList Try.prog ops Q (o :: rest) a (w0.alloc (.cells #[y] e)) := by
  obtain ⟨i0, hi, hz0, hz1, hz2⟩ := E.hi
  have hzs : z.cells.size = 1 := by rw [E.hz]; rfl
  refine wpList_append_own_at (P := Try.prog) (w0.alloc (.cells #[y] e)) hgd s x t ho B e i0 z 1 i0.bytes E.ht hi hz0 hz1 rfl hzs (by omega) v n xs hs (hown.alloc _) ⟨w0.heap.size, 0, none⟩ 1 1 [y] hx rfl
    (cell_one_new w0 y e) (by simpa using hy) (by unfold maxLen; omega) ?_ (by simp; omega) ?_
  · have : (n + 1) * i0.bytes ≤ 1099511627777 * 24 := Nat.mul_le_mul (by omega) hz2
    omega
  · intro v' w' h1 h2 _ h4
    refine h v' w' h1 ?_ (by simpa using h4)
    exact ⟨h2.os, h2.tape, h2.output, by have := h2.size; simp at this; omega, fun k hk hne => (h2.block k (by simp; omega) hne).trans (Below.heap_alloc w0 _ k hk)⟩

/-- 'append(s, y)' at int64s. -/
theorem append_int {ops : Array Oper} {rest : List Oper} {o : Oper} {a : Act} {Q : Exit → Act → World → Prop} (w0 : World) (hgd : o.guard = none) (s x : Operand)
    (ho : o.op = .call { callee := .builtin .append, args := #[s, x], argTypes := #[27, 27] })
    (B : Nat) (v : Value) (l : List Int) (hs : a.eval s = v) (hown : OwnInts w0 B v l) (y : Int)
    (hx : a.eval x = .slice (some ⟨w0.heap.size, 0, none⟩) 1 1) (hn : l.length ≤ 1099511627776) (hB : B ≤ w0.heap.size)
    (h : ∀ v' w', OwnInts w' B v' (l ++ [y]) → Below B w0 w' → w0.grownBy w' v.ownBlock → (v'.ownBlock = v.ownBlock ∨ v'.ownBlock = some (w0.heap.size + 1)) → wpList Try.prog ops Q rest (a.put o.dst v') w') :
    wpList Try.prog ops Q (o :: rest) a (w0.alloc (.cells #[.int .i64 y] 2)) := by
  refine append_one elem_int64 w0 hgd s x ho B v l.length _ hs hown (.int .i64 y) rfl hx hn hB fun v' w' h1 h2 h3 => ?_
  refine h v' w' ?_ ((Below.refl _ _).grown h2 hB fun k hk => (hown.lt k hk).1) h2 h3
  unfold OwnInts
  rw [List.map_append, List.length_append]
  exact h1

/-- '[]int64{}'. -/
theorem OwnInts.empty (w : World) (B : Nat) (hB : B ≤ w.heap.size) : OwnInts (w.alloc (.cells #[] 2)) B (.slice (some ⟨w.heap.size, 0, none⟩) 0 0) [] :=
  World.ownsRow_lit w #[] 0 hB (by simp [maxLen]) (by simp)
theorem OwnInts.nil (w : World) (B : Nat) : OwnInts w B (.slice none 0 0) [] := World.ownsRow_nil w B _ 1
theorem OwnInts.below {w w' : World} {B B' : Nat} {v : Value} {l : List Int} (h : OwnInts w B v l) (hb : Below B' w w') (hB : w.heap.size ≤ B') : OwnInts w' B v l := by
  refine ⟨h.1, ?_⟩
  rcases h.2 with hn | ⟨g, cap, cur, rfl, hg, hh, rest⟩
  · exact .inl hn
  · exact .inr ⟨g, cap, cur, rfl, hg, (hb.block g (Nat.lt_of_lt_of_le (Array.getElem?_eq_some_iff.1 hh).1 hB)).trans hh, rest⟩
theorem OwnInts.more {w : World} {B B' : Nat} {v : Value} {l : List Int} (h : OwnInts w B v l) (hB : B' ≤ B) : OwnInts w B' v l := by
  refine ⟨h.1, ?_⟩
  rcases h.2 with hn | ⟨g, cap, cur, rfl, hg, rest⟩
  · exact .inl hn
  · exact .inr ⟨g, cap, cur, rfl, Nat.le_trans hB hg, rest⟩
theorem ints_of_ret {w w' : World} {l : List Int} {u : Value} (h : OwnInts w' w.heap.size u l) : ∃ A c, u = .slice A l.length c := by
  obtain ⟨A, c, h1, _⟩ := h.ints
  exact ⟨A, c, h1⟩
theorem below_drewN {B : Nat} {a w : World} (h : Below B a w) (n : Nat) : Below B a (w.drewN n) := ⟨h.os, h.tape, h.output, h.size, h.block⟩
theorem below_of_drewN {w w' : World} {B q : Nat} (h : Below B (w.drewN q) w') : Below B w w' := ⟨h.os, h.tape, h.output, h.size, h.block⟩

end Go.Proofs.Ytogfpalgnjlfcaa

/- The walks of the functions that copy, compare, mark and ask lists of int64s. No condition but the lists' lengths. -/
namespace Go.Proofs.Ytogfpalgnjlfcaa
set_option linter.unusedSimpArgs false
set_option linter.unusedVariables false
open Go.RowKit
/-- What is left of a budget behind n; -1 where it does not suffice. -/
def szLeft (n : Nat) (left : Int) : Int := if (n : Int) ≤ left then left - n else -1
theorem szLeft_pos {n : Nat} {left : Int} (h : (n : Int) ≤ left) : szLeft n left = left - n := if_pos h
theorem szLeft_neg {n : Nat} {left : Int} (h : ¬ (n : Int) ≤ left) : szLeft n left = -1 := if_neg h

end Go.Proofs.Ytogfpalgnjlfcaa

/- Data that a call has made for itself: which blocks it lies in, and what a change of other blocks leaves of it. -/
namespace Go.Proofs.Ytogfpalgnjlfcaa
set_option linter.unusedSimpArgs false
set_option linter.unusedVariables false
open Go.RowKit

/-- Of the blocks that w has, w' has turned none but some from B on and below C. -/
structure Only (B C : Nat) (w w' : World) : Prop where
  os : w'.os = w.os
  tape : w'.tape = w.tape
  output : w'.output = w.output
  size : w.heap.size ≤ w'.heap.size
  block : ∀ k, k < w.heap.size → (k < B ∨ C ≤ k) → w'.heap[k]? = w.heap[k]?

theorem Only.of_below {B C : Nat} {w w' : World} (h : Below w.heap.size w w') : Only B C w w' := ⟨h.os, h.tape, h.output, h.size, fun k hk _ => h.block k hk⟩
theorem Only.trans {B C : Nat} {a b c : World} (h : Only B C a b) (k : Only B C b c) : Only B C a c :=
  ⟨k.os.trans h.os, k.tape.trans h.tape, k.output.trans h.output, Nat.le_trans h.size k.size, fun i hi hne => (k.block i (Nat.lt_of_lt_of_le hi h.size) hne).trans (h.block i hi hne)⟩
theorem Only.mono {B C B' C' : Nat} {w w' : World} (h : Only B C w w') (hB : B' ≤ B) (hC : C ≤ C') : Only B' C' w w' := ⟨h.os, h.tape, h.output, h.size, fun k hk hh => h.block k hk (by omega)⟩
theorem Only.below {B C B0 : Nat} {w0 w w' : World} (hb : Below B0 w0 w) (h : Only B C w w') (hB : B0 ≤ B) (hw : B0 ≤ w.heap.size) : Below B0 w0 w' :=
  hb.trans ⟨h.os, h.tape, h.output, h.size, fun k hk => h.block k (by omega) (.inl (by omega))⟩
theorem Only.grown {B C : Nat} {w w' : World} {row : Option Nat} (h : w.grownBy w' row) (hr : ∀ k, row = some k → B ≤ k ∧ k < C) : Only B C w w' :=
  ⟨h.os, h.tape, h.output, h.size, fun k hk hh => h.block k hk (fun e => by have := hr k e.symm; omega)⟩
theorem Kept.below {B0 : Nat} {w0 w1 : World} (h : Below B0 w0 w1) (hB : w0.heap.size ≤ B0) : Kept w0 w1 := fun p hp => h.cell (by omega)

/-- A row of int64s of a call's own that lies from block B on and below C, and holds l. -/
def OI (w : World) (B C : Nat) (v : Value) (l : List Int) : Prop := OwnInts w B v l ∧ ∀ k, v.ownBlock = some k → k < C
theorem OI.ints {w : World} {B C : Nat} {v : Value} {l : List Int} (h : OI w B C v l) : Ints w v l := h.1.ints
theorem OI.of {w : World} {B : Nat} {v : Value} {l : List Int} (h : OwnInts w B v l) : OI w B w.heap.size v l := ⟨h, fun k hk => (h.lt k hk).2⟩
theorem OI.kept {w w' : World} {B C B' C' : Nat} {v : Value} {l : List Int} (h : OI w B C v l) (ho : Only B' C' w w') (hd : C ≤ B' ∨ C' ≤ B) : OI w' B C v l := by
  refine ⟨⟨h.1.1, ?_⟩, h.2⟩
  rcases h.1.2 with hn | ⟨g, cap, cur, rfl, hg, hh, rest⟩
  · exact .inl hn
  · have h2 := h.2 g rfl
    exact .inr ⟨g, cap, cur, rfl, hg, (ho.block g (Array.getElem?_eq_some_iff.1 hh).1 (by omega)).trans hh, rest⟩
theorem OI.drewN {w : World} {B C : Nat} {v : Value} {l : List Int} (h : OI w B C v l) (n : Nat) : OI (w.drewN n) B C v l := h
theorem OI.below {w w' : World} {B C : Nat} {v : Value} {l : List Int} (h : OI w B C v l) (hb : Below w.heap.size w w') : OI w' B C v l := h.kept (Only.of_below (B := C) (C := B) hb) (.inl (Nat.le_refl _))

theorem Below.up {w0 w1 w2 : World} (h : Below w0.heap.size w0 w1) (k : Below w1.heap.size w1 w2) : Below w0.heap.size w0 w2 := h.trans (k.mono h.size)
theorem same_below {P : Program} {f : FuncId} {args : Array Value} {w : World} {r : Ending} (h : Calls P f args w fun e w' => e = r ∧ w' = w) : Calls P f args w fun e w' => e = r ∧ Below w.heap.size w w' :=
  h.mono fun e w' ⟨h1, h2⟩ => ⟨h1, h2 ▸ Below.refl _ _⟩
theorem drew_below {P : Program} {f : FuncId} {args : Array Value} {w : World} {r : Ending} (h : Calls P f args w fun e w' => e = r ∧ ∃ q, w' = w.drewN q) : Calls P f args w fun e w' => e = r ∧ Below w.heap.size w w' :=
  h.mono fun e w' ⟨h1, q, h2⟩ => ⟨h1, h2 ▸ ⟨rfl, rfl, rfl, Nat.le_refl _, fun _ _ => rfl⟩⟩

end Go.Proofs.Ytogfpalgnjlfcaa

/- Structs of two slices of int64s: read, and made by a call of its own. -/
namespace Go.Proofs.Ytogfpalgnjlfcaa
set_option linter.unusedSimpArgs false
set_option linter.unusedVariables false
open Go.RowKit

structure TwoD where
  fst : List Int
  snd : List Int
  deriving DecidableEq
def IsTwo (w : World) (v : Value) (a : TwoD) : Prop := ∃ o n, v = .agg #[o, n] ∧ Ints w o a.fst ∧ Ints w n a.snd
theorem IsTwo.kept {w w' : World} {v : Value} {a : TwoD} (h : IsTwo w v a) (hk : Kept w w') : IsTwo w' v a := by
  obtain ⟨o, n, rfl, h1, h2⟩ := h
  exact ⟨o, n, rfl, h1.kept hk, h2.kept hk⟩
theorem IsTwo.parts {w : World} {o n : Value} {a : TwoD} (h : IsTwo w (.agg #[o, n]) a) : Ints w o a.fst ∧ Ints w n a.snd := by
  obtain ⟨o', n', he, h1, h2⟩ := h
  simp only [Value.agg.injEq, Array.mk.injEq, List.cons.injEq, and_true] at he
  obtain ⟨rfl, rfl⟩ := he
  exact ⟨h1, h2⟩
def OT (w : World) (B C : Nat) (v : Value) (a : TwoD) : Prop :=
  ∃ o n, v = .agg #[o, n] ∧ OI w B C o a.fst ∧ OI w B C n a.snd ∧ ∀ b, o.ownBlock = some b → n.ownBlock ≠ some b
theorem OT.two {w : World} {B C : Nat} {v : Value} {a : TwoD} (h : OT w B C v a) : IsTwo w v a := by
  obtain ⟨o, n, rfl, h1, h2, _⟩ := h
  exact ⟨o, n, rfl, h1.ints, h2.ints⟩
theorem OT.kept {w w' : World} {B C B' C' : Nat} {v : Value} {a : TwoD} (h : OT w B C v a) (ho : Only B' C' w w') (hd : C ≤ B' ∨ C' ≤ B) : OT w' B C v a := by
  obtain ⟨o, n, rfl, h1, h2, h3⟩ := h
  exact ⟨o, n, rfl, h1.kept ho hd, h2.kept ho hd, h3⟩
theorem OT.below {w w' : World} {B C : Nat} {v : Value} {a : TwoD} (h : OT w B C v a) (hb : Below w.heap.size w w') : OT w' B C v a := h.kept (Only.of_below (B := C) (C := B) hb) (.inl (Nat.le_refl _))
theorem OI.mono' {w : World} {B C B' C' : Nat} {v : Value} {l : List Int} (h : OI w B C v l) (hB : B' ≤ B) (hC : C ≤ C') : OI w B' C' v l := ⟨h.1.more hB, fun k hk => Nat.lt_of_lt_of_le (h.2 k hk) hC⟩
theorem OI.heap' {w w' : World} {B C : Nat} {v : Value} {l : List Int} (h : OI w B C v l) (hh : ∀ b, v.ownBlock = some b → w'.heap[b]? = w.heap[b]?) : OI w' B C v l := by
  refine ⟨⟨h.1.1, ?_⟩, h.2⟩
  rcases h.1.2 with hn | ⟨g, cap, cur, rfl, hg, hc, rest⟩
  · exact .inl hn
  · exact .inr ⟨g, cap, cur, rfl, hg, (hh g rfl).trans hc, rest⟩
theorem OT.form {w : World} {B C : Nat} {v : Value} {a : TwoD} (h : OT w B C v a) : ∃ A c A' c', v = .agg #[.slice A a.fst.length c, .slice A' a.snd.length c'] := by
  obtain ⟨o, n, rfl, h1, h2, _⟩ := h
  obtain ⟨A, c, rfl, _⟩ := h1.ints.form
  obtain ⟨A', c', rfl, _⟩ := h2.ints.form
  exact ⟨A, c, A', c', rfl⟩
def sizeT (a : TwoD) : Nat := a.fst.length + a.snd.length
def markT (k0 : Int) (a : TwoD) : TwoD := ⟨upFrom k0 a.fst.length, upFrom (k0 + (a.fst.length : Nat)) a.snd.length⟩
theorem szLeft_add {m n : Nat} {left : Int} (h : (m : Int) ≤ left) : szLeft (m + n) left = szLeft n (left - m) := by
  unfold szLeft
  by_cases g : (n : Int) ≤ left - m
  · rw [if_pos g, if_pos (by omega)]; omega
  · rw [if_neg g, if_neg (by omega)]
theorem szLeft_none {m n : Nat} {left : Int} (h : ¬ (m : Int) ≤ left) : szLeft (m + n) left = -1 := if_neg (by omega)
theorem Kept.drew (w : World) : Kept w w.drew := fun _ _ => rfl
theorem below_of_drew {w w' : World} (h : Below w.drew.heap.size w.drew w') : Below w.heap.size w w' := ⟨h.os, h.tape, h.output, h.size, h.block⟩
end Go.Proofs.Ytogfpalgnjlfcaa

/- Plain facts on lists of numbers: what a set of numbers is, and so on. No program in sight, no condition. -/
namespace Go.Proofs.Ytogfpalgnjlfcaa
set_option linter.unusedSimpArgs false
set_option linter.unusedVariables false

/-- s rises strictly, within 0 .. n - 1. -/
def IsSet (s : List Int) (n : Int) : Prop := ∀ k, k < s.length → 0 ≤ ix s k ∧ ix s k < n ∧ (0 < k → ix s (k - 1) < ix s k)
def isSetB (s : List Int) (n : Int) : Bool := decide (∀ k, k < s.length → 0 ≤ ix s k ∧ ix s k < n ∧ (0 < k → ix s (k - 1) < ix s k))
theorem isSetB_iff {s : List Int} {n : Int} : isSetB s n = true ↔ IsSet s n := by simp [isSetB, IsSet]
theorem isSetB_false {s : List Int} {n : Int} {k : Nat} (hk : k < s.length) (h : ¬ (0 ≤ ix s k ∧ ix s k < n ∧ (0 < k → ix s (k - 1) < ix s k))) : isSetB s n = false := by
  rw [Bool.eq_false_iff]
  intro h'
  exact h (isSetB_iff.1 h' k hk)
theorem isSetB_true {s : List Int} {n : Int} (h : IsSet s n) : isSetB s n = true := isSetB_iff.2 h

/-- A set has no more than n elements: the k-th is at least k. -/
theorem IsSet.le {s : List Int} {n : Int} (h : IsSet s n) : ∀ k, k < s.length → (k : Int) ≤ ix s k := by
  intro k
  induction k with
  | zero => intro hk; simpa using (h 0 hk).1
  | succ k ih =>
    intro hk
    have h1 := ih (by omega)
    have h2 := (h (k + 1) hk).2.2 (by omega)
    simp only [Nat.add_sub_cancel] at h2
    omega
theorem IsSet.length {s : List Int} {n : Int} (h : IsSet s n) : s = [] ∨ (s.length : Int) ≤ n := by
  rcases Nat.eq_zero_or_pos s.length with h0 | h0
  · exact .inl (List.eq_nil_of_length_eq_zero h0)
  · have h1 := h.le (s.length - 1) (by omega)
    have h2 := (h (s.length - 1) (by omega)).2.1
    exact .inr (by omega)

def hasB (l : List Int) (x : Int) : Bool := decide (x ∈ l)
theorem hasB_iff {l : List Int} {x : Int} : hasB l x = true ↔ x ∈ l := by simp [hasB]
theorem mem_ix {l : List Int} {x : Int} : x ∈ l ↔ ∃ k, k < l.length ∧ ix l k = x := by
  rw [List.mem_iff_getElem]
  constructor
  · rintro ⟨k, hk, rfl⟩; exact ⟨k, hk, ix_lt hk⟩
  · rintro ⟨k, hk, rfl⟩; exact ⟨k, hk, (ix_lt hk).symm⟩
theorem hasB_ix {l : List Int} {k : Nat} (hk : k < l.length) : hasB l (ix l k) = true := hasB_iff.2 (mem_ix.2 ⟨k, hk, rfl⟩)
theorem hasB_none {l : List Int} {x : Int} (h : ∀ k, k < l.length → ix l k ≠ x) : hasB l x = false := by
  rw [Bool.eq_false_iff]
  intro h'
  obtain ⟨k, hk, e⟩ := mem_ix.1 (hasB_iff.1 h')
  exact h k hk e

theorem take_ix {l : List Int} {k : Nat} (hk : k < l.length) : l.take (k + 1) = l.take k ++ [ix l k] := by
  rw [ix_lt hk, List.take_succ_eq_append_getElem hk]
theorem filter_take {l : List Int} {k : Nat} (hk : k < l.length) (p : Int → Bool) : (l.take (k + 1)).filter p = (l.take k).filter p ++ if p (ix l k) then [ix l k] else [] := by
  rw [take_ix hk, List.filter_append]
  by_cases h : p (ix l k) <;> simp [h]

/-- Where x stands first in l; -1 where it does not. -/
def idxL (l : List Int) (x : Int) : Int := if x ∈ l then (l.idxOf x : Int) else -1
theorem idxOf_ix {l : List Int} {x : Int} {k : Nat} (hk : k < l.length) (h : ix l k = x) (hn : ∀ j, j < k → ix l j ≠ x) : l.idxOf x = k := by
  induction l generalizing k with
  | nil => simp at hk
  | cons y l ih =>
    rcases k with _ | k
    · have : y = x := by simpa [ix] using h
      simp [List.idxOf_cons, this]
    · have h0 : y ≠ x := by simpa [ix] using hn 0 (by omega)
      have := ih (k := k) (by simpa using hk) (by simpa [ix] using h) fun j hj => by simpa [ix] using hn (j + 1) (by omega)
      have hb : (y == x) = false := by simpa using h0
      simp [List.idxOf_cons, hb, this]
theorem idxL_at {l : List Int} {x : Int} {k : Nat} (hk : k < l.length) (h : ix l k = x) (hn : ∀ j, j < k → ix l j ≠ x) : idxL l x = k := by
  unfold idxL
  rw [if_pos (mem_ix.2 ⟨k, hk, h⟩), idxOf_ix hk h hn]
theorem idxL_none {l : List Int} {x : Int} (h : ∀ k, k < l.length → ix l k ≠ x) : idxL l x = -1 := by
  unfold idxL
  rw [if_neg]
  rw [mem_ix]
  rintro ⟨k, hk, e⟩
  exact h k hk e
theorem idxL_geq {l : List Int} {x : Int} : decide (0 ≤ idxL l x) = hasB l x := by
  unfold idxL hasB
  by_cases h : x ∈ l <;> simp [h]

def setOkB (s : List Int) (n : Int) : Bool := decide (0 ≤ n ∧ n ≤ 256) && isSetB s n
def allL (n : Int) : List Int := if 0 ≤ n ∧ n ≤ 256 then upFrom 0 n.toNat else []
def meetL (a b : List Int) : List Int := a.filter fun x => hasB b x
def lessL (a b : List Int) : List Int := a.filter fun x => !hasB b x
theorem upFrom_snoc (k : Int) (n : Nat) : upFrom k (n + 1) = upFrom k n ++ [k + (n : Int)] := by simp [upFrom, List.range_succ]

/-- Strictly rising. -/
def Rising (l : List Int) : Prop := ∀ i j, i < j → j < l.length → ix l i < ix l j
theorem IsSet.rising {s : List Int} {n : Int} (h : IsSet s n) : Rising s := by
  intro i j hij hj
  induction j with
  | zero => omega
  | succ j ih =>
    have h1 := (h (j + 1) hj).2.2 (by omega)
    simp only [Nat.add_sub_cancel] at h1
    by_cases e : i = j
    · subst e; exact h1
    · have := ih (by omega) (by omega); omega

theorem length_filter_take {l : List Int} {k : Nat} {p : Int → Bool} : ((l.take k).filter p).length ≤ l.length :=
  Nat.le_trans (List.length_filter_le _ _) (by simp; omega)
theorem allL_nat {m : Nat} (h : m ≤ 256) : allL (m : Int) = upFrom 0 m := by
  unfold allL; rw [if_pos (by omega)]; simp
theorem allL_out {n : Int} (h : ¬ (0 ≤ n ∧ n ≤ 256)) : allL n = [] := if_neg h
def bothOkB (a b : List Int) : Bool := isSetB a 256 && isSetB b 256
theorem setOk256 (l : List Int) : setOkB l 256 = isSetB l 256 := by simp [setOkB]

end Go.Proofs.Ytogfpalgnjlfcaa

/- Slices of bools: read, and made by a call of its own; marks of sets. No condition but the lists' lengths. -/
namespace Go.Proofs.Ytogfpalgnjlfcaa
set_option linter.unusedSimpArgs false
set_option linter.unusedVariables false
open Go.RowKit

theorem bool_info : (Try.prog.info? 4).map (fun i => (i.zero, i.size, i.bytes)) = some (some (.bool false), 1, 1) := by kernel_rfl
theorem elem_bool : Elem 76 4 (.bool false) := Elem.mk' Try.underlying76 bool_info (by omega) rfl
theorem Bools.form {w : World} {v : Value} {l : List Bool} (h : Bools w v l) : ∃ A c, v = .slice A l.length c ∧ l.length ≤ c ∧ c ≤ 9223372036854775807 := by
  obtain ⟨A, c, h1, h2, h3, _⟩ := h
  exact ⟨A, c, h1, h2, h3⟩
theorem Bools.at_ {w : World} {A : Option Addr} {n c k : Nat} {l : List Bool} (h : Bools w (.slice A n c) l) (hk : k < l.length) : ∃ ad, A = some ad ∧ w.cell? (ad.add k) = some (.bool (bx l k)) := by
  obtain ⟨A', c', he, _, _, h4⟩ := h
  injection he with h1
  subst h1
  exact h4 k hk
theorem bx_set {l : List Bool} {k j : Nat} {x : Bool} (hk : k < l.length) : bx (l.set k x) j = if j = k then x else bx l j := by
  unfold bx
  by_cases h : j = k
  · subst h; simp [hk]
  · simp [h, Ne.symm h]
theorem bools_ext {l m : List Bool} (hl : l.length = m.length) (h : ∀ j, j < m.length → bx l j = bx m j) : l = m := by
  apply List.ext_getElem hl
  intro j h1 h2
  have := h j h2
  rwa [bx_lt h1, bx_lt h2] at this

/-- v is a row of bools of the call's own, from block B on, that holds l. -/
def OwnBools (w : World) (B : Nat) (v : Value) (l : List Bool) : Prop := w.ownsRow B 4 1 v l.length (l.map Value.bool)
theorem OwnBools.bools {w : World} {B : Nat} {v : Value} {l : List Bool} (h : OwnBools w B v l) : Bools w v l :=
  (SlF.of_own h).congr fun k hk => by simp [bx, hk]
theorem OwnBools.below {w w' : World} {B B' : Nat} {v : Value} {l : List Bool} (h : OwnBools w B v l) (hb : Below B' w w') (hB : w.heap.size ≤ B') : OwnBools w' B v l := by
  refine ⟨h.1, ?_⟩
  rcases h.2 with hn | ⟨g, cap, cur, rfl, hg, hh, rest⟩
  · exact .inl hn
  · exact .inr ⟨g, cap, cur, rfl, hg, (hb.block g (Nat.lt_of_lt_of_le (Array.getElem?_eq_some_iff.1 hh).1 hB)).trans hh, rest⟩
theorem OwnBools.more {w : World} {B B' : Nat} {v : Value} {l : List Bool} (h : OwnBools w B v l) (hB : B' ≤ B) : OwnBools w B' v l := by
  refine ⟨h.1, ?_⟩
  rcases h.2 with hn | ⟨g, cap, cur, rfl, hg, rest⟩
  · exact .inl hn
  · exact .inr ⟨g, cap, cur, rfl, Nat.le_trans hB hg, rest⟩
/-- .. and below block C. -/
def OB (w : World) (B C : Nat) (v : Value) (l : List Bool) : Prop := OwnBools w B v l ∧ ∀ k, v.ownBlock = some k → k < C
theorem OB.bools {w : World} {B C : Nat} {v : Value} {l : List Bool} (h : OB w B C v l) : Bools w v l := h.1.bools
theorem OB.of {w : World} {B : Nat} {v : Value} {l : List Bool} (h : OwnBools w B v l) : OB w B w.heap.size v l := ⟨h, fun k hk => (h.lt k hk).2⟩
theorem OB.kept {w w' : World} {B C B' C' : Nat} {v : Value} {l : List Bool} (h : OB w B C v l) (ho : Only B' C' w w') (hd : C ≤ B' ∨ C' ≤ B) : OB w' B C v l := by
  refine ⟨⟨h.1.1, ?_⟩, h.2⟩
  rcases h.1.2 with hn | ⟨g, cap, cur, rfl, hg, hh, rest⟩
  · exact .inl hn
  · have h2 := h.2 g rfl
    exact .inr ⟨g, cap, cur, rfl, hg, (ho.block g (Array.getElem?_eq_some_iff.1 hh).1 (by omega)).trans hh, rest⟩
theorem OB.below {w w' : World} {B C : Nat} {v : Value} {l : List Bool} (h : OB w B C v l) (hb : Below w.heap.size w w') : OB w' B C v l := h.kept (Only.of_below (B := C) (C := B) hb) (.inl (Nat.le_refl _))
theorem OB.drewN {w : World} {B C : Nat} {v : Value} {l : List Bool} (h : OB w B C v l) (n : Nat) : OB (w.drewN n) B C v l := h

/-- Block g is an array of bools of the call's own that holds l. -/
def BArr (w : World) (g : Nat) (l : List Bool) : Prop := Arr w g 4 (l.map Value.bool)
theorem BArr.cell {w : World} {g : Nat} {l : List Bool} (h : BArr w g l) {k : Nat} (hk : k < l.length) : w.cell? ⟨g, k, none⟩ = some (.bool (bx l k)) := by
  have := Arr.cell h (k := k) (by simpa using hk)
  simpa [bx, hk] using this
theorem BArr.frozen {w : World} {g : Nat} {l : List Bool} (h : BArr w g l) (k : Nat) : w.frozen? ⟨g, k, none⟩ = false := Arr.frozen h k
theorem BArr.set_ {w : World} {g : Nat} {l : List Bool} (h : BArr w g l) (k : Nat) (x : Bool) : BArr (w.setCell ⟨g, k, none⟩ (.bool x)) g (l.set k x) := by
  have := Arr.set_ h k (.bool x)
  unfold BArr
  rwa [List.map_set]
theorem BArr.own {w : World} {g B : Nat} {l : List Bool} (h : BArr w g l) (hB : B ≤ g) (hm : l.length ≤ 4611686018427387904) : OwnBools w B (.slice (some ⟨g, 0, none⟩) l.length l.length) l :=
  Arr.own h hB (by simp) hm
theorem BArr.new (w : World) (n : Nat) : BArr (w.alloc (.cells (zeros (.bool false) n).toArray 4)) w.heap.size (List.replicate n false) := by
  have := Arr.new w 4 (zeros (.bool false) n)
  unfold BArr
  rwa [List.map_replicate]
theorem BArr.below {w w' : World} {B g : Nat} {l : List Bool} (h : BArr w g l) (hb : Below B w w') (hg : g < B) : BArr w' g l := Arr.below h hb hg
theorem BArr.lt {w : World} {g : Nat} {l : List Bool} (h : BArr w g l) : g < w.heap.size := Arr.lt h
theorem BArr.bools {w : World} {g : Nat} {l : List Bool} (h : BArr w g l) (hm : l.length ≤ 4611686018427387904) : Bools w (.slice (some ⟨g, 0, none⟩) l.length l.length) l := (h.own (Nat.le_refl _) hm).bools

def RetBools (w : World) (l : List Bool) (e : Ending) (w' : World) : Prop := ∃ u, e = .returned u ∧ OwnBools w' w.heap.size u l ∧ Below w.heap.size w w'
theorem RetBools.mk' {w w' : World} {l : List Bool} {u : Value} (h1 : OwnBools w' w.heap.size u l) (h2 : Below w.heap.size w w') : RetBools w l (.returned u) w' := ⟨u, rfl, h1, h2⟩
theorem RetBools.at_ {w W w' : World} {l : List Bool} {u : Value} (hb : Below w.heap.size w W) (h1 : OwnBools w' W.heap.size u l) (h2 : Below W.heap.size W w') : RetBools w l (.returned u) w' := .mk' (h1.more hb.size) (Below.up hb h2)

/-- Of each of n vertices whether it is in s. -/
def marksL (n : Nat) (s : List Int) : List Bool := (List.range n).map fun (v : Nat) => decide ((v : Int) ∈ s)
@[simp] theorem length_marksL (n : Nat) (s : List Int) : (marksL n s).length = n := by simp [marksL]
theorem bx_marksL {n v : Nat} {s : List Int} (h : v < n) : bx (marksL n s) v = decide ((v : Int) ∈ s) := by simp [bx, marksL, h]
theorem marksL_nil (n : Nat) : marksL n [] = List.replicate n false := by
  apply bools_ext (by simp)
  intro j hj
  rw [List.length_replicate] at hj
  rw [bx_marksL hj]
  simp [bx, hj]
theorem marksL_set {n k j : Nat} {s : List Int} (hk : k < s.length) (hj : ix s k = (j : Int)) (hjn : j < n) : (marksL n (s.take k)).set j true = marksL n (s.take (k + 1)) := by
  apply bools_ext (by simp)
  intro i hi
  rw [length_marksL] at hi
  rw [bx_set (by simpa using hjn), bx_marksL hi, bx_marksL hi, take_ix hk, hj]
  by_cases h : i = j
  · subst h; simp
  · rw [if_neg h]
    have : ¬ (i : Int) = (j : Int) := by omega
    simp [this]
/-- The elements of s are vertices below n. -/
def Vert (s : List Int) (n : Nat) : Prop := ∀ k, k < s.length → ∃ j : Nat, ix s k = (j : Int) ∧ j < n
theorem IsSet.vert {s : List Int} {n : Nat} (h : IsSet s n) : Vert s n := fun k hk => by
  obtain ⟨h1, h2, _⟩ := h k hk
  exact ⟨(ix s k).toNat, by omega, by omega⟩
end Go.Proofs.Ytogfpalgnjlfcaa

/- Lists of lists of numbers: their sizes, the numbers that the laws write into them. No program in sight. -/
namespace Go.Proofs.Ytogfpalgnjlfcaa
set_option linter.unusedSimpArgs false
set_option linter.unusedVariables false

def vx (vs : List Value) (k : Nat) : Value := vs.getD k undef
theorem vx_lt {vs : List Value} {k : Nat} (h : k < vs.length) : vx vs k = vs[k] := by simp [vx, h]
theorem vx_set {vs : List Value} {k j : Nat} {x : Value} (hk : k < vs.length) : vx (vs.set k x) j = if j = k then x else vx vs j := by
  unfold vx
  by_cases h : j = k
  · subst h; simp [hk]
  · simp [h, Ne.symm h]
theorem rx_set {ll : List (List Int)} {k j : Nat} {x : List Int} (hk : k < ll.length) : rx (ll.set k x) j = if j = k then x else rx ll j := by
  unfold rx
  by_cases h : j = k
  · subst h; simp [hk]
  · simp [h, Ne.symm h]
theorem rows_ext {l m : List (List Int)} (hl : l.length = m.length) (h : ∀ j, j < m.length → rx l j = rx m j) : l = m := by
  apply List.ext_getElem hl
  intro j h1 h2
  have := h j h2
  rwa [rx_lt h1, rx_lt h2] at this
theorem vals_ext {l m : List Value} (hl : l.length = m.length) (h : ∀ j, j < m.length → vx l j = vx m j) : l = m := by
  apply List.ext_getElem hl
  intro j h1 h2
  have := h j h2
  rwa [vx_lt h1, vx_lt h2] at this

/-- How many numbers stand in the first k rows. -/
def offR (ll : List (List Int)) (k : Nat) : Nat := ((ll.take k).map List.length).sum
def sizeR (ll : List (List Int)) : Nat := offR ll ll.length
@[simp] theorem offR_zero (ll : List (List Int)) : offR ll 0 = 0 := by simp [offR]
theorem offR_succ {ll : List (List Int)} {k : Nat} (hk : k < ll.length) : offR ll (k + 1) = offR ll k + (rx ll k).length := by
  unfold offR
  rw [List.take_succ_eq_append_getElem hk, rx_lt hk, List.map_append, List.sum_append]
  simp
theorem offR_le {ll : List (List Int)} {j k : Nat} (h : j ≤ k) (hk : k ≤ ll.length) : offR ll j ≤ offR ll k := by
  induction k with
  | zero => have : j = 0 := by omega
            subst this; exact Nat.le_refl _
  | succ k ih =>
    by_cases e : j = k + 1
    · subst e; exact Nat.le_refl _
    · have := ih (by omega) (by omega)
      rw [offR_succ (by omega)]; omega
theorem len_le_sizeR {ll : List (List Int)} {k : Nat} (hk : k < ll.length) : (rx ll k).length ≤ sizeR ll := by
  have h1 := offR_succ hk
  have h2 : offR ll (k + 1) ≤ sizeR ll := offR_le (by omega) (Nat.le_refl _)
  omega
theorem offR_mul {ll : List (List Int)} {M : Nat} (h : ∀ k, k < ll.length → (rx ll k).length ≤ M) {k : Nat} (hk : k ≤ ll.length) : offR ll k ≤ k * M := by
  induction k with
  | zero => simp
  | succ k ih =>
    have h1 := ih (by omega)
    have h2 := h k (by omega)
    rw [offR_succ (by omega), Nat.add_mul]
    omega
/-- The rows of the same lengths that hold k0, k0 + 1, .. -/
def markR (k0 : Int) (ll : List (List Int)) : List (List Int) := (List.range ll.length).map fun j => upFrom (k0 + (offR ll j : Nat)) (rx ll j).length
@[simp] theorem length_markR (k0 : Int) (ll : List (List Int)) : (markR k0 ll).length = ll.length := by simp [markR]
theorem rx_markR {k0 : Int} {ll : List (List Int)} {j : Nat} (h : j < ll.length) : rx (markR k0 ll) j = upFrom (k0 + (offR ll j : Nat)) (rx ll j).length := by simp [rx, markR, h]
end Go.Proofs.Ytogfpalgnjlfcaa

/- Slices of slices of int64s: read, and made by a call of its own; the walks of the laws' helpers on them. Conditions: the lengths. -/
namespace Go.Proofs.Ytogfpalgnjlfcaa
set_option linter.unusedSimpArgs false
set_option linter.unusedVariables false
open Go.RowKit

theorem rows_info : (Try.prog.info? 27).map (fun i => (i.zero, i.size, i.bytes)) = some (some (.slice none 0 0), 1, 24) := by kernel_rfl
theorem elem_rows : Elem 28 27 (.slice none 0 0) := Elem.mk' Try.underlying28 rows_info (by omega) rfl

/-- v is a slice of slices of a call's own, from block B on and below C: its elements are vs, which hold ll; no two lie in one block. -/
structure RowsV (w : World) (B C : Nat) (v : Value) (vs : List Value) (ll : List (List Int)) : Prop where
  len : vs.length = ll.length
  own : w.ownsRow B 27 1 v ll.length vs
  lt : ∀ b, v.ownBlock = some b → b < C
  row : ∀ k, k < ll.length → OI w B C (vx vs k) (rx ll k)
  ne : ∀ i j, i < ll.length → j < ll.length → i ≠ j → ∀ b, (vx vs i).ownBlock = some b → (vx vs j).ownBlock ≠ some b

theorem OI.mono {w : World} {B C B' C' : Nat} {v : Value} {l : List Int} (h : OI w B C v l) (hB : B' ≤ B) (hC : C ≤ C') : OI w B' C' v l := ⟨h.1.more hB, fun k hk => Nat.lt_of_lt_of_le (h.2 k hk) hC⟩
theorem OI.heap {w w' : World} {B C : Nat} {v : Value} {l : List Int} (h : OI w B C v l) (hh : ∀ b, v.ownBlock = some b → w'.heap[b]? = w.heap[b]?) : OI w' B C v l := by
  refine ⟨⟨h.1.1, ?_⟩, h.2⟩
  rcases h.1.2 with hn | ⟨g, cap, cur, rfl, hg, hc, rest⟩
  · exact .inl hn
  · exact .inr ⟨g, cap, cur, rfl, hg, (hh g rfl).trans hc, rest⟩
theorem owns_heap {w w' : World} {B n size : Nat} {e : TypeId} {v : Value} {xs : List Value} (h : w.ownsRow B e size v n xs) (hh : ∀ b, v.ownBlock = some b → w'.heap[b]? = w.heap[b]?) : w'.ownsRow B e size v n xs := by
  refine ⟨h.1, ?_⟩
  rcases h.2 with hn | ⟨g, cap, cur, rfl, hg, hc, rest⟩
  · exact .inl hn
  · exact .inr ⟨g, cap, cur, rfl, hg, (hh g rfl).trans hc, rest⟩
/-- Rows whose element types differ never lie in one block. -/
theorem owns_ne {w : World} {B B' n n' s s' : Nat} {e e' : TypeId} {v v' : Value} {xs xs' : List Value} (h : w.ownsRow B e s v n xs) (h' : w.ownsRow B' e' s' v' n' xs') (hne : e ≠ e') {b : Nat} (hb : v.ownBlock = some b) : v'.ownBlock ≠ some b := by
  intro hb'
  rcases h.2 with ⟨rfl, _⟩ | ⟨g, cap, cur, rfl, _, hg, _⟩
  · simp [Value.ownBlock] at hb
  · rcases h'.2 with ⟨rfl, _⟩ | ⟨g', cap', cur', rfl, _, hg', _⟩
    · simp [Value.ownBlock] at hb'
    · simp only [Value.ownBlock, Option.some.injEq] at hb hb'
      subst hb
      subst hb'
      rw [hg] at hg'
      injection hg' with hg'
      injection hg' with _ ht
      exact hne ht
theorem row_type_ne : (27 : TypeId) ≠ 2 := by decide

theorem RowsV.kept {w w' : World} {B C B' C' : Nat} {v : Value} {vs : List Value} {ll : List (List Int)} (h : RowsV w B C v vs ll) (ho : Only B' C' w w') (hd : C ≤ B' ∨ C' ≤ B) : RowsV w' B C v vs ll := by
  refine ⟨h.len, owns_heap h.own fun b hb => ?_, h.lt, fun k hk => (h.row k hk).kept ho hd, h.ne⟩
  have h1 := h.own.lt b hb
  have h2 := h.lt b hb
  exact ho.block b h1.2 (by omega)
theorem RowsV.rows {w : World} {B C : Nat} {v : Value} {vs : List Value} {ll : List (List Int)} (h : RowsV w B C v vs ll) : Rows w v ll :=
  ⟨vx vs, SlF.of_own h.own, fun k hk => (h.row k hk).ints⟩
theorem RowsV.mono {w : World} {B C B' C' : Nat} {v : Value} {vs : List Value} {ll : List (List Int)} (h : RowsV w B C v vs ll) (hB : B' ≤ B) (hC : C ≤ C') : RowsV w B' C' v vs ll := by
  refine ⟨h.len, ⟨h.own.1, ?_⟩, fun b hb => Nat.lt_of_lt_of_le (h.lt b hb) hC, fun k hk => (h.row k hk).mono hB hC, h.ne⟩
  rcases h.own.2 with hn | ⟨g, cap, cur, rfl, hg, rest⟩
  · exact .inl hn
  · exact .inr ⟨g, cap, cur, rfl, Nat.le_trans hB hg, rest⟩

theorem RowsV.heap {w w' : World} {B C : Nat} {v : Value} {vs : List Value} {ll : List (List Int)} (h : RowsV w B C v vs ll) (h1 : ∀ b, v.ownBlock = some b → w'.heap[b]? = w.heap[b]?)
    (h2 : ∀ k, k < ll.length → ∀ b, (vx vs k).ownBlock = some b → w'.heap[b]? = w.heap[b]?) : RowsV w' B C v vs ll :=
  ⟨h.len, owns_heap h.own h1, h.lt, fun k hk => (h.row k hk).heap (h2 k hk), h.ne⟩
theorem RowsV.form {w : World} {B C : Nat} {v : Value} {vs : List Value} {ll : List (List Int)} (h : RowsV w B C v vs ll) : ∃ A c, v = .slice A ll.length c := by
  obtain ⟨A, c, h1, _⟩ := SlF.of_own h.own
  exact ⟨A, c, h1⟩

/-- The same with the elements' slices left open. -/
def ORw (w : World) (B C : Nat) (v : Value) (ll : List (List Int)) : Prop := ∃ vs, RowsV w B C v vs ll
theorem ORw.kept {w w' : World} {B C B' C' : Nat} {v : Value} {ll : List (List Int)} (h : ORw w B C v ll) (ho : Only B' C' w w') (hd : C ≤ B' ∨ C' ≤ B) : ORw w' B C v ll := by
  obtain ⟨vs, h⟩ := h; exact ⟨vs, h.kept ho hd⟩
theorem ORw.below {w w' : World} {B C : Nat} {v : Value} {ll : List (List Int)} (h : ORw w B C v ll) (hb : Below w.heap.size w w') : ORw w' B C v ll := h.kept (Only.of_below (B := C) (C := B) hb) (.inl (Nat.le_refl _))
theorem ORw.rows {w : World} {B C : Nat} {v : Value} {ll : List (List Int)} (h : ORw w B C v ll) : Rows w v ll := by obtain ⟨vs, h⟩ := h; exact h.rows

theorem ORw.old {w w' : World} {v : Value} {ll : List (List Int)} {B : Nat} (h : ORw w B w.heap.size v ll) (hb : Below w.heap.size w w') : ORw w' B w'.heap.size v ll := by
  obtain ⟨vs, h⟩ := h
  exact ⟨vs, ((h.kept (Only.of_below (B := w.heap.size) (C := w.heap.size) hb) (.inl (Nat.le_refl _))).mono (Nat.le_refl _) hb.size)⟩
/-- Of the blocks that w has, w' has turned none but those of S. -/
structure Chg (S : Nat → Prop) (w w' : World) : Prop where
  os : w'.os = w.os
  tape : w'.tape = w.tape
  output : w'.output = w.output
  size : w.heap.size ≤ w'.heap.size
  block : ∀ k, k < w.heap.size → ¬ S k → w'.heap[k]? = w.heap[k]?
theorem Chg.refl (S : Nat → Prop) (w : World) : Chg S w w := ⟨rfl, rfl, rfl, Nat.le_refl _, fun _ _ _ => rfl⟩
theorem Chg.grown {S : Nat → Prop} {a b c : World} {row : Option Nat} (h : Chg S a b) (k : b.grownBy c row) (hr : ∀ r, row = some r → S r) : Chg S a c :=
  ⟨k.os.trans h.os, k.tape.trans h.tape, k.output.trans h.output, Nat.le_trans h.size k.size, fun i hi hne => (k.block i (Nat.lt_of_lt_of_le hi h.size) (fun e => hne (hr i e.symm))).trans (h.block i hi hne)⟩
theorem Chg.below {S : Nat → Prop} {a b c : World} (h : Chg S a b) (k : Below b.heap.size b c) : Chg S a c :=
  ⟨k.os.trans h.os, k.tape.trans h.tape, k.output.trans h.output, Nat.le_trans h.size k.size, fun i hi hne => (k.block i (Nat.lt_of_lt_of_le hi h.size)).trans (h.block i hi hne)⟩
theorem Chg.only {S : Nat → Prop} {B C : Nat} {a b : World} (h : Chg S a b) (hS : ∀ k, S k → B ≤ k ∧ k < C) : Only B C a b :=
  ⟨h.os, h.tape, h.output, h.size, fun k hk hh => h.block k hk (fun hs => by have := hS k hs; omega)⟩

end Go.Proofs.Ytogfpalgnjlfcaa

/- Arenas: read, and made by a call of its own; the walks of the laws' helpers on them. Conditions: the lengths. -/
namespace Go.Proofs.Ytogfpalgnjlfcaa
set_option linter.unusedSimpArgs false
set_option linter.unusedVariables false
open Go.RowKit

structure ArenaD where
  owner : List Int
  next : List (List Int)
  deriving DecidableEq

/-- v is an arena that reads as a. -/
def IsArena (w : World) (v : Value) (a : ArenaD) : Prop := ∃ o n, v = .agg #[o, n] ∧ Ints w o a.owner ∧ Rows w n a.next
theorem IsArena.kept {w w' : World} {v : Value} {a : ArenaD} (h : IsArena w v a) (hk : Kept w w') : IsArena w' v a := by
  obtain ⟨o, n, rfl, h1, h2⟩ := h
  exact ⟨o, n, rfl, h1.kept hk, h2.kept hk⟩
/-- .. of a call's own, from block B on and below C. -/
def OA (w : World) (B C : Nat) (v : Value) (a : ArenaD) : Prop :=
  ∃ o n vs, v = .agg #[o, n] ∧ OI w B C o a.owner ∧ RowsV w B C n vs a.next ∧ ∀ b, o.ownBlock = some b → ∀ k, k < a.next.length → (vx vs k).ownBlock ≠ some b
theorem OA.arena {w : World} {B C : Nat} {v : Value} {a : ArenaD} (h : OA w B C v a) : IsArena w v a := by
  obtain ⟨o, n, vs, rfl, h1, h2, _⟩ := h
  exact ⟨o, n, rfl, h1.ints, h2.rows⟩
theorem OA.kept {w w' : World} {B C B' C' : Nat} {v : Value} {a : ArenaD} (h : OA w B C v a) (ho : Only B' C' w w') (hd : C ≤ B' ∨ C' ≤ B) : OA w' B C v a := by
  obtain ⟨o, n, vs, rfl, h1, h2, h3⟩ := h
  exact ⟨o, n, vs, rfl, h1.kept ho hd, h2.kept ho hd, h3⟩
theorem OA.below {w w' : World} {B C : Nat} {v : Value} {a : ArenaD} (h : OA w B C v a) (hb : Below w.heap.size w w') : OA w' B C v a := h.kept (Only.of_below (B := C) (C := B) hb) (.inl (Nat.le_refl _))
theorem OA.mono {w : World} {B C B' C' : Nat} {v : Value} {a : ArenaD} (h : OA w B C v a) (hB : B' ≤ B) (hC : C ≤ C') : OA w B' C' v a := by
  obtain ⟨o, n, vs, rfl, h1, h2, h3⟩ := h
  exact ⟨o, n, vs, rfl, h1.mono hB hC, h2.mono hB hC, h3⟩

def sizeA (a : ArenaD) : Nat := a.owner.length + sizeR a.next
def bulkA (a : ArenaD) : Nat := a.owner.length + (a.next.length + sizeR a.next)

end Go.Proofs.Ytogfpalgnjlfcaa

/- append of a whole slice to a row of the call's own; slices of slices that grow. Condition: the lengths are below 2^40. -/
namespace Go.Proofs.Ytogfpalgnjlfcaa
set_option linter.unusedSimpArgs false
set_option linter.unusedVariables false
open Go.RowKit

/-- The cells of a slice, as a list. -/
def cellsL (f : Nat → Value) (m : Nat) : List Value := (List.range m).map f
theorem length_cellsL (f : Nat → Value) (m : Nat) : (cellsL f m).length = m := by simp [cellsL]
theorem cellsL_ints (l : List Int) : cellsL (fun k => .int .i64 (ix l k)) l.length = l.map (Value.int .i64) := by
  apply List.ext_getElem (by simp [cellsL])
  intro k h1 h2
  have h3 : k < l.length := by simpa using h2
  simp [cellsL, ix, h3]
theorem cellsL_bools (l : List Bool) : cellsL (fun k => .bool (bx l k)) l.length = l.map Value.bool := by
  apply List.ext_getElem (by simp [cellsL])
  intro k h1 h2
  have h3 : k < l.length := by simpa using h2
  simp [cellsL, bx, h3]
theorem run_append_nothing {t ty e : TypeId} {z : Value} (E : Elem t e z) (w : World) (B : Nat) (v : Value) (n : Nat) (xs : List Value) (hown : w.ownsRow B e 1 v n xs) (c : Nat) :
    (Builtin.append_ #[t, t] ty #[v, .slice none 0 c]).run Try.prog w = .ok v w := by
  obtain ⟨i0, hi, hz0, hz1, hz2⟩ := E.hi
  rcases hown.2 with ⟨rfl, rfl⟩ | ⟨g, cap, cur, rfl, _, _, hnc, _⟩
  · simp [Builtin.append_, run_underlying E.ht, sizeOf, typeInfo, hi, Builtin.lenOf, Builtin.firstCells]
  · simp [Builtin.append_, run_underlying E.ht, sizeOf, typeInfo, hi, Builtin.lenOf, Builtin.firstCells, hnc, storeCells]
theorem run_append_all {t ty e : TypeId} {z : Value} (E : Elem t e z) (w : World) (B : Nat) (v : Value) (n : Nat) (xs : List Value) (hown : w.ownsRow B e 1 v n xs)
    (A : Option Addr) (m c : Nat) (f : Nat → Value) (hx : SlF w (.slice A m c) m f) (h1 : ∀ k, k < m → (f k).oneCell' = true) (hn : n + m ≤ 1099511627776) (hB : B ≤ w.heap.size) :
    ∃ v' w', (Builtin.append_ #[t, t] ty #[v, .slice A m c]).run Try.prog w = .ok v' w' ∧ w'.ownsRow B e 1 v' (n + m) (xs ++ cellsL f m) ∧ w.grownBy w' v.ownBlock ∧ (v'.ownBlock = v.ownBlock ∨ v'.ownBlock = some w.heap.size) := by
  obtain ⟨i0, hi, hz0, hz1, hz2⟩ := E.hi
  have hzs : z.cells.size = 1 := by rw [E.hz]; rfl
  rcases A with _ | ad
  · have hm : m = 0 := by
      rcases Nat.eq_zero_or_pos m with h0 | h0
      · exact h0
      · obtain ⟨ad, h, _⟩ := hx.at_ h0
        cases h
    subst hm
    exact ⟨v, w, run_append_nothing E w B v n xs hown c, by simpa [cellsL] using hown, World.grownBy.refl w _, .inl rfl⟩
  · have hcells : ∀ j u, (cellsL f m)[j]? = some u → w.cell? (ad.add j) = some u := by
      intro j u hu
      obtain ⟨hj, e⟩ := List.getElem?_eq_some_iff.1 hu
      rw [length_cellsL] at hj
      obtain ⟨ad', h, hc⟩ := hx.at_ hj
      have h' := Option.some.inj h
      subst h'
      rw [hc, ← e]
      simp [cellsL]
    have hone : ∀ u ∈ cellsL f m, u.oneCell' = true := by
      intro u hu
      simp only [cellsL, List.mem_map, List.mem_range] at hu
      obtain ⟨k, hk, rfl⟩ := hu
      exact h1 k hk
    have hb : (n + m) * i0.bytes ≤ 140737488355328 := by
      have : (n + m) * i0.bytes ≤ 1099511627776 * 24 := Nat.mul_le_mul hn hz2
      omega
    obtain ⟨v', w', hrun, h2, h3, _, h5⟩ := run_append_own_at (P := Try.prog) w B t ty e i0 z 1 i0.bytes E.ht hi hz0 hz1 rfl hzs (by omega) v n xs hown ad m c (cellsL f m) (by rw [length_cellsL]; omega) hcells hone (by unfold maxLen; omega) hb hB
    exact ⟨v', w', hrun, h2, h3, h5⟩
theorem wp_append_all {o : Oper} {a : Act} {K : Act → World → Prop} {Q : Exit → Act → World → Prop} {t e : TypeId} {z : Value} (E : Elem t e z) (w : World) (s x : Operand)
    (ho : o.op = .call { callee := .builtin .append, args := #[s, x], argTypes := #[t, t] }) (B : Nat) (v : Value) (n : Nat) (xs : List Value) (hs : a.eval s = v) (hown : w.ownsRow B e 1 v n xs)
    (A : Option Addr) (m c : Nat) (f : Nat → Value) (hxe : a.eval x = .slice A m c) (hx : SlF w (.slice A m c) m f) (h1 : ∀ k, k < m → (f k).oneCell' = true) (hn : n + m ≤ 1099511627776) (hB : B ≤ w.heap.size)
    (h : ∀ v' w', w'.ownsRow B e 1 v' (n + m) (xs ++ cellsL f m) → w.grownBy w' v.ownBlock → (v'.ownBlock = v.ownBlock ∨ v'.ownBlock = some w.heap.size) → K (a.put o.dst v') w') : o.wp Try.prog a w K Q := by
  obtain ⟨v', w', hrun, h2, h3, h4⟩ := run_append_all (ty := o.type) E w B v n xs hown A m c f hx h1 hn hB
  unfold Oper.wp execOp
  simp only [ho, resolve, invoke, builtin, Sem.run_bind, Sem.run_pure, Result.andThen_ok, List.map_toArray, List.map_cons, List.map_nil, hs, hxe, hrun]
  exact h v' w' h2 h3 h4
/-- 'append(s, x...)', s a row of int64s of the call's own. -/
theorem append_ints {ops : Array Oper} {rest : List Oper} {o : Oper} {a : Act} {Q : Exit → Act → World → Prop} (w : World) (hgd : o.guard = none) (s x : Operand)
    (ho : o.op = .call { callee := .builtin .append, args := #[s, x], argTypes := #[27, 27] }) (B : Nat) (v : Value) (l : List Int) (hs : a.eval s = v) (hown : OwnInts w B v l)
    (y : Value) (m : List Int) (hxe : a.eval x = y) (hx : Ints w y m) (hn : l.length + m.length ≤ 1099511627776) (hB : B ≤ w.heap.size)
    (h : ∀ v' w', OwnInts w' B v' (l ++ m) → Below B w w' → w.grownBy w' v.ownBlock → (v'.ownBlock = v.ownBlock ∨ v'.ownBlock = some w.heap.size) → wpList Try.prog ops Q rest (a.put o.dst v') w') :
    wpList Try.prog ops Q (o :: rest) a w := by
  obtain ⟨A, c, rfl, _⟩ := hx.form
  refine wpList_plain hgd fun _ hK => wp_append_all elem_int64 w s x ho B v l.length _ hs hown A m.length c _ hxe hx (fun _ _ => rfl) hn hB fun v' w' h2 h3 h4 => hK _ _ (h v' w' ?_ ((Below.refl _ _).grown h3 hB fun k hk => (hown.lt k hk).1) h3 h4)
  unfold OwnInts
  rw [List.map_append, List.length_append, ← cellsL_ints m]
  exact h2
/-- .. of bools. -/
theorem append_bools {ops : Array Oper} {rest : List Oper} {o : Oper} {a : Act} {Q : Exit → Act → World → Prop} {t e : TypeId} (E : Elem t e (.bool false)) (w : World) (hgd : o.guard = none) (s x : Operand)
    (ho : o.op = .call { callee := .builtin .append, args := #[s, x], argTypes := #[t, t] }) (B : Nat) (v : Value) (l : List Bool) (hs : a.eval s = v) (hown : w.ownsRow B e 1 v l.length (l.map Value.bool))
    (y : Value) (m : List Bool) (hxe : a.eval x = y) (hx : Bools w y m) (hn : l.length + m.length ≤ 1099511627776) (hB : B ≤ w.heap.size)
    (h : ∀ v' w', w'.ownsRow B e 1 v' (l ++ m).length ((l ++ m).map Value.bool) → Below B w w' → w.grownBy w' v.ownBlock → (v'.ownBlock = v.ownBlock ∨ v'.ownBlock = some w.heap.size) → wpList Try.prog ops Q rest (a.put o.dst v') w') :
    wpList Try.prog ops Q (o :: rest) a w := by
  have hx0 := hx
  obtain ⟨A, c, rfl, _⟩ := hx0
  refine wpList_plain hgd fun _ hK => wp_append_all E w s x ho B v l.length _ hs hown A m.length c _ hxe hx (fun _ _ => rfl) hn hB fun v' w' h2 h3 h4 => hK _ _ (h v' w' ?_ ((Below.refl _ _).grown h3 hB fun k hk => (hown.lt k hk).1) h3 h4)
  rw [List.map_append, List.length_append, ← cellsL_bools m]
  exact h2
/-- .. as one step of a region that draws. -/
theorem step_append_ints {ops : Array Oper} {o : Oper} {a : Act} {K : Act → World → Prop} {Q : Exit → Act → World → Prop} {E : Prop} (w : World) (hgd : o.guard = none) (s x : Operand)
    (ho : o.op = .call { callee := .builtin .append, args := #[s, x], argTypes := #[27, 27] }) (B : Nat) (v : Value) (l : List Int) (hs : a.eval s = v) (hown : OwnInts w B v l)
    (y : Value) (m : List Int) (hxe : a.eval x = y) (hx : Ints w y m) (hn : l.length + m.length ≤ 1099511627776) (hB : B ≤ w.heap.size)
    (h : ∀ v' w', OwnInts w' B v' (l ++ m) → Below B w w' → w.grownBy w' v.ownBlock → (v'.ownBlock = v.ownBlock ∨ v'.ownBlock = some w.heap.size) → K (a.put o.dst v') w') :
    if Region.wanted o (yielded ops a.tmps) = true then Oper.wp Try.prog o a w K Q else E := by
  have hw : Region.wanted o (yielded ops a.tmps) = true := by simp [Region.wanted, hgd]
  rw [if_pos hw]
  obtain ⟨A, c, rfl, _⟩ := hx.form
  refine wp_append_all elem_int64 w s x ho B v l.length _ hs hown A m.length c _ hxe hx (fun _ _ => rfl) hn hB fun v' w' h2 h3 h4 => h v' w' ?_ ((Below.refl _ _).grown h3 hB fun k hk => (hown.lt k hk).1) h3 h4
  unfold OwnInts
  rw [List.map_append, List.length_append, ← cellsL_ints m]
  exact h2

/-- 'append(s, y)', y one value, as one step of a region that draws. -/
theorem step_append_one {ops : Array Oper} {o : Oper} {a : Act} {K : Act → World → Prop} {Q : Exit → Act → World → Prop} {F : Prop} {t e : TypeId} {z : Value} (E : Elem t e z) (w0 : World) (hgd : o.guard = none) (s x : Operand)
    (ho : o.op = .call { callee := .builtin .append, args := #[s, x], argTypes := #[t, t] })
    (B : Nat) (v : Value) (n : Nat) (xs : List Value) (hs : a.eval s = v) (hown : w0.ownsRow B e 1 v n xs) (y : Value) (hy : y.oneCell' = true)
    (hx : a.eval x = .slice (some ⟨w0.heap.size, 0, none⟩) 1 1) (hn : n ≤ 1048576) (hB : B ≤ w0.heap.size)
    (h : ∀ v' w', w'.ownsRow B e 1 v' (n + 1) (xs ++ [y]) → w0.grownBy w' v.ownBlock → (v'.ownBlock = v.ownBlock ∨ v'.ownBlock = some (w0.heap.size + 1)) → K (a.put o.dst v') w') :
    if Region.wanted o (yielded ops a.tmps) = true then Oper.wp Try.prog o a (w0.alloc (.cells #[y] e)) K Q else F := by
  have hw : Region.wanted o (yielded ops a.tmps) = true := by simp [Region.wanted, hgd]
  rw [if_pos hw]
  have hsl : SlF (w0.alloc (.cells #[y] e)) (.slice (some ⟨w0.heap.size, 0, none⟩) 1 1) 1 (fun _ => y) :=
    ⟨_, 1, rfl, Nat.le_refl _, by omega, fun k hk => ⟨_, rfl, by
      obtain rfl : k = 0 := by omega
      exact cell_one_new w0 y e 0 y rfl⟩⟩
  refine wp_append_all E (w0.alloc (.cells #[y] e)) s x ho B v n xs hs (hown.alloc _) (some ⟨w0.heap.size, 0, none⟩) 1 1 (fun _ => y) hx hsl (fun _ _ => hy) (by omega) (by simp; omega) fun v' w' h2 h3 h4 => h v' w' ?_ ?_ (by simpa using h4)
  · simpa [cellsL] using h2
  · exact ⟨h3.os, h3.tape, h3.output, by have := h3.size; simp at this; omega, fun k hk hne => (h3.block k (by simp; omega) hne).trans (Below.heap_alloc w0 _ k hk)⟩

theorem ione_new (w : World) (x : Int) : IArr (w.alloc (.cells #[.int .i64 x] 2)) w.heap.size [x] := Arr.new w _ _
theorem IArr.below' {w w' : World} {B g : Nat} {l : List Int} (h : IArr w g l) (hb : Below B w w') (hg : g < B) : IArr w' g l := Arr.below h hb hg
theorem IArr.heap' {w w' : World} {g : Nat} {l : List Int} (h : IArr w g l) (hh : w'.heap[g]? = w.heap[g]?) : IArr w' g l := Eq.trans hh h
theorem IArr.one_ints {w : World} {g : Nat} {x : Int} (h : IArr w g [x]) : Ints w (.slice (some ⟨g, 0, none⟩) 1 1) [x] := (IArr.own (B := 0) h (Nat.zero_le _) (by simp)).ints
theorem OwnInts.drew {w : World} {B : Nat} {v : Value} {l : List Int} (h : OwnInts w B v l) : OwnInts w.drew B v l := h

/-- A slice of slices that gets one row more. -/
theorem RowsV.snoc {w w' : World} {B C C' : Nat} {v v' y : Value} {vs : List Value} {ll : List (List Int)} {l : List Int} (h : RowsV w B C v vs ll) (hy : OI w B C y l)
    (hne : ∀ k, k < ll.length → ∀ b, (vx vs k).ownBlock = some b → y.ownBlock ≠ some b) (hown : w'.ownsRow B 27 1 v' (ll.length + 1) (vs ++ [y])) (hg : w.grownBy w' v.ownBlock)
    (hC : C ≤ C') (hC' : w'.heap.size ≤ C') : RowsV w' B C' v' (vs ++ [y]) (ll ++ [l]) := by
  have hl := h.len
  have hvx : ∀ k, k < ll.length → vx (vs ++ [y]) k = vx vs k := fun k hk => by
    rw [vx_lt (by simp; omega), vx_lt (by omega), List.getElem_append_left (by omega)]
  have hvy : vx (vs ++ [y]) ll.length = y := by
    rw [vx_lt (by simp; omega), List.getElem_append_right (by omega)]; simp [hl]
  have hrx : ∀ k, k < ll.length → rx (ll ++ [l]) k = rx ll k := fun k hk => by
    rw [rx_lt (by simp; omega), rx_lt hk, List.getElem_append_left hk]
  have hry : rx (ll ++ [l]) ll.length = l := by rw [rx_lt (by simp)]; simp
  have hrow : ∀ k, k < ll.length + 1 → OI w' B C' (vx (vs ++ [y]) k) (rx (ll ++ [l]) k) := fun k hk => by
    by_cases e : k = ll.length
    · subst e
      rw [hvy, hry]
      exact (hy.heap fun b hb => hg.block b (hy.1.lt b hb).2 fun e => owns_ne h.own hy.1 row_type_ne e.symm hb).mono (Nat.le_refl _) hC
    · rw [hvx k (by omega), hrx k (by omega)]
      have hr := h.row k (by omega)
      exact (hr.heap fun b hb => hg.block b (hr.1.lt b hb).2 fun e => owns_ne h.own hr.1 row_type_ne e.symm hb).mono (Nat.le_refl _) hC
  refine ⟨by simp [hl], by simpa using hown, fun b hb => Nat.lt_of_lt_of_le (hown.lt b hb).2 hC', fun k hk => hrow k (by simpa using hk), fun i j hi hj hij b hb => ?_⟩
  rw [List.length_append, List.length_singleton] at hi hj
  by_cases ei : i = ll.length
  · subst ei
    rw [hvy] at hb
    rw [hvx j (by omega)]
    intro hb2
    exact hne j (by omega) b hb2 hb
  · rw [hvx i (by omega)] at hb
    by_cases ej : j = ll.length
    · subst ej
      rw [hvy]
      exact hne i (by omega) b hb
    · rw [hvx j (by omega)]
      exact h.ne i j (by omega) (by omega) hij b hb
/-- '[][]int64{}'. -/
theorem new_rows (w : World) : RowsV (w.alloc (.cells #[] 27)) w.heap.size (w.alloc (.cells #[] 27)).heap.size (.slice (some ⟨w.heap.size, 0, none⟩) 0 0) [] [] ∧ Below w.heap.size w (w.alloc (.cells #[] 27)) :=
  ⟨⟨rfl, World.ownsRow_lit w #[] 0 (Nat.le_refl _) (by simp [maxLen]) (by simp), fun b hb => by simp [Value.ownBlock] at hb; subst hb; simp, fun k hk => by simp at hk, fun i j hi => by simp at hi⟩, (Below.refl _ _).alloc (Nat.le_refl _) _⟩
theorem nil_rows (w : World) (B C : Nat) : RowsV w B C (.slice none 0 0) [] [] :=
  ⟨rfl, World.ownsRow_nil w B _ 1, fun b hb => by simp [Value.ownBlock] at hb, fun k hk => by simp at hk, fun i j hi => by simp at hi⟩

def RetRows (w : World) (l : List (List Int)) (e : Ending) (w' : World) : Prop := ∃ u, e = .returned u ∧ ORw w' w.heap.size w'.heap.size u l ∧ Below w.heap.size w w'
theorem RetRows.mk' {w w' : World} {l : List (List Int)} {u : Value} (h1 : ORw w' w.heap.size w'.heap.size u l) (h2 : Below w.heap.size w w') : RetRows w l (.returned u) w' := ⟨u, rfl, h1, h2⟩
end Go.Proofs.Ytogfpalgnjlfcaa

/- How an argument that reads as data is opened into the words of Mem. -/
namespace Go.Proofs.Ytogfpalgnjlfcaa
set_option linter.unusedSimpArgs false
set_option linter.unusedVariables false
open Go.ChangeShapes Go.WideShapes Go.ChangeAt Go.RowKit

set_option maxRecDepth 100000 in
theorem own : ownKnob Try.prog.godebug = none := by kernel_rfl
set_option maxRecDepth 100000 in
theorem laidOut : laidOutB Try.prog = true := by kernel_rfl

section
variable {H : Type} {enc : TypeId × Value → H} {W : World} {base : Nat}

set_option maxRecDepth 100000 in
theorem ints_of_trod {r : Reach} {b0 : Nat} {spare : Nat → Bool} {held : Bool} {v : Value} {d : DataW H} {p : List MemPlace} (hv : Value.okWide Try.prog W r b0 27 v) (h : DataW.Trod enc Try.prog W base spare held 27 v d p) :
    ∃ l, Ints W v l := by
  obtain ⟨a0, len0, cap0, rfl⟩ := okWide_slice Try.underlying27 hv
  obtain ⟨fuel, hf⟩ := h
  rcases open_ints Try.underlying27 Try.underlying2 (by kernel_rfl) hf with ⟨hcs, _⟩ | ⟨x, l, c, zs, hcs, _, hl, hm, hz, _, hcell, hwz⟩
  · simp [Value.cells] at hcs
    obtain ⟨rfl, rfl, rfl⟩ := hcs
    exact ⟨[], none, 0, rfl, Nat.le_refl _, by omega, fun k hk => absurd hk (Nat.not_lt_zero _)⟩
  · simp [Value.cells] at hcs
    obtain ⟨rfl, rfl, rfl⟩ := hcs
    have hz' : len0 ≤ zs.length := by rw [hz]; split <;> omega
    have hlen : (zs.take len0).length = len0 := by simp only [List.length_take]; omega
    refine ⟨zs.take len0, some x, cap0, by rw [hlen], by rw [hlen]; exact hl, by unfold maxLen at hm; omega, fun k hk => ⟨x, rfl, ?_⟩⟩
    rw [hlen] at hk
    rw [hcell k (by omega)]
    have : ix (zs.take len0) k = zs.getD k 0 := by simp [ix, hk]
    simp only [this]
end
end Go.Proofs.Ytogfpalgnjlfcaa
