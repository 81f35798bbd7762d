/- Texts of this claim that go together: Mem, Ops, LawBase, Obj, Two, RowsPlain, Lists, Append, Arena, SetPlain, Bools, Frame. Conditions: those that each theorem names. -/
import Derived.WalkKit
import Derived.Below
import Derived.Laws.OwnMore
import Derived.Laws.Rows
import Derived.Deep.Draws
import Derived.Deep.AppendLies
import Derived.Lib.Hide
import Derived.Laws.MakeOwn
import Derived.Laws.Entries
import Derived.Deep.QuietTactic
import Derived.Test.YtpnophmanpfejaaChecked
import Derived.Maps.AppendAt
import Derived.OwnWalk
import Derived.Outline
import Derived.LoopTactic
import Derived.BigQuiet
import Derived.Deep.LoopGhost
import Derived.IntWalk
import Derived.Laws.ResultCell
import Derived.Deep.RegionHeld3
import Derived.ProofKit
import Derived.OpenShut
import Derived.ShutString
import Derived.ChangeOld
/- The words in which the contracts of this seat speak of memory: slices that read as lists, arrays that a call made. Plain definitions and lemmas, no condition. -/
namespace Go.Proofs.Ytpnophmanpfejaa
set_option linter.unusedSimpArgs false
set_option linter.unusedVariables false
open Go.RowKit

/-- The k-th number of a list, 0 beyond it. -/
def ix (l : List Int) (k : Nat) : Int := l.getD k 0
def bx (l : List Bool) (k : Nat) : Bool := l.getD k false
def rx (l : List (List Int)) (k : Nat) : List Int := l.getD k []

theorem ix_lt {l : List Int} {k : Nat} (h : k < l.length) : ix l k = l[k] := by simp [ix, h]
theorem bx_lt {l : List Bool} {k : Nat} (h : k < l.length) : bx l k = l[k] := by simp [bx, h]
theorem rx_lt {l : List (List Int)} {k : Nat} (h : k < l.length) : rx l k = l[k] := by simp [rx, h]

theorem add_head (g k : Nat) : (⟨g, 0, none⟩ : Addr).add k = ⟨g, k, none⟩ := by
  unfold Addr.add
  by_cases h : k = 0
  · subst h; rfl
  · rw [if_neg h]; simp
theorem block_of_add (a : Addr) (n : Nat) : (a.add n).block = a.block := by unfold Addr.add; split <;> rfl

/-- v is a slice of n cells, and the k-th cell holds f k. -/
def SlF (w : World) (v : Value) (n : Nat) (f : Nat → Value) : Prop :=
  ∃ A c, v = .slice A n c ∧ n ≤ c ∧ c ≤ 9223372036854775807 ∧ ∀ k, k < n → ∃ ad, A = some ad ∧ w.cell? (ad.add k) = some (f k)

/-- What was there in w is there in w'. -/
def Kept (w w' : World) : Prop := ∀ p : Addr, p.block < w.heap.size → w'.cell? p = w.cell? p

theorem Kept.refl (w : World) : Kept w w := fun _ _ => rfl
theorem Kept.of {w w' : World} (h : Below w.heap.size w w') : Kept w w' := fun _ hp => h.cell hp
theorem Kept.drewN (w : World) (q : Nat) : Kept w (w.drewN q) := fun _ _ => rfl
theorem Kept.trans {a b c : World} (h : Kept a b) (k : Kept b c) (hs : a.heap.size ≤ b.heap.size) : Kept a c := fun p hp => (k p (Nat.lt_of_lt_of_le hp hs)).trans (h p hp)
theorem Kept.at {B : Nat} {w0 w w' : World} (h : Below B w w') (hB : w0.heap.size ≤ B) (h0 : Kept w0 w) : Kept w0 w' := fun p hp => (h.cell (Nat.lt_of_lt_of_le hp hB)).trans (h0 p hp)
theorem Kept.cell {w w' : World} (h : Kept w w') {p : Addr} {v : Value} (hc : w.cell? p = some v) : w'.cell? p = some v := (h p (World.block_lt_of_cell? w p hc)).trans hc

theorem SlF.kept {w w' : World} {v : Value} {n : Nat} {f : Nat → Value} (h : SlF w v n f) (hk : Kept w w') : SlF w' v n f := by
  obtain ⟨A, c, h1, h2, h3, h4⟩ := h
  refine ⟨A, c, h1, h2, h3, fun k hkn => ?_⟩
  obtain ⟨ad, e, hc⟩ := h4 k hkn
  exact ⟨ad, e, hk.cell hc⟩

theorem SlF.congr {w : World} {v : Value} {n : Nat} {f g : Nat → Value} (h : SlF w v n f) (hfg : ∀ k, k < n → f k = g k) : SlF w v n g := by
  obtain ⟨A, c, h1, h2, h3, h4⟩ := h
  refine ⟨A, c, h1, h2, h3, fun k hkn => ?_⟩
  obtain ⟨ad, e, hc⟩ := h4 k hkn
  exact ⟨ad, e, by rw [hc, hfg k hkn]⟩

theorem SlF.at_ {w : World} {A : Option Addr} {n c k : Nat} {f : Nat → Value} (h : SlF w (.slice A n c) n f) (hk : k < n) : ∃ ad, A = some ad ∧ w.cell? (ad.add k) = some (f k) := by
  obtain ⟨A', c', he, _, _, h4⟩ := h
  injection he with h1
  subst h1
  exact h4 k hk

def Ints (w : World) (v : Value) (l : List Int) : Prop := SlF w v l.length (fun k => .int .i64 (ix l k))
def Bools (w : World) (v : Value) (l : List Bool) : Prop := SlF w v l.length (fun k => .bool (bx l k))
def Rows (w : World) (v : Value) (l : List (List Int)) : Prop := ∃ f, SlF w v l.length f ∧ ∀ k, k < l.length → Ints w (f k) (rx l k)

theorem Ints.kept {w w' : World} {v : Value} {l : List Int} (h : Ints w v l) (hk : Kept w w') : Ints w' v l := SlF.kept h hk
theorem Bools.kept {w w' : World} {v : Value} {l : List Bool} (h : Bools w v l) (hk : Kept w w') : Bools w' v l := SlF.kept h hk
theorem Rows.kept {w w' : World} {v : Value} {l : List (List Int)} (h : Rows w v l) (hk : Kept w w') : Rows w' v l := by
  obtain ⟨f, h1, h2⟩ := h
  exact ⟨f, h1.kept hk, fun k hkn => (h2 k hkn).kept hk⟩

theorem Rows.form {w : World} {v : Value} {ll : List (List Int)} (h : Rows w v ll) : ∃ A c, v = .slice A ll.length c ∧ ll.length ≤ c ∧ c ≤ 9223372036854775807 := by
  obtain ⟨f, ⟨A, c, h1, h2, h3, _⟩, _⟩ := h
  exact ⟨A, c, h1, h2, h3⟩
theorem Rows.at_ {w : World} {A : Option Addr} {n c k : Nat} {ll : List (List Int)} (h : Rows w (.slice A n c) ll) (hk : k < ll.length) :
    ∃ ad A2 c2, A = some ad ∧ w.cell? (ad.add k) = some (.slice A2 (rx ll k).length c2) ∧ Ints w (.slice A2 (rx ll k).length c2) (rx ll k) := by
  obtain ⟨f, h1, h2⟩ := h
  obtain ⟨A', c', he, _, _, h4⟩ := h1
  injection he with h5
  subst h5
  obtain ⟨ad, e, hc⟩ := h4 k hk
  obtain ⟨A2, c2, h6, _⟩ := id (h2 k hk)
  refine ⟨ad, A2, c2, e, ?_, ?_⟩
  · rw [hc, h6]
  · rw [← h6]; exact h2 k hk
theorem Ints.form {w : World} {v : Value} {l : List Int} (h : Ints w v l) : ∃ A c, v = .slice A l.length c ∧ l.length ≤ c ∧ c ≤ 9223372036854775807 := by
  obtain ⟨A, c, h1, h2, h3, _⟩ := h
  exact ⟨A, c, h1, h2, h3⟩
theorem Ints.at_ {w : World} {A : Option Addr} {n c k : Nat} {l : List Int} (h : Ints w (.slice A n c) l) (hk : k < l.length) : ∃ ad, A = some ad ∧ w.cell? (ad.add k) = some (.int .i64 (ix l k)) := by
  obtain ⟨A', c', he, _, _, h4⟩ := h
  injection he with h1
  subst h1
  exact h4 k hk

/-- A row of the call's own reads as what it holds. -/
theorem SlF.of_own {w : World} {base n : Nat} {e : TypeId} {v : Value} {xs : List Value} (h : w.ownsRow base e 1 v n xs) : SlF w v n (fun k => xs.getD k undef) := by
  have hl : xs.length = n := by have := h.1; omega
  rcases h.2 with ⟨rfl, rfl⟩ | ⟨g, cap, cur, rfl, _, hg, hnc, hcm, _⟩
  · exact ⟨none, 0, rfl, by omega, by omega, fun k hk => by omega⟩
  · refine ⟨_, cap, rfl, hnc, by unfold maxLen at hcm; omega, fun k hk => ⟨_, rfl, ?_⟩⟩
    have hk' : k < xs.length := by omega
    exact h.cells (g := g) rfl k _ (by simp [hk'])

/-- v is a row of int64s of the call's own, from block B on, that holds l. -/
def OwnInts (w : World) (B : Nat) (v : Value) (l : List Int) : Prop := w.ownsRow B 2 1 v l.length (l.map (Value.int .i64))

theorem OwnInts.ints {w : World} {B : Nat} {v : Value} {l : List Int} (h : OwnInts w B v l) : Ints w v l :=
  (SlF.of_own h).congr fun k hk => by simp [ix, hk]

/-- k, k + 1, .., n of them. -/
def upFrom (k : Int) (n : Nat) : List Int := (List.range n).map fun (i : Nat) => k + (i : Int)
@[simp] theorem length_upFrom (k : Int) (n : Nat) : (upFrom k n).length = n := by simp [upFrom]
theorem ix_upFrom {k : Int} {n i : Nat} (h : i < n) : ix (upFrom k n) i = k + (i : Int) := by simp [ix, upFrom, h]

/-- n times the same value. -/
def zeros (z : Value) (n : Nat) : List Value := List.replicate n z

/-- Block g is an array of the call's own that holds just xs. -/
def Arr (w : World) (g : Nat) (e : TypeId) (xs : List Value) : Prop := w.heap[g]? = some (.cells xs.toArray e (0, 0))

theorem Arr.lt {w : World} {g : Nat} {e : TypeId} {xs : List Value} (h : Arr w g e xs) : g < w.heap.size := (Array.getElem?_eq_some_iff.1 h).1
theorem Arr.cell {w : World} {g : Nat} {e : TypeId} {xs : List Value} (h : Arr w g e xs) {k : Nat} (hk : k < xs.length) : w.cell? ⟨g, k, none⟩ = some xs[k] := by
  rw [cell_of_row w g k _ e (0, 0) h]; simp [hk]
theorem Arr.frozen {w : World} {g : Nat} {e : TypeId} {xs : List Value} (h : Arr w g e xs) (k : Nat) : w.frozen? ⟨g, k, none⟩ = false := frozen_of_row w g k _ e h
theorem Arr.set_ {w : World} {g : Nat} {e : TypeId} {xs : List Value} (h : Arr w g e xs) (k : Nat) (u : Value) : Arr (w.setCell ⟨g, k, none⟩ u) g e (xs.set k u) := by
  have := heap_setCell_same w g k xs.toArray e u h
  rw [List.setIfInBounds_toArray] at this
  exact this
theorem Arr.far {w : World} {g : Nat} {e : TypeId} {xs : List Value} (h : Arr w g e xs) {p : Addr} (hp : g ≠ p.block) (u : Value) : Arr (w.setCell p u) g e xs := (heap_setCell_other w p g u hp).trans h
theorem Arr.alloc {w : World} {g : Nat} {e : TypeId} {xs : List Value} (h : Arr w g e xs) (o : Obj) : Arr (w.alloc o) g e xs := (Below.heap_alloc w o g h.lt).trans h
theorem Arr.below {w w' : World} {B g : Nat} {e : TypeId} {xs : List Value} (h : Arr w g e xs) (hb : Below B w w') (hg : g < B) : Arr w' g e xs := (hb.block g hg).trans h
theorem Arr.drewN {w : World} {g : Nat} {e : TypeId} {xs : List Value} (h : Arr w g e xs) (n : Nat) : Arr (w.drewN n) g e xs := h
theorem Arr.new (w : World) (e : TypeId) (xs : List Value) : Arr (w.alloc (.cells xs.toArray e)) w.heap.size e xs := heap_alloc_new w _
theorem Arr.own {w : World} {g n B : Nat} {e : TypeId} {xs : List Value} (h : Arr w g e xs) (hB : B ≤ g) (hn : xs.length = n) (hm : n ≤ 4611686018427387904) : w.ownsRow B e 1 (.slice (some ⟨g, 0, none⟩) n n) n xs :=
  ⟨by omega, .inr ⟨g, n, _, rfl, hB, h, Nat.le_refl _, by unfold maxLen; omega, by simpa using hn, by subst hn; simp⟩⟩

theorem Arr.c0 {w : World} {g : Nat} {e : TypeId} {x : Value} {xs : List Value} (h : Arr w g e (x :: xs)) : w.cell? ⟨g, 0, none⟩ = some x := h.cell (k := 0) (by simp)
theorem Arr.c1 {w : World} {g : Nat} {e : TypeId} {x y : Value} {xs : List Value} (h : Arr w g e (x :: y :: xs)) : w.cell? ⟨g, 1, none⟩ = some y := h.cell (k := 1) (by simp)
theorem Arr.c2 {w : World} {g : Nat} {e : TypeId} {x y z : Value} {xs : List Value} (h : Arr w g e (x :: y :: z :: xs)) : w.cell? ⟨g, 2, none⟩ = some z := h.cell (k := 2) (by simp)

/-- make([]T, n): a new array of n zero values. -/
theorem run_make_zeros {P : Program} (t e : TypeId) (i : TypeInfo) (z : Value) (ht : P.underlying t = some (.slice e)) (hi : P.info? e = some i) (hz : i.zero = some z) (hs : i.size = 1) (hzc : z.cells = #[z]) (hb : i.bytes ≤ 24)
    (n : Nat) (hn : n ≤ 1099511627776) (w : World) :
    (Instr.makeSlice t (.int .i64 (n : Int)) (.int .i64 (n : Int))).run P w = .ok (.slice (some ⟨w.heap.size, 0, none⟩) n n) (w.alloc (.cells (zeros z n).toArray e)) := by
  have hb1 : i.bytes * n ≤ 24 * 1099511627776 := Nat.mul_le_mul hb hn
  have hb' : (i.bytes : Int) * (n : Int) ≤ 281474976710656 := by
    have h : ((i.bytes * n : Nat) : Int) ≤ 281474976710656 := by omega
    rwa [Int.natCast_mul] at h
  have hr := run_make (P := P) w t e i z ht hi hz .i64 .i64 n n (by omega) (by omega) hb' (by omega)
  simp only [Int.toNat_natCast] at hr
  rw [hr, hs, hzc]
  have : madeCells #[z] (n * 1) = (zeros z n).toArray := by
    rw [← Array.toList_inj, Nat.mul_one, toList_madeCells_one]; rfl
  rw [this]

def IArr (w : World) (g : Nat) (l : List Int) : Prop := Arr w g 2 (l.map (Value.int .i64))
theorem IArr.cell {w : World} {g : Nat} {l : List Int} (h : IArr w g l) {k : Nat} (hk : k < l.length) : w.cell? ⟨g, k, none⟩ = some (.int .i64 (ix l k)) := by
  have := Arr.cell h (k := k) (by simpa using hk)
  simpa [ix, hk] using this
theorem IArr.frozen {w : World} {g : Nat} {l : List Int} (h : IArr w g l) (k : Nat) : w.frozen? ⟨g, k, none⟩ = false := Arr.frozen h k
theorem IArr.set_ {w : World} {g : Nat} {l : List Int} (h : IArr w g l) (k : Nat) (x : Int) : IArr (w.setCell ⟨g, k, none⟩ (.int .i64 x)) g (l.set k x) := by
  have := Arr.set_ h k (.int .i64 x)
  unfold IArr
  rwa [List.map_set]
theorem IArr.own {w : World} {g B : Nat} {l : List Int} (h : IArr w g l) (hB : B ≤ g) (hm : l.length ≤ 4611686018427387904) : OwnInts w B (.slice (some ⟨g, 0, none⟩) l.length l.length) l :=
  Arr.own h hB (by simp) hm
theorem ix_set {l : List Int} {k j : Nat} {x : Int} (hk : k < l.length) : ix (l.set k x) j = if j = k then x else ix l j := by
  unfold ix
  by_cases h : j = k
  · subst h; simp [hk]
  · simp [h, Ne.symm h]
theorem ix_zeros {n k : Nat} : ix (List.replicate n 0) k = 0 := by
  unfold ix
  by_cases h : k < n <;> simp [h]

theorem int_range_ext {l m : List Int} (hl : l.length = m.length) (h : ∀ j, j < m.length → ix l j = ix m j) : l = m := by
  apply List.ext_getElem hl
  intro j h1 h2
  have := h j h2
  rwa [ix_lt h1, ix_lt h2] at this

theorem OwnInts.form {w : World} {B : Nat} {v : Value} {l : List Int} (h : OwnInts w B v l) : (v = .slice none 0 0 ∧ l = []) ∨ ∃ g cap, v = .slice (some ⟨g, 0, none⟩) l.length cap ∧ B ≤ g ∧ g < w.heap.size ∧ l.length ≤ cap ∧ cap ≤ 9223372036854775807 := by
  rcases h.2 with ⟨rfl, h2⟩ | ⟨g, cap, cur, rfl, hB, hg, hnc, hcm, _⟩
  · exact .inl ⟨rfl, List.eq_nil_of_length_eq_zero h2⟩
  · exact .inr ⟨g, cap, rfl, hB, (Array.getElem?_eq_some_iff.1 hg).1, hnc, by unfold maxLen at hcm; omega⟩
theorem OwnInts.cell {w : World} {B g n cap : Nat} {l : List Int} (h : OwnInts w B (.slice (some ⟨g, 0, none⟩) n cap) l) {k : Nat} (hk : k < l.length) : w.cell? ⟨g, k, none⟩ = some (.int .i64 (ix l k)) := by
  obtain ⟨ad, e, hc⟩ := (OwnInts.ints h).choose_spec.choose_spec.2.2.2 k hk
  have he := (OwnInts.ints h).choose_spec.choose_spec.1
  injection he with h1
  rw [← h1] at e
  injection e with e
  subst e
  rwa [add_head] at hc
theorem OwnInts.frozen {w : World} {B g cap : Nat} {l : List Int} (h : OwnInts w B (.slice (some ⟨g, 0, none⟩) l.length cap) l) (k : Nat) : w.frozen? ⟨g, k, none⟩ = false := World.ownsRow.frozenAt h k
theorem OwnInts.set_ {w : World} {B g cap : Nat} {l : List Int} (h : OwnInts w B (.slice (some ⟨g, 0, none⟩) l.length cap) l) (k : Nat) (x : Int) :
    OwnInts (w.setCell ⟨g, k, none⟩ (.int .i64 x)) B (.slice (some ⟨g, 0, none⟩) l.length cap) (l.set k x) ∧ w.grownBy (w.setCell ⟨g, k, none⟩ (.int .i64 x)) (some g) := by
  have := World.ownsRow.stored h k (.int .i64 x)
  refine ⟨?_, this.2⟩
  unfold OwnInts
  rw [List.length_set, List.map_set]
  exact this.1

theorem grown_trans {a b c : World} {r : Option Nat} (h : a.grownBy b r) (k : b.grownBy c r) : a.grownBy c r :=
  ⟨k.os.trans h.os, k.tape.trans h.tape, k.output.trans h.output, Nat.le_trans h.size k.size, fun i hi hne => (k.block i (Nat.lt_of_lt_of_le hi h.size) hne).trans (h.block i hi hne)⟩
theorem grown_refl (a : World) (r : Option Nat) : a.grownBy a r := ⟨rfl, rfl, rfl, Nat.le_refl _, fun _ _ _ => rfl⟩

/-- A quiet contract at a world that has drawn already. -/
theorem quiet_any {P : Program} {f : FuncId} {args : Array Value} {w : World} {v : Value}
    (h : Calls P f args w fun e w' => e = .returned v ∧ ∃ m, w' = w.drewN m) :
    Calls P f args w fun e w'' => e = .returned v ∧ ∃ m, w'' = w.drewN m := h
theorem quiet_add {P : Program} {f : FuncId} {args : Array Value} {w : World} {a n : Nat} {v : Value}
    (h : Calls P f args (w.drewN (a + n)) fun e w' => e = .returned v ∧ ∃ m, w' = (w.drewN (a + n)).drewN m) :
    Calls P f args (w.drewN (a + n)) fun e w'' => e = .returned v ∧ ∃ m, w'' = w.drewN (a + m) :=
  h.mono fun _ _ ⟨he, m, hm⟩ => ⟨he, n + m, by rw [hm, World.drewN_drewN, Nat.add_assoc]⟩
theorem quiet_same {P : Program} {f : FuncId} {args : Array Value} {w : World} {v : Value}
    (h : Calls P f args w fun e w' => e = .returned v ∧ w' = w) : Calls P f args w fun e w'' => e = .returned v ∧ ∃ m, w'' = w.drewN m :=
  h.mono fun _ _ ⟨he, hm⟩ => ⟨he, 0, hm⟩
theorem IsQuiet.of_same {P : Program} {f : FuncId} {args : Array Value} {w : World} {v : Value}
    (h : Calls P f args w fun e w' => e = .returned v ∧ w' = w) : Calls P f args w fun e w'' => e = .returned v ∧ ∃ m, w'' = w.drewN m := quiet_same h

theorem length_le_cap {w : World} {v : Value} {n : Nat} {f : Nat → Value} (h : SlF w v n f) : n ≤ 9223372036854775807 := by
  obtain ⟨A, c, _, h2, h3, _⟩ := h
  omega

end Go.Proofs.Ytpnophmanpfejaa

/- append and make at this program's element types: the laws in the words of Mem. Condition: the lengths are below 2^40. -/
namespace Go.Proofs.Ytpnophmanpfejaa
set_option linter.unusedSimpArgs false
set_option linter.unusedVariables false
open Go.RowKit

/-- t is the slice type over e, and a value of type e is one cell, z the zero one. -/
structure Elem (t e : TypeId) (z : Value) : Prop where
  ht : Try.prog.underlying t = some (.slice e)
  hi : ∃ i, Try.prog.info? e = some i ∧ i.zero = some z ∧ i.size = 1 ∧ i.bytes ≤ 24
  hz : z.cells = #[z]

theorem Elem.mk' {t e : TypeId} {z : Value} {b : Nat} (ht : Try.prog.underlying t = some (.slice e)) (hi : (Try.prog.info? e).map (fun i => (i.zero, i.size, i.bytes)) = some (some z, 1, b)) (hb : b ≤ 24) (hz : z.cells = #[z]) : Elem t e z := by
  refine ⟨ht, ?_, hz⟩
  obtain ⟨i0, h0, h1, h2, h3⟩ := info_parts hi
  exact ⟨i0, h0, h1, h2, by omega⟩

theorem int64_info : (Try.prog.info? 2).map (fun i => (i.zero, i.size, i.bytes)) = some (some (.int .i64 0), 1, 8) := by kernel_rfl
theorem elem_int64 : Elem 22 2 (.int .i64 0) := Elem.mk' Try.underlying22 int64_info (by omega) rfl

theorem make_one {t e : TypeId} {z : Value} (E : Elem t e z) (n : Nat) (hn : n ≤ 1099511627776) (w : World) :
    (Instr.makeSlice t (.int .i64 (n : Int)) (.int .i64 (n : Int))).run Try.prog w = .ok (.slice (some ⟨w.heap.size, 0, none⟩) n n) (w.alloc (.cells (zeros z n).toArray e)) := by
  obtain ⟨i0, hi, hz0, hz1, hz2⟩ := E.hi
  exact run_make_zeros _ _ i0 _ E.ht hi hz0 hz1 E.hz hz2 n hn w

/-- 'append(s, y)', y one value: the row s of the call's own has one element more. -/
theorem append_one {ops : Array Oper} {rest : List Oper} {o : Oper} {a : Act} {Q : Exit → Act → World → Prop} {t e : TypeId} {z : Value} (E : Elem t e z) (w0 : World) (hgd : o.guard = none) (s x : Operand)
    (ho : o.op = .call { callee := .builtin .append, args := #[s, x], argTypes := #[t, t] })
    (B : Nat) (v : Value) (n : Nat) (xs : List Value) (hs : a.eval s = v) (hown : w0.ownsRow B e 1 v n xs) (y : Value) (hy : y.oneCell' = true)
    (hx : a.eval x = .slice (some ⟨w0.heap.size, 0, none⟩) 1 1) (hn : n ≤ 1099511627776) (hB : B ≤ w0.heap.size)
    (h : ∀ v' w', w'.ownsRow B e 1 v' (n + 1) (xs ++ [y]) → w0.grownBy w' v.ownBlock → (v'.ownBlock = v.ownBlock ∨ v'.ownBlock = some (w0.heap.size + 1)) → wpList Try.prog ops Q rest (a.put o.dst v') w') :
    wpList Try.prog ops Q (o :: rest) a (w0.alloc (.cells #[y] e)) := by
  obtain ⟨i0, hi, hz0, hz1, hz2⟩ := E.hi
  have hzs : z.cells.size = 1 := by rw [E.hz]; rfl
  refine wpList_append_own_at (P := Try.prog) (w0.alloc (.cells #[y] e)) hgd s x t ho B e i0 z 1 i0.bytes E.ht hi hz0 hz1 rfl hzs (by omega) v n xs hs (hown.alloc _) ⟨w0.heap.size, 0, none⟩ 1 1 [y] hx rfl
    (cell_one_new w0 y e) (by simpa using hy) (by unfold maxLen; omega) ?_ (by simp; omega) ?_
  · have : (n + 1) * i0.bytes ≤ 1099511627777 * 24 := Nat.mul_le_mul (by omega) hz2
    omega
  · intro v' w' h1 h2 _ h4
    refine h v' w' h1 ?_ (by simpa using h4)
    exact ⟨h2.os, h2.tape, h2.output, by have := h2.size; simp at this; omega, fun k hk hne => (h2.block k (by simp; omega) hne).trans (Below.heap_alloc w0 _ k hk)⟩

/-- 'append(s, y)' at int64s. -/
theorem append_int {ops : Array Oper} {rest : List Oper} {o : Oper} {a : Act} {Q : Exit → Act → World → Prop} (w0 : World) (hgd : o.guard = none) (s x : Operand)
    (ho : o.op = .call { callee := .builtin .append, args := #[s, x], argTypes := #[22, 22] })
    (B : Nat) (v : Value) (l : List Int) (hs : a.eval s = v) (hown : OwnInts w0 B v l) (y : Int)
    (hx : a.eval x = .slice (some ⟨w0.heap.size, 0, none⟩) 1 1) (hn : l.length ≤ 1099511627776) (hB : B ≤ w0.heap.size)
    (h : ∀ v' w', OwnInts w' B v' (l ++ [y]) → Below B w0 w' → w0.grownBy w' v.ownBlock → (v'.ownBlock = v.ownBlock ∨ v'.ownBlock = some (w0.heap.size + 1)) → wpList Try.prog ops Q rest (a.put o.dst v') w') :
    wpList Try.prog ops Q (o :: rest) a (w0.alloc (.cells #[.int .i64 y] 2)) := by
  refine append_one elem_int64 w0 hgd s x ho B v l.length _ hs hown (.int .i64 y) rfl hx hn hB fun v' w' h1 h2 h3 => ?_
  refine h v' w' ?_ ((Below.refl _ _).grown h2 hB fun k hk => (hown.lt k hk).1) h2 h3
  unfold OwnInts
  rw [List.map_append, List.length_append]
  exact h1

/-- '[]int64{}'. -/
theorem OwnInts.empty (w : World) (B : Nat) (hB : B ≤ w.heap.size) : OwnInts (w.alloc (.cells #[] 2)) B (.slice (some ⟨w.heap.size, 0, none⟩) 0 0) [] :=
  World.ownsRow_lit w #[] 0 hB (by simp [maxLen]) (by simp)
theorem OwnInts.nil (w : World) (B : Nat) : OwnInts w B (.slice none 0 0) [] := World.ownsRow_nil w B _ 1
theorem OwnInts.below {w w' : World} {B B' : Nat} {v : Value} {l : List Int} (h : OwnInts w B v l) (hb : Below B' w w') (hB : w.heap.size ≤ B') : OwnInts w' B v l := by
  refine ⟨h.1, ?_⟩
  rcases h.2 with hn | ⟨g, cap, cur, rfl, hg, hh, rest⟩
  · exact .inl hn
  · exact .inr ⟨g, cap, cur, rfl, hg, (hb.block g (Nat.lt_of_lt_of_le (Array.getElem?_eq_some_iff.1 hh).1 hB)).trans hh, rest⟩
theorem OwnInts.more {w : World} {B B' : Nat} {v : Value} {l : List Int} (h : OwnInts w B v l) (hB : B' ≤ B) : OwnInts w B' v l := by
  refine ⟨h.1, ?_⟩
  rcases h.2 with hn | ⟨g, cap, cur, rfl, hg, rest⟩
  · exact .inl hn
  · exact .inr ⟨g, cap, cur, rfl, Nat.le_trans hB hg, rest⟩
theorem ints_of_ret {w w' : World} {l : List Int} {u : Value} (h : OwnInts w' w.heap.size u l) : ∃ A c, u = .slice A l.length c := by
  obtain ⟨A, c, h1, _⟩ := h.ints
  exact ⟨A, c, h1⟩
theorem below_drewN {B : Nat} {a w : World} (h : Below B a w) (n : Nat) : Below B a (w.drewN n) := ⟨h.os, h.tape, h.output, h.size, h.block⟩
theorem below_of_drewN {w w' : World} {B q : Nat} (h : Below B (w.drewN q) w') : Below B w w' := ⟨h.os, h.tape, h.output, h.size, h.block⟩

end Go.Proofs.Ytpnophmanpfejaa

/- The walks of the functions that copy, compare, mark and ask lists of int64s. No condition but the lists' lengths. -/
namespace Go.Proofs.Ytpnophmanpfejaa
set_option linter.unusedSimpArgs false
set_option linter.unusedVariables false
open Go.RowKit
set_option maxHeartbeats 400000 in
theorem eqInt64S_any (v u : Value) (l m : List Int) (w : World) (hv : Ints w v l) (hu : Ints w u m) :
    Calls Try.prog 20 #[v, u] w fun e w' => e = .returned (.bool (decide (l = m))) ∧ ∃ n, w' = w.drewN n := by
  obtain ⟨A, c, rfl, hlc, hcm, hA⟩ := hv
  obtain ⟨B, d, rfl, hmd, hdm, hB⟩ := hu
  by_cases hne : l.length = m.length
  · go_enter Try.func20, Try.ntmps20
    go_wp2
    go_loopw [5] (fun i wr => ∃ k q : Nat, k ≤ m.length ∧ i = .int .i64 k ∧ wr = w.drewN q ∧ ∀ j, j < k → ix l j = ix m j) (fun i _ => m.length - (intOf i).toNat)
    case atStart => exact ⟨0, 0, Nat.zero_le _, rfl, rfl, fun j hj => absurd hj (Nat.not_lt_zero _)⟩
    case round =>
      obtain ⟨k, q, hk, rfl, rfl, heq⟩ := hrel
      by_cases hlt : k < m.length
      · obtain ⟨a1, rfl, h1⟩ := hA k (by omega)
        obtain ⟨a2, rfl, h2⟩ := hB k hlt
        go_wp2
        go_quiet (fail)
        go_wp2
        · have hd : (ix l k != ix m k) = true := by assumption
          go_ret
          have hlm : ¬ l = m := by rintro rfl; simp at hd
          exact ⟨by simp [hlm], q + nq, by simp⟩
        · have hd : (ix l k != ix m k) = false := by assumption
          refine ⟨⟨k + 1, q + nq, by omega, by go_num, by simp, fun j hj => ?_⟩, by simp [intOf]; omega⟩
          by_cases hjk : j = k
          · subst hjk; simpa using hd
          · exact heq j (by omega)
      · have hkm : k = m.length := by omega
        go_wp2
        go_ret
        refine ⟨?_, _, rfl⟩
        have hlm : l = m := int_range_ext hne fun j hj => heq j (by omega)
        simp [hlm]
  · have hlm : ¬ l = m := by rintro rfl; exact hne rfl
    have hd : ((l.length : Int) != (m.length : Int)) = true := by simpa using (by omega : ¬ (l.length : Int) = m.length)
    go_enter Try.func20, Try.ntmps20
    go_wp2
    go_ret
    exact ⟨by simp [hlm], 0, rfl⟩

/-- What is left of a budget behind n; -1 where it does not suffice. -/
def szLeft (n : Nat) (left : Int) : Int := if (n : Int) ≤ left then left - n else -1
theorem szLeft_pos {n : Nat} {left : Int} (h : (n : Int) ≤ left) : szLeft n left = left - n := if_pos h
theorem szLeft_neg {n : Nat} {left : Int} (h : ¬ (n : Int) ≤ left) : szLeft n left = -1 := if_neg h

set_option maxHeartbeats 400000 in
theorem szInt64S_any (v : Value) (l : List Int) (left : Int) (w : World) (hv : Ints w v l) (h0 : 0 ≤ left) (h1 : left ≤ 1048576) :
    Calls Try.prog 71 #[v, .int .i64 left] w fun e w' => e = .returned (.int .i64 (szLeft l.length left)) ∧ w' = w := by
  obtain ⟨A, c, rfl, hlc, hcm, hA⟩ := hv
  have hs : IntKind.i64.wrap (left - (l.length : Int)) = left - (l.length : Int) := IntWalk.i64_in _ (by omega)
  by_cases h : (l.length : Int) ≤ left
  · rw [szLeft_pos h]
    have hn : ¬ left - (l.length : Int) < 0 := by omega
    clear h
    go_enter Try.func71, Try.ntmps71
    go_wp2
    go_ret
    exact ⟨rfl, rfl⟩
  · rw [szLeft_neg h]
    have hn : left - (l.length : Int) < 0 := by omega
    clear h
    go_enter Try.func71, Try.ntmps71
    go_wp2
    go_ret
    exact ⟨rfl, rfl⟩

set_option maxHeartbeats 400000 in
theorem heldInt64S_any (v : Value) (n : Nat) (k0 : Int) (w : World) (hv : Ints w v (upFrom k0 n)) (h0 : 0 ≤ k0) (h1 : k0 + n ≤ 4611686018427387904) :
    Calls Try.prog 24 #[v, .int .i64 k0] w fun e w' => e = .returned (.int .i64 (k0 + n)) ∧ ∃ q, w' = w.drewN q := by
  obtain ⟨A, c, rfl, hlc, hcm, hA⟩ := hv
  rw [length_upFrom] at *
  go_enter Try.func24, Try.ntmps24
  go_wp2
  go_loopw [1, 5] (fun x i wr => ∃ k q : Nat, k ≤ n ∧ i = .int .i64 k ∧ x = .int .i64 (k0 + k) ∧ wr = w.drewN q) (fun _ i _ => n - (intOf i).toNat)
  case atStart => exact ⟨0, 0, Nat.zero_le _, rfl, by simp, rfl⟩
  case round =>
    obtain ⟨k, q, hk, rfl, rfl, rfl⟩ := hrel
    by_cases hlt : k < n
    · obtain ⟨a1, rfl, h1⟩ := hA k hlt
      rw [ix_upFrom hlt] at h1
      go_wp2
      exact ⟨⟨k + 1, q, by omega, by go_num, by go_num, rfl⟩, by simp [intOf]; omega⟩
    · have hkn : k = n := by omega
      subst hkn
      go_wp2
      go_ret
      exact ⟨rfl, q, rfl⟩

set_option maxHeartbeats 400000 in
theorem toInt64S_any (v : Value) (l : List Int) (w : World) (hv : Ints w v l) (h1 : l.length ≤ 4194304) :
    Calls Try.prog 18 #[v] w fun e w' => ∃ u, e = .returned u ∧ OwnInts w' w.heap.size u l ∧ Below w.heap.size w w' := by
  obtain ⟨A, c, rfl, hlc, hcm, hA⟩ := hv
  have hmk := make_one elem_int64 l.length (by omega)
  go_enter Try.func18, Try.ntmps18
  go_wp2
  clear hmk
  have h0 : IArr (w.alloc (.cells (zeros (.int .i64 0) l.length).toArray 2)) w.heap.size (List.replicate l.length 0) := by
    have := Arr.new w 2 (zeros (.int .i64 0) l.length)
    unfold IArr
    rwa [List.map_replicate]
  have hb0 : Below w.heap.size w (w.alloc (.cells (zeros (.int .i64 0) l.length).toArray 2)) := (Below.refl _ _).alloc (Nat.le_refl _) _
  generalize w.alloc (.cells (zeros (.int .i64 0) l.length).toArray 2) = w0 at *
  go_loopw [4] (fun i wr => ∃ (k : Nat) (m : List Int), k ≤ l.length ∧ i = .int .i64 k ∧ Below w.heap.size w wr ∧ IArr wr w.heap.size m ∧ m.length = l.length ∧ ∀ j, j < k → ix m j = ix l j) (fun i _ => l.length - (intOf i).toNat)
  case atStart => exact ⟨0, _, Nat.zero_le _, rfl, hb0, h0, by simp, fun j hj => by omega⟩
  case round =>
    obtain ⟨k, m, hk, rfl, hb, ha, hml, hm⟩ := hrel
    by_cases hlt : k < l.length
    · obtain ⟨a1, rfl, hc⟩ := (SlF.kept ⟨A, c, rfl, hlc, hcm, hA⟩ (Kept.of hb)).at_ hlt
      have hc1 := ha.cell (k := k) (by omega)
      have hf1 := ha.frozen k
      have Hml := Lib.hid hml; clear hml
      go_wp2
      refine ⟨⟨k + 1, m.set k (ix l k), by omega, by go_num, hb.setCell (Nat.le_refl _) _, ha.set_ k _, by simpa using Hml.out, fun j hj => ?_⟩, by simp [intOf]; omega⟩
      have := Hml.out
      rw [ix_set (by omega)]
      split
      · rename_i h; rw [h]
      · exact hm j (by omega)
    · have Hml := Lib.hid hml; clear hml
      go_wp2
      go_ret
      have hk' : k = l.length := by omega
      have hml : m = l := int_range_ext Hml.out fun j hj => hm j (by omega)
      subst hml
      exact ⟨_, rfl, ha.own (Nat.le_refl _) (by omega), hb⟩

set_option maxHeartbeats 400000 in
theorem markInt64S_any (v : Value) (l : List Int) (k0 : Int) (B : Nat) (w : World) (hv : OwnInts w B v l) (h0 : 0 ≤ k0) (h1 : k0 + l.length ≤ 4611686018427387904) :
    Calls Try.prog 23 #[v, .int .i64 k0] w fun e w' => e = .returned (.int .i64 (k0 + l.length)) ∧ OwnInts w' B v (upFrom k0 l.length) ∧ w.grownBy w' v.ownBlock := by
  rcases hv.form with ⟨rfl, rfl⟩ | ⟨g, cap, rfl, hB, hg, hnc, hcm⟩
  · go_enter Try.func23, Try.ntmps23
    go_wp2
    refine wp_loop_rounds 1 ?_
    rw [rounds_succ]
    go_wp2
    go_ret
    exact ⟨by simp, hv, grown_refl _ _⟩
  · go_enter Try.func23, Try.ntmps23
    go_wp2
    go_loopw [1, 5] (fun x i wr => ∃ (k : Nat) (m : List Int), k ≤ l.length ∧ i = .int .i64 k ∧ x = .int .i64 (k0 + k) ∧ OwnInts wr B (.slice (some ⟨g, 0, none⟩) m.length cap) m ∧ m.length = l.length ∧ w.grownBy wr (some g) ∧ ∀ j, j < k → ix m j = k0 + j) (fun _ i _ => l.length - (intOf i).toNat)
    case atStart => exact ⟨0, l, Nat.zero_le _, rfl, by simp, hv, rfl, grown_refl _ _, fun j hj => by omega⟩
    case round =>
      obtain ⟨k, m, hk, rfl, rfl, ha, hml, hgr, hm⟩ := hrel
      by_cases hlt : k < l.length
      · have hc1 := ha.cell (k := k) (by omega)
        have hf1 := ha.frozen k
        have hst := ha.set_ k (k0 + k)
        have Hml := Lib.hid hml; clear hml
        go_wp2
        refine ⟨⟨k + 1, m.set k (k0 + k), by omega, by go_num, by go_num, by simpa using hst.1, by simpa using Hml.out, grown_trans hgr hst.2, fun j hj => ?_⟩, by simp [intOf]; omega⟩
        have := Hml.out
        rw [ix_set (by omega)]
        split
        · rename_i h; rw [h]
        · exact hm j (by omega)
      · have Hml := Lib.hid hml; clear hml
        go_wp2
        go_ret
        have hk' : k = l.length := by omega
        have hml : m = upFrom k0 l.length := int_range_ext (by simpa using Hml.out) fun j hj => by
          rw [length_upFrom] at hj
          rw [ix_upFrom hj]; exact hm j (by omega)
        subst hml
        simp only [length_upFrom] at ha
        exact ⟨by rw [hk']; rfl, ha, hgr⟩
end Go.Proofs.Ytpnophmanpfejaa

/- Data that a call has made for itself: which blocks it lies in, and what a change of other blocks leaves of it. -/
namespace Go.Proofs.Ytpnophmanpfejaa
set_option linter.unusedSimpArgs false
set_option linter.unusedVariables false
open Go.RowKit

/-- Of the blocks that w has, w' has turned none but some from B on and below C. -/
structure Only (B C : Nat) (w w' : World) : Prop where
  os : w'.os = w.os
  tape : w'.tape = w.tape
  output : w'.output = w.output
  size : w.heap.size ≤ w'.heap.size
  block : ∀ k, k < w.heap.size → (k < B ∨ C ≤ k) → w'.heap[k]? = w.heap[k]?

theorem Only.of_below {B C : Nat} {w w' : World} (h : Below w.heap.size w w') : Only B C w w' := ⟨h.os, h.tape, h.output, h.size, fun k hk _ => h.block k hk⟩
theorem Only.trans {B C : Nat} {a b c : World} (h : Only B C a b) (k : Only B C b c) : Only B C a c :=
  ⟨k.os.trans h.os, k.tape.trans h.tape, k.output.trans h.output, Nat.le_trans h.size k.size, fun i hi hne => (k.block i (Nat.lt_of_lt_of_le hi h.size) hne).trans (h.block i hi hne)⟩
theorem Only.mono {B C B' C' : Nat} {w w' : World} (h : Only B C w w') (hB : B' ≤ B) (hC : C ≤ C') : Only B' C' w w' := ⟨h.os, h.tape, h.output, h.size, fun k hk hh => h.block k hk (by omega)⟩
theorem Only.below {B C B0 : Nat} {w0 w w' : World} (hb : Below B0 w0 w) (h : Only B C w w') (hB : B0 ≤ B) (hw : B0 ≤ w.heap.size) : Below B0 w0 w' :=
  hb.trans ⟨h.os, h.tape, h.output, h.size, fun k hk => h.block k (by omega) (.inl (by omega))⟩
theorem Only.grown {B C : Nat} {w w' : World} {row : Option Nat} (h : w.grownBy w' row) (hr : ∀ k, row = some k → B ≤ k ∧ k < C) : Only B C w w' :=
  ⟨h.os, h.tape, h.output, h.size, fun k hk hh => h.block k hk (fun e => by have := hr k e.symm; omega)⟩
theorem Kept.below {B0 : Nat} {w0 w1 : World} (h : Below B0 w0 w1) (hB : w0.heap.size ≤ B0) : Kept w0 w1 := fun p hp => h.cell (by omega)

/-- A row of int64s of a call's own that lies from block B on and below C, and holds l. -/
def OI (w : World) (B C : Nat) (v : Value) (l : List Int) : Prop := OwnInts w B v l ∧ ∀ k, v.ownBlock = some k → k < C
theorem OI.ints {w : World} {B C : Nat} {v : Value} {l : List Int} (h : OI w B C v l) : Ints w v l := h.1.ints
theorem OI.of {w : World} {B : Nat} {v : Value} {l : List Int} (h : OwnInts w B v l) : OI w B w.heap.size v l := ⟨h, fun k hk => (h.lt k hk).2⟩
theorem OI.kept {w w' : World} {B C B' C' : Nat} {v : Value} {l : List Int} (h : OI w B C v l) (ho : Only B' C' w w') (hd : C ≤ B' ∨ C' ≤ B) : OI w' B C v l := by
  refine ⟨⟨h.1.1, ?_⟩, h.2⟩
  rcases h.1.2 with hn | ⟨g, cap, cur, rfl, hg, hh, rest⟩
  · exact .inl hn
  · have h2 := h.2 g rfl
    exact .inr ⟨g, cap, cur, rfl, hg, (ho.block g (Array.getElem?_eq_some_iff.1 hh).1 (by omega)).trans hh, rest⟩
theorem OI.drewN {w : World} {B C : Nat} {v : Value} {l : List Int} (h : OI w B C v l) (n : Nat) : OI (w.drewN n) B C v l := h
theorem OI.below {w w' : World} {B C : Nat} {v : Value} {l : List Int} (h : OI w B C v l) (hb : Below w.heap.size w w') : OI w' B C v l := h.kept (Only.of_below (B := C) (C := B) hb) (.inl (Nat.le_refl _))

theorem Below.up {w0 w1 w2 : World} (h : Below w0.heap.size w0 w1) (k : Below w1.heap.size w1 w2) : Below w0.heap.size w0 w2 := h.trans (k.mono h.size)
theorem same_below {P : Program} {f : FuncId} {args : Array Value} {w : World} {r : Ending} (h : Calls P f args w fun e w' => e = r ∧ w' = w) : Calls P f args w fun e w' => e = r ∧ Below w.heap.size w w' :=
  h.mono fun e w' ⟨h1, h2⟩ => ⟨h1, h2 ▸ Below.refl _ _⟩
theorem drew_below {P : Program} {f : FuncId} {args : Array Value} {w : World} {r : Ending} (h : Calls P f args w fun e w' => e = r ∧ ∃ q, w' = w.drewN q) : Calls P f args w fun e w' => e = r ∧ Below w.heap.size w w' :=
  h.mono fun e w' ⟨h1, q, h2⟩ => ⟨h1, h2 ▸ ⟨rfl, rfl, rfl, Nat.le_refl _, fun _ _ => rfl⟩⟩

theorem toInt64S_B (v : Value) (l : List Int) (w : World) (hv : Ints w v l) (h1 : l.length ≤ 4194304) :
    Calls Try.prog 18 #[v] w fun e w' => ∃ u, e = .returned u ∧ OI w' w.heap.size w'.heap.size u l ∧ Below w.heap.size w w' :=
  (toInt64S_any v l w hv h1).mono fun _ _ ⟨u, h2, h3, h4⟩ => ⟨u, h2, OI.of h3, h4⟩
theorem eqInt64S_B (v u : Value) (l m : List Int) (w : World) (hv : Ints w v l) (hu : Ints w u m) :
    Calls Try.prog 20 #[v, u] w fun e w' => e = .returned (.bool (decide (l = m))) ∧ Below w.heap.size w w' := drew_below (eqInt64S_any v u l m w hv hu)
theorem heldInt64S_B (v : Value) (l : List Int) (k0 : Int) (w : World) (hv : Ints w v (upFrom k0 l.length)) (h0 : 0 ≤ k0) (h1 : k0 + l.length ≤ 4611686018427387904) :
    Calls Try.prog 24 #[v, .int .i64 k0] w fun e w' => e = .returned (.int .i64 (k0 + l.length)) ∧ Below w.heap.size w w' := drew_below (heldInt64S_any v l.length k0 w hv h0 h1)

theorem markInt64S_O (v : Value) (l : List Int) (k0 : Int) (B C : Nat) (w : World) (hv : OI w B C v l) (h0 : 0 ≤ k0) (h1 : k0 + l.length ≤ 4611686018427387904) :
    Calls Try.prog 23 #[v, .int .i64 k0] w fun e w' => e = .returned (.int .i64 (k0 + l.length)) ∧ OI w' B C v (upFrom k0 l.length) ∧ Only B C w w' :=
  (markInt64S_any v l k0 B w hv.1 h0 h1).mono fun e w' ⟨h2, h3, h4⟩ => ⟨h2, ⟨h3, hv.2⟩, Only.grown h4 fun k hk => ⟨(hv.1.lt k hk).1, hv.2 k hk⟩⟩
end Go.Proofs.Ytpnophmanpfejaa

/- Structs of two slices of int64s: read, and made by a call of its own. -/
namespace Go.Proofs.Ytpnophmanpfejaa
set_option linter.unusedSimpArgs false
set_option linter.unusedVariables false
open Go.RowKit

structure TwoD where
  fst : List Int
  snd : List Int
  deriving DecidableEq
def IsTwo (w : World) (v : Value) (a : TwoD) : Prop := ∃ o n, v = .agg #[o, n] ∧ Ints w o a.fst ∧ Ints w n a.snd
theorem IsTwo.kept {w w' : World} {v : Value} {a : TwoD} (h : IsTwo w v a) (hk : Kept w w') : IsTwo w' v a := by
  obtain ⟨o, n, rfl, h1, h2⟩ := h
  exact ⟨o, n, rfl, h1.kept hk, h2.kept hk⟩
theorem IsTwo.parts {w : World} {o n : Value} {a : TwoD} (h : IsTwo w (.agg #[o, n]) a) : Ints w o a.fst ∧ Ints w n a.snd := by
  obtain ⟨o', n', he, h1, h2⟩ := h
  simp only [Value.agg.injEq, Array.mk.injEq, List.cons.injEq, and_true] at he
  obtain ⟨rfl, rfl⟩ := he
  exact ⟨h1, h2⟩
def OT (w : World) (B C : Nat) (v : Value) (a : TwoD) : Prop :=
  ∃ o n, v = .agg #[o, n] ∧ OI w B C o a.fst ∧ OI w B C n a.snd ∧ ∀ b, o.ownBlock = some b → n.ownBlock ≠ some b
theorem OT.two {w : World} {B C : Nat} {v : Value} {a : TwoD} (h : OT w B C v a) : IsTwo w v a := by
  obtain ⟨o, n, rfl, h1, h2, _⟩ := h
  exact ⟨o, n, rfl, h1.ints, h2.ints⟩
theorem OT.kept {w w' : World} {B C B' C' : Nat} {v : Value} {a : TwoD} (h : OT w B C v a) (ho : Only B' C' w w') (hd : C ≤ B' ∨ C' ≤ B) : OT w' B C v a := by
  obtain ⟨o, n, rfl, h1, h2, h3⟩ := h
  exact ⟨o, n, rfl, h1.kept ho hd, h2.kept ho hd, h3⟩
theorem OT.below {w w' : World} {B C : Nat} {v : Value} {a : TwoD} (h : OT w B C v a) (hb : Below w.heap.size w w') : OT w' B C v a := h.kept (Only.of_below (B := C) (C := B) hb) (.inl (Nat.le_refl _))
theorem OI.mono' {w : World} {B C B' C' : Nat} {v : Value} {l : List Int} (h : OI w B C v l) (hB : B' ≤ B) (hC : C ≤ C') : OI w B' C' v l := ⟨h.1.more hB, fun k hk => Nat.lt_of_lt_of_le (h.2 k hk) hC⟩
theorem OI.heap' {w w' : World} {B C : Nat} {v : Value} {l : List Int} (h : OI w B C v l) (hh : ∀ b, v.ownBlock = some b → w'.heap[b]? = w.heap[b]?) : OI w' B C v l := by
  refine ⟨⟨h.1.1, ?_⟩, h.2⟩
  rcases h.1.2 with hn | ⟨g, cap, cur, rfl, hg, hc, rest⟩
  · exact .inl hn
  · exact .inr ⟨g, cap, cur, rfl, hg, (hh g rfl).trans hc, rest⟩
theorem OT.form {w : World} {B C : Nat} {v : Value} {a : TwoD} (h : OT w B C v a) : ∃ A c A' c', v = .agg #[.slice A a.fst.length c, .slice A' a.snd.length c'] := by
  obtain ⟨o, n, rfl, h1, h2, _⟩ := h
  obtain ⟨A, c, rfl, _⟩ := h1.ints.form
  obtain ⟨A', c', rfl, _⟩ := h2.ints.form
  exact ⟨A, c, A', c', rfl⟩
def sizeT (a : TwoD) : Nat := a.fst.length + a.snd.length
def markT (k0 : Int) (a : TwoD) : TwoD := ⟨upFrom k0 a.fst.length, upFrom (k0 + (a.fst.length : Nat)) a.snd.length⟩
theorem szLeft_add {m n : Nat} {left : Int} (h : (m : Int) ≤ left) : szLeft (m + n) left = szLeft n (left - m) := by
  unfold szLeft
  by_cases g : (n : Int) ≤ left - m
  · rw [if_pos g, if_pos (by omega)]; omega
  · rw [if_neg g, if_neg (by omega)]
theorem szLeft_none {m n : Nat} {left : Int} (h : ¬ (m : Int) ≤ left) : szLeft (m + n) left = -1 := if_neg (by omega)
theorem Kept.drew (w : World) : Kept w w.drew := fun _ _ => rfl
theorem below_of_drew {w w' : World} (h : Below w.drew.heap.size w.drew w') : Below w.heap.size w w' := ⟨h.os, h.tape, h.output, h.size, h.block⟩
end Go.Proofs.Ytpnophmanpfejaa

/- Plain facts on lists of numbers: what a set of numbers is, and so on. No program in sight, no condition. -/
namespace Go.Proofs.Ytpnophmanpfejaa
set_option linter.unusedSimpArgs false
set_option linter.unusedVariables false

/-- s rises strictly, within 0 .. n - 1. -/
def IsSet (s : List Int) (n : Int) : Prop := ∀ k, k < s.length → 0 ≤ ix s k ∧ ix s k < n ∧ (0 < k → ix s (k - 1) < ix s k)
def isSetB (s : List Int) (n : Int) : Bool := decide (∀ k, k < s.length → 0 ≤ ix s k ∧ ix s k < n ∧ (0 < k → ix s (k - 1) < ix s k))
theorem isSetB_iff {s : List Int} {n : Int} : isSetB s n = true ↔ IsSet s n := by simp [isSetB, IsSet]
theorem isSetB_false {s : List Int} {n : Int} {k : Nat} (hk : k < s.length) (h : ¬ (0 ≤ ix s k ∧ ix s k < n ∧ (0 < k → ix s (k - 1) < ix s k))) : isSetB s n = false := by
  rw [Bool.eq_false_iff]
  intro h'
  exact h (isSetB_iff.1 h' k hk)
theorem isSetB_true {s : List Int} {n : Int} (h : IsSet s n) : isSetB s n = true := isSetB_iff.2 h

/-- A set has no more than n elements: the k-th is at least k. -/
theorem IsSet.le {s : List Int} {n : Int} (h : IsSet s n) : ∀ k, k < s.length → (k : Int) ≤ ix s k := by
  intro k
  induction k with
  | zero => intro hk; simpa using (h 0 hk).1
  | succ k ih =>
    intro hk
    have h1 := ih (by omega)
    have h2 := (h (k + 1) hk).2.2 (by omega)
    simp only [Nat.add_sub_cancel] at h2
    omega
theorem IsSet.length {s : List Int} {n : Int} (h : IsSet s n) : s = [] ∨ (s.length : Int) ≤ n := by
  rcases Nat.eq_zero_or_pos s.length with h0 | h0
  · exact .inl (List.eq_nil_of_length_eq_zero h0)
  · have h1 := h.le (s.length - 1) (by omega)
    have h2 := (h (s.length - 1) (by omega)).2.1
    exact .inr (by omega)

def hasB (l : List Int) (x : Int) : Bool := decide (x ∈ l)
theorem hasB_iff {l : List Int} {x : Int} : hasB l x = true ↔ x ∈ l := by simp [hasB]
theorem mem_ix {l : List Int} {x : Int} : x ∈ l ↔ ∃ k, k < l.length ∧ ix l k = x := by
  rw [List.mem_iff_getElem]
  constructor
  · rintro ⟨k, hk, rfl⟩; exact ⟨k, hk, ix_lt hk⟩
  · rintro ⟨k, hk, rfl⟩; exact ⟨k, hk, (ix_lt hk).symm⟩
theorem hasB_ix {l : List Int} {k : Nat} (hk : k < l.length) : hasB l (ix l k) = true := hasB_iff.2 (mem_ix.2 ⟨k, hk, rfl⟩)
theorem hasB_none {l : List Int} {x : Int} (h : ∀ k, k < l.length → ix l k ≠ x) : hasB l x = false := by
  rw [Bool.eq_false_iff]
  intro h'
  obtain ⟨k, hk, e⟩ := mem_ix.1 (hasB_iff.1 h')
  exact h k hk e

theorem take_ix {l : List Int} {k : Nat} (hk : k < l.length) : l.take (k + 1) = l.take k ++ [ix l k] := by
  rw [ix_lt hk, List.take_succ_eq_append_getElem hk]
theorem filter_take {l : List Int} {k : Nat} (hk : k < l.length) (p : Int → Bool) : (l.take (k + 1)).filter p = (l.take k).filter p ++ if p (ix l k) then [ix l k] else [] := by
  rw [take_ix hk, List.filter_append]
  by_cases h : p (ix l k) <;> simp [h]

/-- Where x stands first in l; -1 where it does not. -/
def idxL (l : List Int) (x : Int) : Int := if x ∈ l then (l.idxOf x : Int) else -1
theorem idxOf_ix {l : List Int} {x : Int} {k : Nat} (hk : k < l.length) (h : ix l k = x) (hn : ∀ j, j < k → ix l j ≠ x) : l.idxOf x = k := by
  induction l generalizing k with
  | nil => simp at hk
  | cons y l ih =>
    rcases k with _ | k
    · have : y = x := by simpa [ix] using h
      simp [List.idxOf_cons, this]
    · have h0 : y ≠ x := by simpa [ix] using hn 0 (by omega)
      have := ih (k := k) (by simpa using hk) (by simpa [ix] using h) fun j hj => by simpa [ix] using hn (j + 1) (by omega)
      have hb : (y == x) = false := by simpa using h0
      simp [List.idxOf_cons, hb, this]
theorem idxL_at {l : List Int} {x : Int} {k : Nat} (hk : k < l.length) (h : ix l k = x) (hn : ∀ j, j < k → ix l j ≠ x) : idxL l x = k := by
  unfold idxL
  rw [if_pos (mem_ix.2 ⟨k, hk, h⟩), idxOf_ix hk h hn]
theorem idxL_none {l : List Int} {x : Int} (h : ∀ k, k < l.length → ix l k ≠ x) : idxL l x = -1 := by
  unfold idxL
  rw [if_neg]
  rw [mem_ix]
  rintro ⟨k, hk, e⟩
  exact h k hk e
theorem idxL_geq {l : List Int} {x : Int} : decide (0 ≤ idxL l x) = hasB l x := by
  unfold idxL hasB
  by_cases h : x ∈ l <;> simp [h]

def setOkB (s : List Int) (n : Int) : Bool := decide (0 ≤ n ∧ n ≤ 256) && isSetB s n
def allL (n : Int) : List Int := if 0 ≤ n ∧ n ≤ 256 then upFrom 0 n.toNat else []
def meetL (a b : List Int) : List Int := a.filter fun x => hasB b x
def lessL (a b : List Int) : List Int := a.filter fun x => !hasB b x
theorem upFrom_snoc (k : Int) (n : Nat) : upFrom k (n + 1) = upFrom k n ++ [k + (n : Int)] := by simp [upFrom, List.range_succ]

/-- Strictly rising. -/
def Rising (l : List Int) : Prop := ∀ i j, i < j → j < l.length → ix l i < ix l j
theorem IsSet.rising {s : List Int} {n : Int} (h : IsSet s n) : Rising s := by
  intro i j hij hj
  induction j with
  | zero => omega
  | succ j ih =>
    have h1 := (h (j + 1) hj).2.2 (by omega)
    simp only [Nat.add_sub_cancel] at h1
    by_cases e : i = j
    · subst e; exact h1
    · have := ih (by omega) (by omega); omega

theorem length_filter_take {l : List Int} {k : Nat} {p : Int → Bool} : ((l.take k).filter p).length ≤ l.length :=
  Nat.le_trans (List.length_filter_le _ _) (by simp; omega)
theorem allL_nat {m : Nat} (h : m ≤ 256) : allL (m : Int) = upFrom 0 m := by
  unfold allL; rw [if_pos (by omega)]; simp
theorem allL_out {n : Int} (h : ¬ (0 ≤ n ∧ n ≤ 256)) : allL n = [] := if_neg h
def bothOkB (a b : List Int) : Bool := isSetB a 256 && isSetB b 256
theorem setOk256 (l : List Int) : setOkB l 256 = isSetB l 256 := by simp [setOkB]

end Go.Proofs.Ytpnophmanpfejaa

/- Slices of bools: read, and made by a call of its own; marks of sets. No condition but the lists' lengths. -/
namespace Go.Proofs.Ytpnophmanpfejaa
set_option linter.unusedSimpArgs false
set_option linter.unusedVariables false
open Go.RowKit

theorem bool_info : (Try.prog.info? 4).map (fun i => (i.zero, i.size, i.bytes)) = some (some (.bool false), 1, 1) := by kernel_rfl
theorem elem_bool : Elem 81 4 (.bool false) := Elem.mk' Try.underlying81 bool_info (by omega) rfl
theorem Bools.form {w : World} {v : Value} {l : List Bool} (h : Bools w v l) : ∃ A c, v = .slice A l.length c ∧ l.length ≤ c ∧ c ≤ 9223372036854775807 := by
  obtain ⟨A, c, h1, h2, h3, _⟩ := h
  exact ⟨A, c, h1, h2, h3⟩
theorem Bools.at_ {w : World} {A : Option Addr} {n c k : Nat} {l : List Bool} (h : Bools w (.slice A n c) l) (hk : k < l.length) : ∃ ad, A = some ad ∧ w.cell? (ad.add k) = some (.bool (bx l k)) := by
  obtain ⟨A', c', he, _, _, h4⟩ := h
  injection he with h1
  subst h1
  exact h4 k hk
theorem bx_set {l : List Bool} {k j : Nat} {x : Bool} (hk : k < l.length) : bx (l.set k x) j = if j = k then x else bx l j := by
  unfold bx
  by_cases h : j = k
  · subst h; simp [hk]
  · simp [h, Ne.symm h]
theorem bools_ext {l m : List Bool} (hl : l.length = m.length) (h : ∀ j, j < m.length → bx l j = bx m j) : l = m := by
  apply List.ext_getElem hl
  intro j h1 h2
  have := h j h2
  rwa [bx_lt h1, bx_lt h2] at this

/-- v is a row of bools of the call's own, from block B on, that holds l. -/
def OwnBools (w : World) (B : Nat) (v : Value) (l : List Bool) : Prop := w.ownsRow B 4 1 v l.length (l.map Value.bool)
theorem OwnBools.bools {w : World} {B : Nat} {v : Value} {l : List Bool} (h : OwnBools w B v l) : Bools w v l :=
  (SlF.of_own h).congr fun k hk => by simp [bx, hk]
theorem OwnBools.below {w w' : World} {B B' : Nat} {v : Value} {l : List Bool} (h : OwnBools w B v l) (hb : Below B' w w') (hB : w.heap.size ≤ B') : OwnBools w' B v l := by
  refine ⟨h.1, ?_⟩
  rcases h.2 with hn | ⟨g, cap, cur, rfl, hg, hh, rest⟩
  · exact .inl hn
  · exact .inr ⟨g, cap, cur, rfl, hg, (hb.block g (Nat.lt_of_lt_of_le (Array.getElem?_eq_some_iff.1 hh).1 hB)).trans hh, rest⟩
theorem OwnBools.more {w : World} {B B' : Nat} {v : Value} {l : List Bool} (h : OwnBools w B v l) (hB : B' ≤ B) : OwnBools w B' v l := by
  refine ⟨h.1, ?_⟩
  rcases h.2 with hn | ⟨g, cap, cur, rfl, hg, rest⟩
  · exact .inl hn
  · exact .inr ⟨g, cap, cur, rfl, Nat.le_trans hB hg, rest⟩
/-- .. and below block C. -/
def OB (w : World) (B C : Nat) (v : Value) (l : List Bool) : Prop := OwnBools w B v l ∧ ∀ k, v.ownBlock = some k → k < C
theorem OB.bools {w : World} {B C : Nat} {v : Value} {l : List Bool} (h : OB w B C v l) : Bools w v l := h.1.bools
theorem OB.of {w : World} {B : Nat} {v : Value} {l : List Bool} (h : OwnBools w B v l) : OB w B w.heap.size v l := ⟨h, fun k hk => (h.lt k hk).2⟩
theorem OB.kept {w w' : World} {B C B' C' : Nat} {v : Value} {l : List Bool} (h : OB w B C v l) (ho : Only B' C' w w') (hd : C ≤ B' ∨ C' ≤ B) : OB w' B C v l := by
  refine ⟨⟨h.1.1, ?_⟩, h.2⟩
  rcases h.1.2 with hn | ⟨g, cap, cur, rfl, hg, hh, rest⟩
  · exact .inl hn
  · have h2 := h.2 g rfl
    exact .inr ⟨g, cap, cur, rfl, hg, (ho.block g (Array.getElem?_eq_some_iff.1 hh).1 (by omega)).trans hh, rest⟩
theorem OB.below {w w' : World} {B C : Nat} {v : Value} {l : List Bool} (h : OB w B C v l) (hb : Below w.heap.size w w') : OB w' B C v l := h.kept (Only.of_below (B := C) (C := B) hb) (.inl (Nat.le_refl _))
theorem OB.drewN {w : World} {B C : Nat} {v : Value} {l : List Bool} (h : OB w B C v l) (n : Nat) : OB (w.drewN n) B C v l := h

/-- Block g is an array of bools of the call's own that holds l. -/
def BArr (w : World) (g : Nat) (l : List Bool) : Prop := Arr w g 4 (l.map Value.bool)
theorem BArr.cell {w : World} {g : Nat} {l : List Bool} (h : BArr w g l) {k : Nat} (hk : k < l.length) : w.cell? ⟨g, k, none⟩ = some (.bool (bx l k)) := by
  have := Arr.cell h (k := k) (by simpa using hk)
  simpa [bx, hk] using this
theorem BArr.frozen {w : World} {g : Nat} {l : List Bool} (h : BArr w g l) (k : Nat) : w.frozen? ⟨g, k, none⟩ = false := Arr.frozen h k
theorem BArr.set_ {w : World} {g : Nat} {l : List Bool} (h : BArr w g l) (k : Nat) (x : Bool) : BArr (w.setCell ⟨g, k, none⟩ (.bool x)) g (l.set k x) := by
  have := Arr.set_ h k (.bool x)
  unfold BArr
  rwa [List.map_set]
theorem BArr.own {w : World} {g B : Nat} {l : List Bool} (h : BArr w g l) (hB : B ≤ g) (hm : l.length ≤ 4611686018427387904) : OwnBools w B (.slice (some ⟨g, 0, none⟩) l.length l.length) l :=
  Arr.own h hB (by simp) hm
theorem BArr.new (w : World) (n : Nat) : BArr (w.alloc (.cells (zeros (.bool false) n).toArray 4)) w.heap.size (List.replicate n false) := by
  have := Arr.new w 4 (zeros (.bool false) n)
  unfold BArr
  rwa [List.map_replicate]
theorem BArr.below {w w' : World} {B g : Nat} {l : List Bool} (h : BArr w g l) (hb : Below B w w') (hg : g < B) : BArr w' g l := Arr.below h hb hg
theorem BArr.lt {w : World} {g : Nat} {l : List Bool} (h : BArr w g l) : g < w.heap.size := Arr.lt h
theorem BArr.bools {w : World} {g : Nat} {l : List Bool} (h : BArr w g l) (hm : l.length ≤ 4611686018427387904) : Bools w (.slice (some ⟨g, 0, none⟩) l.length l.length) l := (h.own (Nat.le_refl _) hm).bools

def RetBools (w : World) (l : List Bool) (e : Ending) (w' : World) : Prop := ∃ u, e = .returned u ∧ OwnBools w' w.heap.size u l ∧ Below w.heap.size w w'
theorem RetBools.mk' {w w' : World} {l : List Bool} {u : Value} (h1 : OwnBools w' w.heap.size u l) (h2 : Below w.heap.size w w') : RetBools w l (.returned u) w' := ⟨u, rfl, h1, h2⟩
theorem RetBools.at_ {w W w' : World} {l : List Bool} {u : Value} (hb : Below w.heap.size w W) (h1 : OwnBools w' W.heap.size u l) (h2 : Below W.heap.size W w') : RetBools w l (.returned u) w' := .mk' (h1.more hb.size) (Below.up hb h2)

/-- Of each of n vertices whether it is in s. -/
def marksL (n : Nat) (s : List Int) : List Bool := (List.range n).map fun (v : Nat) => decide ((v : Int) ∈ s)
@[simp] theorem length_marksL (n : Nat) (s : List Int) : (marksL n s).length = n := by simp [marksL]
theorem bx_marksL {n v : Nat} {s : List Int} (h : v < n) : bx (marksL n s) v = decide ((v : Int) ∈ s) := by simp [bx, marksL, h]
theorem marksL_nil (n : Nat) : marksL n [] = List.replicate n false := by
  apply bools_ext (by simp)
  intro j hj
  rw [List.length_replicate] at hj
  rw [bx_marksL hj]
  simp [bx, hj]
theorem marksL_set {n k j : Nat} {s : List Int} (hk : k < s.length) (hj : ix s k = (j : Int)) (hjn : j < n) : (marksL n (s.take k)).set j true = marksL n (s.take (k + 1)) := by
  apply bools_ext (by simp)
  intro i hi
  rw [length_marksL] at hi
  rw [bx_set (by simpa using hjn), bx_marksL hi, bx_marksL hi, take_ix hk, hj]
  by_cases h : i = j
  · subst h; simp
  · rw [if_neg h]
    have : ¬ (i : Int) = (j : Int) := by omega
    simp [this]
/-- The elements of s are vertices below n. -/
def Vert (s : List Int) (n : Nat) : Prop := ∀ k, k < s.length → ∃ j : Nat, ix s k = (j : Int) ∧ j < n
theorem IsSet.vert {s : List Int} {n : Nat} (h : IsSet s n) : Vert s n := fun k hk => by
  obtain ⟨h1, h2, _⟩ := h k hk
  exact ⟨(ix s k).toNat, by omega, by omega⟩
end Go.Proofs.Ytpnophmanpfejaa

/- Lists of lists of numbers: their sizes, the numbers that the laws write into them. No program in sight. -/
namespace Go.Proofs.Ytpnophmanpfejaa
set_option linter.unusedSimpArgs false
set_option linter.unusedVariables false

def vx (vs : List Value) (k : Nat) : Value := vs.getD k undef
theorem vx_lt {vs : List Value} {k : Nat} (h : k < vs.length) : vx vs k = vs[k] := by simp [vx, h]
theorem vx_set {vs : List Value} {k j : Nat} {x : Value} (hk : k < vs.length) : vx (vs.set k x) j = if j = k then x else vx vs j := by
  unfold vx
  by_cases h : j = k
  · subst h; simp [hk]
  · simp [h, Ne.symm h]
theorem rx_set {ll : List (List Int)} {k j : Nat} {x : List Int} (hk : k < ll.length) : rx (ll.set k x) j = if j = k then x else rx ll j := by
  unfold rx
  by_cases h : j = k
  · subst h; simp [hk]
  · simp [h, Ne.symm h]
theorem rows_ext {l m : List (List Int)} (hl : l.length = m.length) (h : ∀ j, j < m.length → rx l j = rx m j) : l = m := by
  apply List.ext_getElem hl
  intro j h1 h2
  have := h j h2
  rwa [rx_lt h1, rx_lt h2] at this
theorem vals_ext {l m : List Value} (hl : l.length = m.length) (h : ∀ j, j < m.length → vx l j = vx m j) : l = m := by
  apply List.ext_getElem hl
  intro j h1 h2
  have := h j h2
  rwa [vx_lt h1, vx_lt h2] at this

/-- How many numbers stand in the first k rows. -/
def offR (ll : List (List Int)) (k : Nat) : Nat := ((ll.take k).map List.length).sum
def sizeR (ll : List (List Int)) : Nat := offR ll ll.length
@[simp] theorem offR_zero (ll : List (List Int)) : offR ll 0 = 0 := by simp [offR]
theorem offR_succ {ll : List (List Int)} {k : Nat} (hk : k < ll.length) : offR ll (k + 1) = offR ll k + (rx ll k).length := by
  unfold offR
  rw [List.take_succ_eq_append_getElem hk, rx_lt hk, List.map_append, List.sum_append]
  simp
theorem offR_le {ll : List (List Int)} {j k : Nat} (h : j ≤ k) (hk : k ≤ ll.length) : offR ll j ≤ offR ll k := by
  induction k with
  | zero => have : j = 0 := by omega
            subst this; exact Nat.le_refl _
  | succ k ih =>
    by_cases e : j = k + 1
    · subst e; exact Nat.le_refl _
    · have := ih (by omega) (by omega)
      rw [offR_succ (by omega)]; omega
theorem len_le_sizeR {ll : List (List Int)} {k : Nat} (hk : k < ll.length) : (rx ll k).length ≤ sizeR ll := by
  have h1 := offR_succ hk
  have h2 : offR ll (k + 1) ≤ sizeR ll := offR_le (by omega) (Nat.le_refl _)
  omega
theorem offR_mul {ll : List (List Int)} {M : Nat} (h : ∀ k, k < ll.length → (rx ll k).length ≤ M) {k : Nat} (hk : k ≤ ll.length) : offR ll k ≤ k * M := by
  induction k with
  | zero => simp
  | succ k ih =>
    have h1 := ih (by omega)
    have h2 := h k (by omega)
    rw [offR_succ (by omega), Nat.add_mul]
    omega
/-- The rows of the same lengths that hold k0, k0 + 1, .. -/
def markR (k0 : Int) (ll : List (List Int)) : List (List Int) := (List.range ll.length).map fun j => upFrom (k0 + (offR ll j : Nat)) (rx ll j).length
@[simp] theorem length_markR (k0 : Int) (ll : List (List Int)) : (markR k0 ll).length = ll.length := by simp [markR]
theorem rx_markR {k0 : Int} {ll : List (List Int)} {j : Nat} (h : j < ll.length) : rx (markR k0 ll) j = upFrom (k0 + (offR ll j : Nat)) (rx ll j).length := by simp [rx, markR, h]
end Go.Proofs.Ytpnophmanpfejaa

/- Slices of slices of int64s: read, and made by a call of its own; the walks of the laws' helpers on them. Conditions: the lengths. -/
namespace Go.Proofs.Ytpnophmanpfejaa
set_option linter.unusedSimpArgs false
set_option linter.unusedVariables false
open Go.RowKit

theorem rows_info : (Try.prog.info? 22).map (fun i => (i.zero, i.size, i.bytes)) = some (some (.slice none 0 0), 1, 24) := by kernel_rfl
theorem elem_rows : Elem 23 22 (.slice none 0 0) := Elem.mk' Try.underlying23 rows_info (by omega) rfl

/-- v is a slice of slices of a call's own, from block B on and below C: its elements are vs, which hold ll; no two lie in one block. -/
structure RowsV (w : World) (B C : Nat) (v : Value) (vs : List Value) (ll : List (List Int)) : Prop where
  len : vs.length = ll.length
  own : w.ownsRow B 22 1 v ll.length vs
  lt : ∀ b, v.ownBlock = some b → b < C
  row : ∀ k, k < ll.length → OI w B C (vx vs k) (rx ll k)
  ne : ∀ i j, i < ll.length → j < ll.length → i ≠ j → ∀ b, (vx vs i).ownBlock = some b → (vx vs j).ownBlock ≠ some b

theorem OI.mono {w : World} {B C B' C' : Nat} {v : Value} {l : List Int} (h : OI w B C v l) (hB : B' ≤ B) (hC : C ≤ C') : OI w B' C' v l := ⟨h.1.more hB, fun k hk => Nat.lt_of_lt_of_le (h.2 k hk) hC⟩
theorem OI.heap {w w' : World} {B C : Nat} {v : Value} {l : List Int} (h : OI w B C v l) (hh : ∀ b, v.ownBlock = some b → w'.heap[b]? = w.heap[b]?) : OI w' B C v l := by
  refine ⟨⟨h.1.1, ?_⟩, h.2⟩
  rcases h.1.2 with hn | ⟨g, cap, cur, rfl, hg, hc, rest⟩
  · exact .inl hn
  · exact .inr ⟨g, cap, cur, rfl, hg, (hh g rfl).trans hc, rest⟩
theorem owns_heap {w w' : World} {B n size : Nat} {e : TypeId} {v : Value} {xs : List Value} (h : w.ownsRow B e size v n xs) (hh : ∀ b, v.ownBlock = some b → w'.heap[b]? = w.heap[b]?) : w'.ownsRow B e size v n xs := by
  refine ⟨h.1, ?_⟩
  rcases h.2 with hn | ⟨g, cap, cur, rfl, hg, hc, rest⟩
  · exact .inl hn
  · exact .inr ⟨g, cap, cur, rfl, hg, (hh g rfl).trans hc, rest⟩
/-- Rows whose element types differ never lie in one block. -/
theorem owns_ne {w : World} {B B' n n' s s' : Nat} {e e' : TypeId} {v v' : Value} {xs xs' : List Value} (h : w.ownsRow B e s v n xs) (h' : w.ownsRow B' e' s' v' n' xs') (hne : e ≠ e') {b : Nat} (hb : v.ownBlock = some b) : v'.ownBlock ≠ some b := by
  intro hb'
  rcases h.2 with ⟨rfl, _⟩ | ⟨g, cap, cur, rfl, _, hg, _⟩
  · simp [Value.ownBlock] at hb
  · rcases h'.2 with ⟨rfl, _⟩ | ⟨g', cap', cur', rfl, _, hg', _⟩
    · simp [Value.ownBlock] at hb'
    · simp only [Value.ownBlock, Option.some.injEq] at hb hb'
      subst hb
      subst hb'
      rw [hg] at hg'
      injection hg' with hg'
      injection hg' with _ ht
      exact hne ht
theorem row_type_ne : (22 : TypeId) ≠ 2 := by decide

theorem RowsV.kept {w w' : World} {B C B' C' : Nat} {v : Value} {vs : List Value} {ll : List (List Int)} (h : RowsV w B C v vs ll) (ho : Only B' C' w w') (hd : C ≤ B' ∨ C' ≤ B) : RowsV w' B C v vs ll := by
  refine ⟨h.len, owns_heap h.own fun b hb => ?_, h.lt, fun k hk => (h.row k hk).kept ho hd, h.ne⟩
  have h1 := h.own.lt b hb
  have h2 := h.lt b hb
  exact ho.block b h1.2 (by omega)
theorem RowsV.rows {w : World} {B C : Nat} {v : Value} {vs : List Value} {ll : List (List Int)} (h : RowsV w B C v vs ll) : Rows w v ll :=
  ⟨vx vs, SlF.of_own h.own, fun k hk => (h.row k hk).ints⟩
theorem RowsV.mono {w : World} {B C B' C' : Nat} {v : Value} {vs : List Value} {ll : List (List Int)} (h : RowsV w B C v vs ll) (hB : B' ≤ B) (hC : C ≤ C') : RowsV w B' C' v vs ll := by
  refine ⟨h.len, ⟨h.own.1, ?_⟩, fun b hb => Nat.lt_of_lt_of_le (h.lt b hb) hC, fun k hk => (h.row k hk).mono hB hC, h.ne⟩
  rcases h.own.2 with hn | ⟨g, cap, cur, rfl, hg, rest⟩
  · exact .inl hn
  · exact .inr ⟨g, cap, cur, rfl, Nat.le_trans hB hg, rest⟩

theorem RowsV.heap {w w' : World} {B C : Nat} {v : Value} {vs : List Value} {ll : List (List Int)} (h : RowsV w B C v vs ll) (h1 : ∀ b, v.ownBlock = some b → w'.heap[b]? = w.heap[b]?)
    (h2 : ∀ k, k < ll.length → ∀ b, (vx vs k).ownBlock = some b → w'.heap[b]? = w.heap[b]?) : RowsV w' B C v vs ll :=
  ⟨h.len, owns_heap h.own h1, h.lt, fun k hk => (h.row k hk).heap (h2 k hk), h.ne⟩
theorem RowsV.form {w : World} {B C : Nat} {v : Value} {vs : List Value} {ll : List (List Int)} (h : RowsV w B C v vs ll) : ∃ A c, v = .slice A ll.length c := by
  obtain ⟨A, c, h1, _⟩ := SlF.of_own h.own
  exact ⟨A, c, h1⟩

/-- The same with the elements' slices left open. -/
def ORw (w : World) (B C : Nat) (v : Value) (ll : List (List Int)) : Prop := ∃ vs, RowsV w B C v vs ll
theorem ORw.kept {w w' : World} {B C B' C' : Nat} {v : Value} {ll : List (List Int)} (h : ORw w B C v ll) (ho : Only B' C' w w') (hd : C ≤ B' ∨ C' ≤ B) : ORw w' B C v ll := by
  obtain ⟨vs, h⟩ := h; exact ⟨vs, h.kept ho hd⟩
theorem ORw.below {w w' : World} {B C : Nat} {v : Value} {ll : List (List Int)} (h : ORw w B C v ll) (hb : Below w.heap.size w w') : ORw w' B C v ll := h.kept (Only.of_below (B := C) (C := B) hb) (.inl (Nat.le_refl _))
theorem ORw.rows {w : World} {B C : Nat} {v : Value} {ll : List (List Int)} (h : ORw w B C v ll) : Rows w v ll := by obtain ⟨vs, h⟩ := h; exact h.rows

set_option maxHeartbeats 400000 in
theorem eqInt64SS_any (v u : Value) (l m : List (List Int)) (w : World) (hv : Rows w v l) (hu : Rows w u m) :
    Calls Try.prog 45 #[v, u] w fun e w' => e = .returned (.bool (decide (l = m))) ∧ ∃ n, w' = w.drewN n := by
  obtain ⟨f, hv, hf⟩ := hv
  obtain ⟨g, hu, hg⟩ := hu
  obtain ⟨A, c, rfl, hlc, hcm, hA⟩ := hv
  obtain ⟨B, d, rfl, hmd, hdm, hB⟩ := hu
  by_cases hne : l.length = m.length
  · go_enter Try.func45, Try.ntmps45
    go_wp2
    go_loopw [5] (fun i wr => ∃ k q : Nat, k ≤ m.length ∧ i = .int .i64 k ∧ wr = w.drewN q ∧ ∀ j, j < k → rx l j = rx m j) (fun i _ => m.length - (intOf i).toNat)
    case atStart => exact ⟨0, 0, Nat.zero_le _, rfl, rfl, fun j hj => absurd hj (Nat.not_lt_zero _)⟩
    case round =>
      obtain ⟨k, q, hk, rfl, rfl, heq⟩ := hrel
      by_cases hlt : k < m.length
      · obtain ⟨a1, rfl, h1⟩ := hA k (by omega)
        obtain ⟨a2, rfl, h2⟩ := hB k hlt
        have hfk := (hf k (by omega)).kept (Kept.drewN w q)
        have hgk := (hg k hlt).kept (Kept.drewN w q)
        have hcon := fun W (hW : Kept w W) => eqInt64S_any (f k) (g k) (rx l k) (rx m k) W ((hf k (by omega)).kept hW) ((hg k hlt).kept hW)
        have Hc := Lib.hid hcon
        clear hcon hfk hgk hf hg
        by_cases he : rx l k = rx m k
        · have hd : decide (rx l k = rx m k) = true := by simpa using he
          have He := Lib.hid he
          clear he
          go_wp2
          go_quiet ((go_at_call 20; first | exact Calls.quiet_of_same (Hc.out _ (Kept.drewN _ _)) | exact Calls.quiet_of (Hc.out _ (Kept.drewN _ _)) | exact quiet_add (quiet_same (Hc.out _ (Kept.drewN _ _))) | exact quiet_add (Hc.out _ (Kept.drewN _ _))))
          go_wp2
          exact ⟨⟨k + 1, q + nq, by omega, by go_num, by simp, fun j hj => by
            by_cases hjk : j = k
            · rw [hjk]; exact He.out
            · exact heq j (by omega)⟩, by simp [intOf]; omega⟩
        · have hd : decide (rx l k = rx m k) = false := by simpa using he
          have hlm : decide (l = m) = false := by
            rw [decide_eq_false_iff_not]; rintro rfl; exact he rfl
          have He := Lib.hid he
          clear he
          go_wp2
          go_quiet ((go_at_call 20; first | exact Calls.quiet_of_same (Hc.out _ (Kept.drewN _ _)) | exact Calls.quiet_of (Hc.out _ (Kept.drewN _ _)) | exact quiet_add (quiet_same (Hc.out _ (Kept.drewN _ _))) | exact quiet_add (Hc.out _ (Kept.drewN _ _))))
          go_wp2
          go_ret
          exact ⟨by rw [hlm]; rfl, q + nq, by simp⟩
      · have hlm : l = m := rows_ext hne fun j hj => heq j (by omega)
        have hd : decide (l = m) = true := by simpa using hlm
        have Hd := Lib.hid hd
        clear hd hlm
        go_wp2
        go_ret
        exact ⟨by rw [Hd.out]; rfl, q, rfl⟩
  · have hlm : decide (l = m) = false := by rw [decide_eq_false_iff_not]; rintro rfl; exact hne rfl
    have hd : ((l.length : Int) != (m.length : Int)) = true := by simpa using (by omega : ¬ (l.length : Int) = m.length)
    have Hd := Lib.hid hlm
    clear hlm
    go_enter Try.func45, Try.ntmps45
    go_wp2
    go_ret
    exact ⟨by rw [Hd.out]; rfl, 0, rfl⟩

set_option maxHeartbeats 400000 in
theorem szInt64SS_any (v : Value) (ll : List (List Int)) (left : Int) (w : World) (hv : Rows w v ll) (h0 : 0 ≤ left) (h1 : left ≤ 1048576) :
    Calls Try.prog 99 #[v, .int .i64 left] w fun e w' => e = .returned (.int .i64 (szLeft (ll.length + sizeR ll) left)) ∧ w' = w := by
  obtain ⟨f, hv, hf⟩ := hv
  obtain ⟨A, c, rfl, hlc, hcm, hA⟩ := hv
  have hs : IntKind.i64.wrap (left - (ll.length : Int)) = left - (ll.length : Int) := IntWalk.i64_in _ (by omega)
  by_cases h : (ll.length : Int) ≤ left
  · have hn : ¬ left - (ll.length : Int) < 0 := by omega
    obtain ⟨r, hr⟩ : ∃ r, szLeft (ll.length + sizeR ll) left = r := ⟨_, rfl⟩
    have hend : 0 ≤ left - (ll.length : Int) - (offR ll ll.length : Nat) → r = left - (ll.length : Int) - (offR ll ll.length : Nat) := fun hp => by
      rw [← hr, szLeft_pos (by unfold sizeR; omega)]; unfold sizeR; omega
    have hbad : ∀ k, k < ll.length → ¬ ((rx ll k).length : Int) ≤ left - (ll.length : Int) - (offR ll k : Nat) → r = -1 := fun k hk hp => by
      have h2 := offR_succ hk
      have h3 : offR ll (k + 1) ≤ sizeR ll := offR_le (by omega) (Nat.le_refl _)
      rw [← hr, szLeft_neg (by omega)]
    rw [hr]
    clear hr
    have Hend := Lib.hid hend
    have Hbad := Lib.hid hbad
    clear hend hbad
    go_enter Try.func99, Try.ntmps99
    go_wp2
    clear hs hn
    go_loop [1, 5] (fun x i => ∃ k : Nat, k ≤ ll.length ∧ i = .int .i64 k ∧ x = .int .i64 (left - (ll.length : Int) - (offR ll k : Nat)) ∧ 0 ≤ left - (ll.length : Int) - (offR ll k : Nat)) (fun _ i => ll.length - (intOf i).toNat)
    case atStart => exact ⟨0, Nat.zero_le _, rfl, by simp, by simp; omega⟩
    case round =>
      obtain ⟨k, hk, rfl, rfl, hpos⟩ := hrel
      by_cases hlt : k < ll.length
      · obtain ⟨a1, rfl, hc1⟩ := hA k hlt
        have hcon := szInt64S_any (f k) (rx ll k) (left - (ll.length : Int) - (offR ll k : Nat)) w (hf k hlt) hpos (by omega)
        have hoff := offR_succ hlt
        by_cases g : ((rx ll k).length : Int) ≤ left - (ll.length : Int) - (offR ll k : Nat)
        · rw [szLeft_pos g] at hcon
          have hsum : left - (ll.length : Int) - (offR ll k : Nat) - ((rx ll k).length : Nat) = left - (ll.length : Int) - (offR ll (k + 1) : Nat) := by omega
          have hpos' : 0 ≤ left - (ll.length : Int) - (offR ll (k + 1) : Nat) := by omega
          rw [hsum] at hcon
          have Hc := Lib.hid hcon
          clear hcon hsum g hf hoff
          go_wp2_with (go_at_call 71; refine Hc.out.mono ?_; rintro e w' ⟨rfl, hw⟩; subst w')
          exact ⟨⟨k + 1, by omega, by go_num, rfl, hpos'⟩, by simp [intOf]; omega⟩
        · rw [szLeft_neg g] at hcon
          have hr := Hbad.out k hlt (by omega)
          have Hr := Lib.hid hr
          have Hc := Lib.hid hcon
          clear hcon g hf hr hoff
          go_wp2_with (go_at_call 71; refine Hc.out.mono ?_; rintro e w' ⟨rfl, hw⟩; subst w')
          go_ret
          exact ⟨by rw [Hr.out]; rfl, rfl⟩
      · obtain rfl : k = ll.length := by omega
        go_wp2
        go_ret
        exact ⟨by rw [Hend.out hpos]; rfl, rfl⟩
  · rw [szLeft_neg (by omega)]
    have hn : left - (ll.length : Int) < 0 := by omega
    clear h
    go_enter Try.func99, Try.ntmps99
    go_wp2
    go_ret
    exact ⟨rfl, rfl⟩

set_option maxHeartbeats 800000 in
theorem toInt64SS_any (v : Value) (ll : List (List Int)) (w : World) (hv : Rows w v ll) (h1 : ll.length ≤ 4194304) (h2 : ∀ k, k < ll.length → (rx ll k).length ≤ 4194304) :
    Calls Try.prog 103 #[v] w fun e w' => ∃ u, e = .returned u ∧ ORw w' w.heap.size w'.heap.size u ll ∧ Below w.heap.size w w' := by
  obtain ⟨f, hv, hf⟩ := hv
  have hv0 := hv
  obtain ⟨A, c, rfl, hlc, hcm, hA⟩ := hv
  clear hA
  have hmk := make_one elem_rows ll.length (by omega)
  go_enter Try.func103, Try.ntmps103
  go_wp2
  clear hmk
  have h0 : Arr (w.alloc (.cells (zeros (.slice none 0 0) ll.length).toArray 22)) w.heap.size 22 (zeros (.slice none 0 0) ll.length) := Arr.new _ _ _
  have hb0 : Below w.heap.size w (w.alloc (.cells (zeros (.slice none 0 0) ll.length).toArray 22)) := (Below.refl _ _).alloc (Nat.le_refl _) _
  generalize w.alloc (.cells (zeros (.slice none 0 0) ll.length).toArray 22) = w0 at *
  go_loopw [4] (fun i wr => ∃ (k : Nat) (vs : List Value), k ≤ ll.length ∧ i = .int .i64 k ∧ Below w.heap.size w wr ∧ Arr wr w.heap.size 22 vs ∧ vs.length = ll.length ∧ (∀ j, j < k → OI wr (w.heap.size + 1) wr.heap.size (vx vs j) (rx ll j)) ∧ (∀ i j, i < k → j < k → i ≠ j → ∀ b, (vx vs i).ownBlock = some b → (vx vs j).ownBlock ≠ some b)) (fun i _ => ll.length - (intOf i).toNat)
  case atStart => exact ⟨0, _, Nat.zero_le _, rfl, hb0, h0, by simp [zeros], fun j hj => by omega, fun i j hi => by omega⟩
  case round =>
    obtain ⟨k, vs, hk, rfl, hb, ha, hvl, hr, hne⟩ := hrel
    by_cases hlt : k < ll.length
    · obtain ⟨a1, rfl, hc⟩ := (SlF.kept hv0 (Kept.of hb)).at_ hlt
      have hf1 := ha.lt
      have Hvl := Lib.hid hvl
      clear hvl
      go_wp2_with fail
      refine (toInt64S_any (f k) (rx ll k) _ ((hf k hlt).kept (Kept.of hb)) (h2 k hlt)).mono ?_
      rintro e w1 ⟨u, rfl, ho1, hb1⟩
      obtain ⟨A1, c1, rfl⟩ := ints_of_ret ho1
      have ha1 := ha.below hb1 hf1
      have hc1 := ha1.cell (k := k) (by rw [Hvl.out]; exact hlt)
      have hfz := ha1.frozen k
      have hbw := hb.trans (hb1.mono hb.size)
      go_wp2
      refine ⟨⟨k + 1, vs.set k _, by omega, by go_num, hbw.setCell (Nat.le_refl _) _, ha1.set_ k _, by simpa using Hvl.out, fun j hj => ?_, fun i j hi hj hij b hb2 => ?_⟩, by simp [intOf]; omega⟩
      · have hvl := Hvl.out
        rw [vx_set (by omega)]
        have hsz := hb1.size
        by_cases e : j = k
        · subst e
          rw [if_pos rfl]
          refine OI.heap (w := w1) ⟨ho1.more hf1, fun b hb => ?_⟩ fun b hb => ?_
          · simpa using (ho1.lt b hb).2
          · exact Below.heap_setCell _ _ _ _ (by have := (ho1.lt b hb).1; intro he; subst he; simp at this; omega)
        · rw [if_neg e]
          have h3 := (hr j (by omega)).below hb1
          refine OI.heap (w := w1) (h3.mono (Nat.le_refl _) (by simpa using hsz)) fun b hb => ?_
          exact Below.heap_setCell _ _ _ _ (by have := (h3.1.lt b hb).1; intro he; subst he; simp at this; omega)
      · have hvl := Hvl.out
        rw [vx_set (by omega)] at hb2
        rw [vx_set (by omega)]
        by_cases ei : i = k
        · rw [if_pos ei] at hb2
          rw [if_neg (by omega)]
          intro hb3
          have h3 := (hr j (by omega)).2 b hb3
          have h4 := (ho1.lt b hb2).1
          omega
        · rw [if_neg ei] at hb2
          by_cases ej : j = k
          · rw [if_pos ej]
            intro hb3
            have h3 := (hr i (by omega)).2 b hb2
            have h4 := (ho1.lt b hb3).1
            omega
          · rw [if_neg ej]
            exact hne i j (by omega) (by omega) hij b hb2
    · obtain rfl : k = ll.length := by omega
      have Hvl := Lib.hid hvl
      clear hvl
      go_wp2
      go_ret
      refine ⟨_, rfl, ⟨vs, Hvl.out, ha.own (Nat.le_refl _) Hvl.out (by omega), fun b hb => ?_, fun j hj => (hr j hj).mono (by omega) (Nat.le_refl _), hne⟩, hb⟩
      simp [Value.ownBlock] at hb
      have := ha.lt
      omega

theorem ORw.old {w w' : World} {v : Value} {ll : List (List Int)} {B : Nat} (h : ORw w B w.heap.size v ll) (hb : Below w.heap.size w w') : ORw w' B w'.heap.size v ll := by
  obtain ⟨vs, h⟩ := h
  exact ⟨vs, ((h.kept (Only.of_below (B := w.heap.size) (C := w.heap.size) hb) (.inl (Nat.le_refl _))).mono (Nat.le_refl _) hb.size)⟩
/-- Of the blocks that w has, w' has turned none but those of S. -/
structure Chg (S : Nat → Prop) (w w' : World) : Prop where
  os : w'.os = w.os
  tape : w'.tape = w.tape
  output : w'.output = w.output
  size : w.heap.size ≤ w'.heap.size
  block : ∀ k, k < w.heap.size → ¬ S k → w'.heap[k]? = w.heap[k]?
theorem Chg.refl (S : Nat → Prop) (w : World) : Chg S w w := ⟨rfl, rfl, rfl, Nat.le_refl _, fun _ _ _ => rfl⟩
theorem Chg.grown {S : Nat → Prop} {a b c : World} {row : Option Nat} (h : Chg S a b) (k : b.grownBy c row) (hr : ∀ r, row = some r → S r) : Chg S a c :=
  ⟨k.os.trans h.os, k.tape.trans h.tape, k.output.trans h.output, Nat.le_trans h.size k.size, fun i hi hne => (k.block i (Nat.lt_of_lt_of_le hi h.size) (fun e => hne (hr i e.symm))).trans (h.block i hi hne)⟩
theorem Chg.below {S : Nat → Prop} {a b c : World} (h : Chg S a b) (k : Below b.heap.size b c) : Chg S a c :=
  ⟨k.os.trans h.os, k.tape.trans h.tape, k.output.trans h.output, Nat.le_trans h.size k.size, fun i hi hne => (k.block i (Nat.lt_of_lt_of_le hi h.size)).trans (h.block i hi hne)⟩
theorem Chg.only {S : Nat → Prop} {B C : Nat} {a b : World} (h : Chg S a b) (hS : ∀ k, S k → B ≤ k ∧ k < C) : Only B C a b :=
  ⟨h.os, h.tape, h.output, h.size, fun k hk hh => h.block k hk (fun hs => by have := hS k hs; omega)⟩

set_option maxHeartbeats 800000 in
theorem markInt64SS_any (v : Value) (vs : List Value) (ll : List (List Int)) (k0 : Int) (B C : Nat) (w : World) (hv : RowsV w B C v vs ll) (h0 : 0 ≤ k0) (h1 : k0 + sizeR ll ≤ 4611686018427387904) :
    Calls Try.prog 48 #[v, .int .i64 k0] w fun e w' => e = .returned (.int .i64 (k0 + sizeR ll)) ∧ RowsV w' B C v vs (markR k0 ll) ∧ Chg (fun b => ∃ j, j < ll.length ∧ (vx vs j).ownBlock = some b) w w' := by
  have hsl := SlF.of_own hv.own
  have hsl0 := hsl
  obtain ⟨A, c, rfl, hlc, hcm, hA⟩ := hsl
  clear hA
  go_enter Try.func48, Try.ntmps48
  go_wp2
  go_loopw [1, 5] (fun x i wr => ∃ (k : Nat) (mm : List (List Int)), k ≤ ll.length ∧ i = .int .i64 k ∧ x = .int .i64 (k0 + (offR ll k : Nat)) ∧ RowsV wr B C (.slice A ll.length c) vs mm ∧ mm.length = ll.length ∧ (∀ j, j < ll.length → (rx mm j).length = (rx ll j).length) ∧ (∀ j, j < k → rx mm j = upFrom (k0 + (offR ll j : Nat)) (rx ll j).length) ∧ Chg (fun b => ∃ j, j < ll.length ∧ (vx vs j).ownBlock = some b) w wr) (fun _ i _ => ll.length - (intOf i).toNat)
  case atStart => exact ⟨0, ll, Nat.zero_le _, rfl, by simp, hv, rfl, fun _ _ => rfl, fun j hj => by omega, Chg.refl _ _⟩
  case round =>
    obtain ⟨k, mm, hk, rfl, rfl, ha, hml, hle, hm, hch⟩ := hrel
    have Hml := Lib.hid hml
    clear hml
    have Hle := Lib.hid hle
    clear hle
    by_cases hlt : k < ll.length
    · have hsl := SlF.of_own ha.own
      rw [Hml.out] at hsl
      obtain ⟨a1, rfl, hc⟩ := hsl.at_ (k := k) hlt
      clear hsl
      have hrow := ha.row k (by rw [Hml.out]; exact hlt)
      have hoff := offR_succ hlt
      have htot : offR ll (k + 1) ≤ sizeR ll := offR_le (by omega) (Nat.le_refl _)
      have hcon := markInt64S_any _ _ (k0 + (offR ll k : Nat)) B _ hrow.1 (by omega) (by rw [Hle.out k hlt]; omega)
      rw [Hle.out k hlt, show k0 + (offR ll k : Nat) + ((rx ll k).length : Nat) = k0 + (offR ll (k + 1) : Nat) from by omega] at hcon
      have Hc := Lib.hid hcon
      have Hoff := Lib.hid hoff
      clear hcon hoff
      go_wp2_with fail
      refine Hc.out.mono ?_
      rintro e w1 ⟨rfl, ho1, hg1⟩
      go_wp2
      refine ⟨⟨k + 1, mm.set k (upFrom (k0 + (offR ll k : Nat)) (rx ll k).length), by omega, by go_num, rfl, ?_, by simpa using Hml.out, fun j hj => ?_, fun j hj => ?_, hch.grown hg1 fun r hr => ⟨k, hlt, hr⟩⟩, by simp [intOf]; omega⟩
      · have hml := Hml.out
        refine ⟨by simpa using ha.len, ?_, ha.lt, fun j hj => ?_, by simpa using ha.ne⟩
        · rw [List.length_set]
          exact owns_heap ha.own fun b hb => hg1.block b (ha.own.lt b hb).2 fun e => owns_ne ha.own hrow.1 row_type_ne hb e.symm
        · rw [List.length_set] at hj
          rw [rx_set (by omega)]
          by_cases e : j = k
          · subst e; rw [if_pos rfl]; exact ⟨ho1, hrow.2⟩
          · rw [if_neg e]
            have h3 := ha.row j hj
            exact h3.heap fun b hb => hg1.block b (h3.1.lt b hb).2 fun e2 => ha.ne j k hj (by omega) e b hb e2.symm
      · have hml := Hml.out
        rw [rx_set (by omega)]
        split
        · rename_i e; subst e; simp
        · exact Hle.out j hj
      · have hml := Hml.out
        rw [rx_set (by omega)]
        split
        · rename_i e; subst e; rfl
        · exact hm j (by omega)
    · obtain rfl : k = ll.length := by omega
      go_wp2
      go_ret
      have hmm : mm = markR k0 ll := rows_ext (by simpa using Hml.out) fun j hj => by
        rw [length_markR] at hj
        rw [rx_markR hj]; exact hm j hj
      subst hmm
      exact ⟨rfl, ha, hch⟩

set_option maxHeartbeats 400000 in
theorem heldInt64SS_any (v : Value) (ll : List (List Int)) (k0 : Int) (w : World) (hv : Rows w v (markR k0 ll)) (h0 : 0 ≤ k0) (h1 : k0 + sizeR ll ≤ 4611686018427387904) :
    Calls Try.prog 49 #[v, .int .i64 k0] w fun e w' => e = .returned (.int .i64 (k0 + sizeR ll)) ∧ ∃ q, w' = w.drewN q := by
  obtain ⟨f, hv, hf⟩ := hv
  obtain ⟨A, c, rfl, hlc, hcm, hA⟩ := hv
  rw [length_markR] at *
  go_enter Try.func49, Try.ntmps49
  go_wp2
  go_loopw [1, 5] (fun x i wr => ∃ k q : Nat, k ≤ ll.length ∧ i = .int .i64 k ∧ x = .int .i64 (k0 + (offR ll k : Nat)) ∧ wr = w.drewN q) (fun _ i _ => ll.length - (intOf i).toNat)
  case atStart => exact ⟨0, 0, Nat.zero_le _, rfl, by simp, rfl⟩
  case round =>
    obtain ⟨k, q, hk, rfl, rfl, rfl⟩ := hrel
    by_cases hlt : k < ll.length
    · obtain ⟨a1, rfl, hc1⟩ := hA k hlt
      have hoff := offR_succ hlt
      have htot : offR ll (k + 1) ≤ sizeR ll := offR_le (by omega) (Nat.le_refl _)
      have hfk := hf k hlt
      rw [rx_markR hlt] at hfk
      have hcon := heldInt64S_any (f k) (rx ll k).length (k0 + (offR ll k : Nat)) (w.drewN q) (hfk.kept (Kept.drewN _ _)) (by omega) (by omega)
      rw [show k0 + (offR ll k : Nat) + ((rx ll k).length : Nat) = k0 + (offR ll (k + 1) : Nat) from by omega] at hcon
      have Hc := Lib.hid hcon
      have hpos : ¬ k0 + (offR ll (k + 1) : Nat) < 0 := by omega
      clear hcon hoff hfk hf
      go_wp2_with (go_at_call 24; refine Hc.out.mono ?_; rintro e w' ⟨rfl, q2, rfl⟩)
      exact ⟨⟨k + 1, q + q2, by omega, by go_num, rfl, by simp⟩, by simp [intOf]; omega⟩
    · obtain rfl : k = ll.length := by omega
      go_wp2
      go_ret
      exact ⟨rfl, q, rfl⟩
end Go.Proofs.Ytpnophmanpfejaa

/- Arenas: read, and made by a call of its own; the walks of the laws' helpers on them. Conditions: the lengths. -/
namespace Go.Proofs.Ytpnophmanpfejaa
set_option linter.unusedSimpArgs false
set_option linter.unusedVariables false
open Go.RowKit

structure ArenaD where
  owner : List Int
  next : List (List Int)
  deriving DecidableEq

/-- v is an arena that reads as a. -/
def IsArena (w : World) (v : Value) (a : ArenaD) : Prop := ∃ o n, v = .agg #[o, n] ∧ Ints w o a.owner ∧ Rows w n a.next
theorem IsArena.kept {w w' : World} {v : Value} {a : ArenaD} (h : IsArena w v a) (hk : Kept w w') : IsArena w' v a := by
  obtain ⟨o, n, rfl, h1, h2⟩ := h
  exact ⟨o, n, rfl, h1.kept hk, h2.kept hk⟩
/-- .. of a call's own, from block B on and below C. -/
def OA (w : World) (B C : Nat) (v : Value) (a : ArenaD) : Prop :=
  ∃ o n vs, v = .agg #[o, n] ∧ OI w B C o a.owner ∧ RowsV w B C n vs a.next ∧ ∀ b, o.ownBlock = some b → ∀ k, k < a.next.length → (vx vs k).ownBlock ≠ some b
theorem OA.arena {w : World} {B C : Nat} {v : Value} {a : ArenaD} (h : OA w B C v a) : IsArena w v a := by
  obtain ⟨o, n, vs, rfl, h1, h2, _⟩ := h
  exact ⟨o, n, rfl, h1.ints, h2.rows⟩
theorem OA.kept {w w' : World} {B C B' C' : Nat} {v : Value} {a : ArenaD} (h : OA w B C v a) (ho : Only B' C' w w') (hd : C ≤ B' ∨ C' ≤ B) : OA w' B C v a := by
  obtain ⟨o, n, vs, rfl, h1, h2, h3⟩ := h
  exact ⟨o, n, vs, rfl, h1.kept ho hd, h2.kept ho hd, h3⟩
theorem OA.below {w w' : World} {B C : Nat} {v : Value} {a : ArenaD} (h : OA w B C v a) (hb : Below w.heap.size w w') : OA w' B C v a := h.kept (Only.of_below (B := C) (C := B) hb) (.inl (Nat.le_refl _))
theorem OA.mono {w : World} {B C B' C' : Nat} {v : Value} {a : ArenaD} (h : OA w B C v a) (hB : B' ≤ B) (hC : C ≤ C') : OA w B' C' v a := by
  obtain ⟨o, n, vs, rfl, h1, h2, h3⟩ := h
  exact ⟨o, n, vs, rfl, h1.mono hB hC, h2.mono hB hC, h3⟩

def sizeA (a : ArenaD) : Nat := a.owner.length + sizeR a.next
def bulkA (a : ArenaD) : Nat := a.owner.length + (a.next.length + sizeR a.next)

set_option maxHeartbeats 400000 in
theorem szArena_any (v : Value) (a : ArenaD) (left : Int) (w : World) (hv : IsArena w v a) (h0 : 0 ≤ left) (h1 : left ≤ 1048576) :
    Calls Try.prog 41 #[v, .int .i64 left] w fun e w' => e = .returned (.int .i64 (szLeft (bulkA a) left)) ∧ Below w.heap.size w w' := by
  obtain ⟨o, n, rfl, ho, hn⟩ := hv
  have hb : Below w.heap.size w (w.alloc (.cells #[o, n] 25)) := (Below.refl _ _).alloc (Nat.le_refl _) _
  have hc1 := szInt64S_any o a.owner left _ (ho.kept (Kept.of hb)) h0 h1
  by_cases g1 : (a.owner.length : Int) ≤ left
  · rw [szLeft_pos g1] at hc1
    have hc2 := szInt64SS_any n a.next (left - (a.owner.length : Nat)) _ (hn.kept (Kept.of hb)) (by omega) (by omega)
    rw [show bulkA a = a.owner.length + (a.next.length + sizeR a.next) from rfl, szLeft_add g1]
    have hpos1 : ¬ left - ((a.owner.length : Nat) : Int) < 0 := by omega
    have H1 := Lib.hid hc1
    by_cases g2 : ((a.next.length + sizeR a.next : Nat) : Int) ≤ left - (a.owner.length : Nat)
    · rw [szLeft_pos g2] at hc2 ⊢
      have hpos2 : ¬ left - ((a.owner.length : Nat) : Int) - ((a.next.length + sizeR a.next : Nat) : Int) < 0 := by omega
      have H2 := Lib.hid hc2
      clear hc1 hc2 g1 g2
      generalize left - ((a.owner.length : Nat) : Int) = r1 at *
      generalize r1 - ((a.next.length + sizeR a.next : Nat) : Int) = r at *
      go_enter Try.func41, Try.ntmps41
      go_wp2_with fail
      refine H1.out.mono ?_
      rintro e w' ⟨rfl, hw⟩
      subst w'
      go_wp2_with fail
      refine H2.out.mono ?_
      rintro e w' ⟨rfl, hw⟩
      subst w'
      go_wp2
      go_ret
      exact ⟨rfl, hb⟩
    · rw [szLeft_neg g2] at hc2 ⊢
      have H2 := Lib.hid hc2
      clear hc1 hc2 g1 g2
      generalize left - ((a.owner.length : Nat) : Int) = r1 at *
      go_enter Try.func41, Try.ntmps41
      go_wp2_with fail
      refine H1.out.mono ?_
      rintro e w' ⟨rfl, hw⟩
      subst w'
      go_wp2_with fail
      refine H2.out.mono ?_
      rintro e w' ⟨rfl, hw⟩
      subst w'
      go_wp2
      go_ret
      exact ⟨rfl, hb⟩
  · rw [szLeft_neg g1] at hc1
    rw [show bulkA a = a.owner.length + (a.next.length + sizeR a.next) from rfl, szLeft_none g1]
    have H1 := Lib.hid hc1
    clear hc1 g1
    go_enter Try.func41, Try.ntmps41
    go_wp2_with fail
    refine H1.out.mono ?_
    rintro e w' ⟨rfl, hw⟩
    subst w'
    go_wp2
    go_ret
    exact ⟨rfl, hb⟩

set_option maxHeartbeats 400000 in
theorem toArena_any (v : Value) (a : ArenaD) (w : World) (hv : IsArena w v a) (h1 : bulkA a ≤ 4194304) :
    Calls Try.prog 43 #[v] w fun e w' => ∃ u, e = .returned u ∧ OA w' w.heap.size w'.heap.size u a ∧ Below w.heap.size w w' := by
  obtain ⟨o, n, rfl, ho, hn⟩ := hv
  unfold bulkA at h1
  go_enter Try.func43, Try.ntmps43
  go_wp2_with fail
  have hb : Below w.heap.size w (((w.alloc (.cells #[o, n] 25)).alloc (.cells #[.slice none 0 0, .slice none 0 0] 30)).alloc (.cells #[.slice none 0 0, .slice none 0 0] 30)) :=
    (((Below.refl _ _).alloc (Nat.le_refl _) _).alloc (by simp) _).alloc (by simp; omega) _
  have hA : Arr (((w.alloc (.cells #[o, n] 25)).alloc (.cells #[.slice none 0 0, .slice none 0 0] 30)).alloc (.cells #[.slice none 0 0, .slice none 0 0] 30)) w.heap.size 25 [o, n] :=
    ((Arr.new w _ [o, n]).alloc _).alloc _
  have hO : Arr (((w.alloc (.cells #[o, n] 25)).alloc (.cells #[.slice none 0 0, .slice none 0 0] 30)).alloc (.cells #[.slice none 0 0, .slice none 0 0] 30)) (w.heap.size + 1) 30 [.slice none 0 0, .slice none 0 0] := by
    have := (Arr.new (w.alloc (.cells #[o, n] 25)) 30 [.slice none 0 0, .slice none 0 0]).alloc (.cells #[.slice none 0 0, .slice none 0 0] 30)
    simpa using this
  have hX : Arr (((w.alloc (.cells #[o, n] 25)).alloc (.cells #[.slice none 0 0, .slice none 0 0] 30)).alloc (.cells #[.slice none 0 0, .slice none 0 0] 30)) (w.heap.size + 1 + 1) 30 [.slice none 0 0, .slice none 0 0] := by
    have := Arr.new ((w.alloc (.cells #[o, n] 25)).alloc (.cells #[.slice none 0 0, .slice none 0 0] 30)) 30 [.slice none 0 0, .slice none 0 0]
    simpa using this
  generalize ((w.alloc (.cells #[o, n] 25)).alloc (.cells #[.slice none 0 0, .slice none 0 0] 30)).alloc (.cells #[.slice none 0 0, .slice none 0 0] 30) = W at *
  refine (toInt64S_any o a.owner _ (ho.kept (Kept.of hb)) (by omega)).mono ?_
  rintro e w1 ⟨u1, rfl, ho1, hb1⟩
  obtain ⟨A1, c1, rfl⟩ := ints_of_ret ho1
  replace hA := hA.below hb1 hA.lt
  replace hO := hO.below hb1 hO.lt
  have hXl := hX.lt
  replace hX := hX.below hb1 hX.lt
  have hx0 := hX.c0
  have hxf := hX.frozen 0
  have ha1 := hA.c1
  have hs1 := hb1.size
  have hbw1 : Below w.heap.size w w1 := hb.trans (hb1.mono hb.size)
  go_wp2_with fail
  have hX2 := hX.set_ 0 (.slice A1 a.owner.length c1)
  have hO2 := hO.far (p := ⟨w.heap.size + 1 + 1, 0, none⟩) (by simp) (.slice A1 a.owner.length c1)
  have hb2 := hbw1.setCell (p := ⟨w.heap.size + 1 + 1, 0, none⟩) (by simp; omega) (.slice A1 a.owner.length c1)
  have ho2 : OI (w1.setCell ⟨w.heap.size + 1 + 1, 0, none⟩ (.slice A1 a.owner.length c1)) W.heap.size w1.heap.size (.slice A1 a.owner.length c1) a.owner :=
    (OI.of ho1).heap fun b hbb => Below.heap_setCell _ _ _ _ (by have := (ho1.lt b hbb).1; intro he; subst he; simp at this; omega)
  have hs2 : (w1.setCell ⟨w.heap.size + 1 + 1, 0, none⟩ (.slice A1 a.owner.length c1)).heap.size = w1.heap.size := by simp
  clear hX hO ho1 hx0 hxf ha1 hA
  generalize w1.setCell ⟨w.heap.size + 1 + 1, 0, none⟩ (.slice A1 a.owner.length c1) = W2 at *
  refine (toInt64SS_any n a.next _ (hn.kept (Kept.of hb2)) (by omega) (fun k hk => by have := len_le_sizeR hk; omega)).mono ?_
  rintro e w3 ⟨u2, rfl, ⟨vs, hr3⟩, hb3⟩
  obtain ⟨A2, c2, rfl⟩ := hr3.form
  replace hX2 := hX2.below hb3 hX2.lt
  replace hO2 := hO2.below hb3 hO2.lt
  have ho3 := ho2.below hb3
  have hbw3 := hb2.trans (hb3.mono hb2.size)
  have hs3 := hb3.size
  have hx1 := hX2.c1
  have hx1f := hX2.frozen 1
  have hx0 := hX2.c0
  have ho0 := hO2.c0
  have ho1 := hO2.c1
  have ho0f := hO2.frozen 0
  have ho1f := hO2.frozen 1
  have Hs2 := Lib.hid hs2
  clear hs2
  go_wp2_with fail
  clear hx1 hx1f hx0 ho0 ho1 ho0f ho1f
  have hO5 := ((hO2.far (p := ⟨w.heap.size + 1 + 1, 1, none⟩) (by simp) (.slice A2 a.next.length c2)).set_ 0 (.slice A1 a.owner.length c1)).set_ 1 (.slice A2 a.next.length c2)
  have hbw5 := ((hbw3.setCell (p := ⟨w.heap.size + 1 + 1, 1, none⟩) (by simp; omega) (.slice A2 a.next.length c2)).setCell (p := ⟨w.heap.size + 1, 0, none⟩) (by simp) (.slice A1 a.owner.length c1)).setCell (p := ⟨w.heap.size + 1, 1, none⟩) (by simp) (.slice A2 a.next.length c2)
  have hch : ∀ b, W.heap.size ≤ b → (((w3.setCell ⟨w.heap.size + 1 + 1, 1, none⟩ (.slice A2 a.next.length c2)).setCell ⟨w.heap.size + 1, 0, none⟩ (.slice A1 a.owner.length c1)).setCell ⟨w.heap.size + 1, 1, none⟩ (.slice A2 a.next.length c2)).heap[b]? = w3.heap[b]? := fun b hb => by
    rw [Below.heap_setCell _ _ _ _ (by simp; omega), Below.heap_setCell _ _ _ _ (by simp; omega), Below.heap_setCell _ _ _ _ (by simp; omega)]
  have hsz : (((w3.setCell ⟨w.heap.size + 1 + 1, 1, none⟩ (.slice A2 a.next.length c2)).setCell ⟨w.heap.size + 1, 0, none⟩ (.slice A1 a.owner.length c1)).setCell ⟨w.heap.size + 1, 1, none⟩ (.slice A2 a.next.length c2)).heap.size = w3.heap.size := by simp
  generalize ((w3.setCell ⟨w.heap.size + 1 + 1, 1, none⟩ (.slice A2 a.next.length c2)).setCell ⟨w.heap.size + 1, 0, none⟩ (.slice A1 a.owner.length c1)).setCell ⟨w.heap.size + 1, 1, none⟩ (.slice A2 a.next.length c2) = W5 at *
  have q0 := hO5.c0
  have q1 := hO5.c1
  have hs2 := Hs2.out
  refine bodyPost_ret (v := .agg #[.slice A1 a.owner.length c1, .slice A2 a.next.length c2]) (by simp [results, Try.results43, go_sem, q0, q1]) rfl ⟨_, rfl, ⟨_, _, vs, rfl, ?_, ?_, ?_⟩, hbw5⟩
  · exact (ho3.mono (B' := w.heap.size) (C' := W5.heap.size) (by omega) (by omega)).heap fun b hb => hch b (ho3.1.lt b hb).1
  · refine ((hr3.mono (B' := w.heap.size) (C' := W5.heap.size) (by omega) (by omega)).heap ?_ ?_)
    · exact fun b hb => hch b (by have := (hr3.own.lt b hb).1; omega)
    · exact fun k hk b hb => hch b (by have := ((hr3.row k hk).1.lt b hb).1; omega)
  · intro b hb k hk hb2
    have h1 := ho3.2 b hb
    have h2 := ((hr3.row k hk).1.lt b hb2).1
    omega

set_option maxHeartbeats 400000 in
theorem eqArena_any (v u : Value) (a b : ArenaD) (w : World) (hv : IsArena w v a) (hu : IsArena w u b) :
    Calls Try.prog 46 #[v, u] w fun e w' => e = .returned (.bool (decide (a = b))) ∧ Below w.heap.size w w' := by
  obtain ⟨o, n, rfl, ho, hn⟩ := hv
  obtain ⟨o', n', rfl, ho', hn'⟩ := hu
  have hb : Below w.heap.size w ((w.alloc (.cells #[o, n] 30)).alloc (.cells #[o', n'] 30)) := ((Below.refl _ _).alloc (Nat.le_refl _) _).alloc (by simp) _
  have hc1 := eqInt64S_any o o' a.owner b.owner _ (ho.kept (Kept.of hb)) (ho'.kept (Kept.of hb))
  have hc2 := fun q => eqInt64SS_any n n' a.next b.next (((w.alloc (.cells #[o, n] 30)).alloc (.cells #[o', n'] 30)).drewN q) ((hn.kept (Kept.of hb)).kept (Kept.drewN _ _)) ((hn'.kept (Kept.of hb)).kept (Kept.drewN _ _))
  have H1 := Lib.hid hc1
  have H2 := Lib.hid hc2
  clear hc1 hc2
  have hab : decide (a = b) = (decide (a.owner = b.owner) && decide (a.next = b.next)) := by
    cases a; cases b; simp
  rw [hab]
  clear hab
  by_cases g1 : a.owner = b.owner
  · have hd1 : decide (a.owner = b.owner) = true := by simpa using g1
    clear g1
    by_cases g2 : a.next = b.next
    · have hd2 : decide (a.next = b.next) = true := by simpa using g2
      rw [hd1, hd2]
      clear g2
      go_enter Try.func46, Try.ntmps46
      go_wp2_with fail
      refine H1.out.mono ?_
      rintro e w' ⟨rfl, q, rfl⟩
      go_wp2_with fail
      refine (H2.out q).mono ?_
      rintro e w' ⟨rfl, q2, rfl⟩
      go_wp2
      go_ret
      exact ⟨rfl, by simpa using below_drewN hb _⟩
    · have hd2 : decide (a.next = b.next) = false := by simpa using g2
      rw [hd1, hd2]
      clear g2
      go_enter Try.func46, Try.ntmps46
      go_wp2_with fail
      refine H1.out.mono ?_
      rintro e w' ⟨rfl, q, rfl⟩
      go_wp2_with fail
      refine (H2.out q).mono ?_
      rintro e w' ⟨rfl, q2, rfl⟩
      go_wp2
      go_ret
      exact ⟨rfl, by simpa using below_drewN hb _⟩
  · have hd1 : decide (a.owner = b.owner) = false := by simpa using g1
    rw [hd1]
    clear g1
    go_enter Try.func46, Try.ntmps46
    go_wp2_with fail
    refine H1.out.mono ?_
    rintro e w' ⟨rfl, q, rfl⟩
    go_wp2
    go_ret
    exact ⟨rfl, below_drewN hb _⟩
end Go.Proofs.Ytpnophmanpfejaa

/- append of a whole slice to a row of the call's own; slices of slices that grow. Condition: the lengths are below 2^40. -/
namespace Go.Proofs.Ytpnophmanpfejaa
set_option linter.unusedSimpArgs false
set_option linter.unusedVariables false
open Go.RowKit

/-- The cells of a slice, as a list. -/
def cellsL (f : Nat → Value) (m : Nat) : List Value := (List.range m).map f
theorem length_cellsL (f : Nat → Value) (m : Nat) : (cellsL f m).length = m := by simp [cellsL]
theorem cellsL_ints (l : List Int) : cellsL (fun k => .int .i64 (ix l k)) l.length = l.map (Value.int .i64) := by
  apply List.ext_getElem (by simp [cellsL])
  intro k h1 h2
  have h3 : k < l.length := by simpa using h2
  simp [cellsL, ix, h3]
theorem cellsL_bools (l : List Bool) : cellsL (fun k => .bool (bx l k)) l.length = l.map Value.bool := by
  apply List.ext_getElem (by simp [cellsL])
  intro k h1 h2
  have h3 : k < l.length := by simpa using h2
  simp [cellsL, bx, h3]
theorem run_append_nothing {t ty e : TypeId} {z : Value} (E : Elem t e z) (w : World) (B : Nat) (v : Value) (n : Nat) (xs : List Value) (hown : w.ownsRow B e 1 v n xs) (c : Nat) :
    (Builtin.append_ #[t, t] ty #[v, .slice none 0 c]).run Try.prog w = .ok v w := by
  obtain ⟨i0, hi, hz0, hz1, hz2⟩ := E.hi
  rcases hown.2 with ⟨rfl, rfl⟩ | ⟨g, cap, cur, rfl, _, _, hnc, _⟩
  · simp [Builtin.append_, run_underlying E.ht, sizeOf, typeInfo, hi, Builtin.lenOf, Builtin.firstCells]
  · simp [Builtin.append_, run_underlying E.ht, sizeOf, typeInfo, hi, Builtin.lenOf, Builtin.firstCells, hnc, storeCells]
theorem run_append_all {t ty e : TypeId} {z : Value} (E : Elem t e z) (w : World) (B : Nat) (v : Value) (n : Nat) (xs : List Value) (hown : w.ownsRow B e 1 v n xs)
    (A : Option Addr) (m c : Nat) (f : Nat → Value) (hx : SlF w (.slice A m c) m f) (h1 : ∀ k, k < m → (f k).oneCell' = true) (hn : n + m ≤ 1099511627776) (hB : B ≤ w.heap.size) :
    ∃ v' w', (Builtin.append_ #[t, t] ty #[v, .slice A m c]).run Try.prog w = .ok v' w' ∧ w'.ownsRow B e 1 v' (n + m) (xs ++ cellsL f m) ∧ w.grownBy w' v.ownBlock ∧ (v'.ownBlock = v.ownBlock ∨ v'.ownBlock = some w.heap.size) := by
  obtain ⟨i0, hi, hz0, hz1, hz2⟩ := E.hi
  have hzs : z.cells.size = 1 := by rw [E.hz]; rfl
  rcases A with _ | ad
  · have hm : m = 0 := by
      rcases Nat.eq_zero_or_pos m with h0 | h0
      · exact h0
      · obtain ⟨ad, h, _⟩ := hx.at_ h0
        cases h
    subst hm
    exact ⟨v, w, run_append_nothing E w B v n xs hown c, by simpa [cellsL] using hown, World.grownBy.refl w _, .inl rfl⟩
  · have hcells : ∀ j u, (cellsL f m)[j]? = some u → w.cell? (ad.add j) = some u := by
      intro j u hu
      obtain ⟨hj, e⟩ := List.getElem?_eq_some_iff.1 hu
      rw [length_cellsL] at hj
      obtain ⟨ad', h, hc⟩ := hx.at_ hj
      have h' := Option.some.inj h
      subst h'
      rw [hc, ← e]
      simp [cellsL]
    have hone : ∀ u ∈ cellsL f m, u.oneCell' = true := by
      intro u hu
      simp only [cellsL, List.mem_map, List.mem_range] at hu
      obtain ⟨k, hk, rfl⟩ := hu
      exact h1 k hk
    have hb : (n + m) * i0.bytes ≤ 140737488355328 := by
      have : (n + m) * i0.bytes ≤ 1099511627776 * 24 := Nat.mul_le_mul hn hz2
      omega
    obtain ⟨v', w', hrun, h2, h3, _, h5⟩ := run_append_own_at (P := Try.prog) w B t ty e i0 z 1 i0.bytes E.ht hi hz0 hz1 rfl hzs (by omega) v n xs hown ad m c (cellsL f m) (by rw [length_cellsL]; omega) hcells hone (by unfold maxLen; omega) hb hB
    exact ⟨v', w', hrun, h2, h3, h5⟩
theorem wp_append_all {o : Oper} {a : Act} {K : Act → World → Prop} {Q : Exit → Act → World → Prop} {t e : TypeId} {z : Value} (E : Elem t e z) (w : World) (s x : Operand)
    (ho : o.op = .call { callee := .builtin .append, args := #[s, x], argTypes := #[t, t] }) (B : Nat) (v : Value) (n : Nat) (xs : List Value) (hs : a.eval s = v) (hown : w.ownsRow B e 1 v n xs)
    (A : Option Addr) (m c : Nat) (f : Nat → Value) (hxe : a.eval x = .slice A m c) (hx : SlF w (.slice A m c) m f) (h1 : ∀ k, k < m → (f k).oneCell' = true) (hn : n + m ≤ 1099511627776) (hB : B ≤ w.heap.size)
    (h : ∀ v' w', w'.ownsRow B e 1 v' (n + m) (xs ++ cellsL f m) → w.grownBy w' v.ownBlock → (v'.ownBlock = v.ownBlock ∨ v'.ownBlock = some w.heap.size) → K (a.put o.dst v') w') : o.wp Try.prog a w K Q := by
  obtain ⟨v', w', hrun, h2, h3, h4⟩ := run_append_all (ty := o.type) E w B v n xs hown A m c f hx h1 hn hB
  unfold Oper.wp execOp
  simp only [ho, resolve, invoke, builtin, Sem.run_bind, Sem.run_pure, Result.andThen_ok, List.map_toArray, List.map_cons, List.map_nil, hs, hxe, hrun]
  exact h v' w' h2 h3 h4
/-- 'append(s, x...)', s a row of int64s of the call's own. -/
theorem append_ints {ops : Array Oper} {rest : List Oper} {o : Oper} {a : Act} {Q : Exit → Act → World → Prop} (w : World) (hgd : o.guard = none) (s x : Operand)
    (ho : o.op = .call { callee := .builtin .append, args := #[s, x], argTypes := #[22, 22] }) (B : Nat) (v : Value) (l : List Int) (hs : a.eval s = v) (hown : OwnInts w B v l)
    (y : Value) (m : List Int) (hxe : a.eval x = y) (hx : Ints w y m) (hn : l.length + m.length ≤ 1099511627776) (hB : B ≤ w.heap.size)
    (h : ∀ v' w', OwnInts w' B v' (l ++ m) → Below B w w' → w.grownBy w' v.ownBlock → (v'.ownBlock = v.ownBlock ∨ v'.ownBlock = some w.heap.size) → wpList Try.prog ops Q rest (a.put o.dst v') w') :
    wpList Try.prog ops Q (o :: rest) a w := by
  obtain ⟨A, c, rfl, _⟩ := hx.form
  refine wpList_plain hgd fun _ hK => wp_append_all elem_int64 w s x ho B v l.length _ hs hown A m.length c _ hxe hx (fun _ _ => rfl) hn hB fun v' w' h2 h3 h4 => hK _ _ (h v' w' ?_ ((Below.refl _ _).grown h3 hB fun k hk => (hown.lt k hk).1) h3 h4)
  unfold OwnInts
  rw [List.map_append, List.length_append, ← cellsL_ints m]
  exact h2
/-- .. of bools. -/
theorem append_bools {ops : Array Oper} {rest : List Oper} {o : Oper} {a : Act} {Q : Exit → Act → World → Prop} {t e : TypeId} (E : Elem t e (.bool false)) (w : World) (hgd : o.guard = none) (s x : Operand)
    (ho : o.op = .call { callee := .builtin .append, args := #[s, x], argTypes := #[t, t] }) (B : Nat) (v : Value) (l : List Bool) (hs : a.eval s = v) (hown : w.ownsRow B e 1 v l.length (l.map Value.bool))
    (y : Value) (m : List Bool) (hxe : a.eval x = y) (hx : Bools w y m) (hn : l.length + m.length ≤ 1099511627776) (hB : B ≤ w.heap.size)
    (h : ∀ v' w', w'.ownsRow B e 1 v' (l ++ m).length ((l ++ m).map Value.bool) → Below B w w' → w.grownBy w' v.ownBlock → (v'.ownBlock = v.ownBlock ∨ v'.ownBlock = some w.heap.size) → wpList Try.prog ops Q rest (a.put o.dst v') w') :
    wpList Try.prog ops Q (o :: rest) a w := by
  have hx0 := hx
  obtain ⟨A, c, rfl, _⟩ := hx0
  refine wpList_plain hgd fun _ hK => wp_append_all E w s x ho B v l.length _ hs hown A m.length c _ hxe hx (fun _ _ => rfl) hn hB fun v' w' h2 h3 h4 => hK _ _ (h v' w' ?_ ((Below.refl _ _).grown h3 hB fun k hk => (hown.lt k hk).1) h3 h4)
  rw [List.map_append, List.length_append, ← cellsL_bools m]
  exact h2
/-- .. as one step of a region that draws. -/
theorem step_append_ints {ops : Array Oper} {o : Oper} {a : Act} {K : Act → World → Prop} {Q : Exit → Act → World → Prop} {E : Prop} (w : World) (hgd : o.guard = none) (s x : Operand)
    (ho : o.op = .call { callee := .builtin .append, args := #[s, x], argTypes := #[22, 22] }) (B : Nat) (v : Value) (l : List Int) (hs : a.eval s = v) (hown : OwnInts w B v l)
    (y : Value) (m : List Int) (hxe : a.eval x = y) (hx : Ints w y m) (hn : l.length + m.length ≤ 1099511627776) (hB : B ≤ w.heap.size)
    (h : ∀ v' w', OwnInts w' B v' (l ++ m) → Below B w w' → w.grownBy w' v.ownBlock → (v'.ownBlock = v.ownBlock ∨ v'.ownBlock = some w.heap.size) → K (a.put o.dst v') w') :
    if Region.wanted o (yielded ops a.tmps) = true then Oper.wp Try.prog o a w K Q else E := by
  have hw : Region.wanted o (yielded ops a.tmps) = true := by simp [Region.wanted, hgd]
  rw [if_pos hw]
  obtain ⟨A, c, rfl, _⟩ := hx.form
  refine wp_append_all elem_int64 w s x ho B v l.length _ hs hown A m.length c _ hxe hx (fun _ _ => rfl) hn hB fun v' w' h2 h3 h4 => h v' w' ?_ ((Below.refl _ _).grown h3 hB fun k hk => (hown.lt k hk).1) h3 h4
  unfold OwnInts
  rw [List.map_append, List.length_append, ← cellsL_ints m]
  exact h2

/-- 'append(s, y)', y one value, as one step of a region that draws. -/
theorem step_append_one {ops : Array Oper} {o : Oper} {a : Act} {K : Act → World → Prop} {Q : Exit → Act → World → Prop} {F : Prop} {t e : TypeId} {z : Value} (E : Elem t e z) (w0 : World) (hgd : o.guard = none) (s x : Operand)
    (ho : o.op = .call { callee := .builtin .append, args := #[s, x], argTypes := #[t, t] })
    (B : Nat) (v : Value) (n : Nat) (xs : List Value) (hs : a.eval s = v) (hown : w0.ownsRow B e 1 v n xs) (y : Value) (hy : y.oneCell' = true)
    (hx : a.eval x = .slice (some ⟨w0.heap.size, 0, none⟩) 1 1) (hn : n ≤ 1048576) (hB : B ≤ w0.heap.size)
    (h : ∀ v' w', w'.ownsRow B e 1 v' (n + 1) (xs ++ [y]) → w0.grownBy w' v.ownBlock → (v'.ownBlock = v.ownBlock ∨ v'.ownBlock = some (w0.heap.size + 1)) → K (a.put o.dst v') w') :
    if Region.wanted o (yielded ops a.tmps) = true then Oper.wp Try.prog o a (w0.alloc (.cells #[y] e)) K Q else F := by
  have hw : Region.wanted o (yielded ops a.tmps) = true := by simp [Region.wanted, hgd]
  rw [if_pos hw]
  have hsl : SlF (w0.alloc (.cells #[y] e)) (.slice (some ⟨w0.heap.size, 0, none⟩) 1 1) 1 (fun _ => y) :=
    ⟨_, 1, rfl, Nat.le_refl _, by omega, fun k hk => ⟨_, rfl, by
      obtain rfl : k = 0 := by omega
      exact cell_one_new w0 y e 0 y rfl⟩⟩
  refine wp_append_all E (w0.alloc (.cells #[y] e)) s x ho B v n xs hs (hown.alloc _) (some ⟨w0.heap.size, 0, none⟩) 1 1 (fun _ => y) hx hsl (fun _ _ => hy) (by omega) (by simp; omega) fun v' w' h2 h3 h4 => h v' w' ?_ ?_ (by simpa using h4)
  · simpa [cellsL] using h2
  · exact ⟨h3.os, h3.tape, h3.output, by have := h3.size; simp at this; omega, fun k hk hne => (h3.block k (by simp; omega) hne).trans (Below.heap_alloc w0 _ k hk)⟩

theorem ione_new (w : World) (x : Int) : IArr (w.alloc (.cells #[.int .i64 x] 2)) w.heap.size [x] := Arr.new w _ _
theorem IArr.below' {w w' : World} {B g : Nat} {l : List Int} (h : IArr w g l) (hb : Below B w w') (hg : g < B) : IArr w' g l := Arr.below h hb hg
theorem IArr.heap' {w w' : World} {g : Nat} {l : List Int} (h : IArr w g l) (hh : w'.heap[g]? = w.heap[g]?) : IArr w' g l := Eq.trans hh h
theorem IArr.one_ints {w : World} {g : Nat} {x : Int} (h : IArr w g [x]) : Ints w (.slice (some ⟨g, 0, none⟩) 1 1) [x] := (IArr.own (B := 0) h (Nat.zero_le _) (by simp)).ints
theorem OwnInts.drew {w : World} {B : Nat} {v : Value} {l : List Int} (h : OwnInts w B v l) : OwnInts w.drew B v l := h

/-- A slice of slices that gets one row more. -/
theorem RowsV.snoc {w w' : World} {B C C' : Nat} {v v' y : Value} {vs : List Value} {ll : List (List Int)} {l : List Int} (h : RowsV w B C v vs ll) (hy : OI w B C y l)
    (hne : ∀ k, k < ll.length → ∀ b, (vx vs k).ownBlock = some b → y.ownBlock ≠ some b) (hown : w'.ownsRow B 22 1 v' (ll.length + 1) (vs ++ [y])) (hg : w.grownBy w' v.ownBlock)
    (hC : C ≤ C') (hC' : w'.heap.size ≤ C') : RowsV w' B C' v' (vs ++ [y]) (ll ++ [l]) := by
  have hl := h.len
  have hvx : ∀ k, k < ll.length → vx (vs ++ [y]) k = vx vs k := fun k hk => by
    rw [vx_lt (by simp; omega), vx_lt (by omega), List.getElem_append_left (by omega)]
  have hvy : vx (vs ++ [y]) ll.length = y := by
    rw [vx_lt (by simp; omega), List.getElem_append_right (by omega)]; simp [hl]
  have hrx : ∀ k, k < ll.length → rx (ll ++ [l]) k = rx ll k := fun k hk => by
    rw [rx_lt (by simp; omega), rx_lt hk, List.getElem_append_left hk]
  have hry : rx (ll ++ [l]) ll.length = l := by rw [rx_lt (by simp)]; simp
  have hrow : ∀ k, k < ll.length + 1 → OI w' B C' (vx (vs ++ [y]) k) (rx (ll ++ [l]) k) := fun k hk => by
    by_cases e : k = ll.length
    · subst e
      rw [hvy, hry]
      exact (hy.heap fun b hb => hg.block b (hy.1.lt b hb).2 fun e => owns_ne h.own hy.1 row_type_ne e.symm hb).mono (Nat.le_refl _) hC
    · rw [hvx k (by omega), hrx k (by omega)]
      have hr := h.row k (by omega)
      exact (hr.heap fun b hb => hg.block b (hr.1.lt b hb).2 fun e => owns_ne h.own hr.1 row_type_ne e.symm hb).mono (Nat.le_refl _) hC
  refine ⟨by simp [hl], by simpa using hown, fun b hb => Nat.lt_of_lt_of_le (hown.lt b hb).2 hC', fun k hk => hrow k (by simpa using hk), fun i j hi hj hij b hb => ?_⟩
  rw [List.length_append, List.length_singleton] at hi hj
  by_cases ei : i = ll.length
  · subst ei
    rw [hvy] at hb
    rw [hvx j (by omega)]
    intro hb2
    exact hne j (by omega) b hb2 hb
  · rw [hvx i (by omega)] at hb
    by_cases ej : j = ll.length
    · subst ej
      rw [hvy]
      exact hne i (by omega) b hb
    · rw [hvx j (by omega)]
      exact h.ne i j (by omega) (by omega) hij b hb
/-- '[][]int64{}'. -/
theorem new_rows (w : World) : RowsV (w.alloc (.cells #[] 22)) w.heap.size (w.alloc (.cells #[] 22)).heap.size (.slice (some ⟨w.heap.size, 0, none⟩) 0 0) [] [] ∧ Below w.heap.size w (w.alloc (.cells #[] 22)) :=
  ⟨⟨rfl, World.ownsRow_lit w #[] 0 (Nat.le_refl _) (by simp [maxLen]) (by simp), fun b hb => by simp [Value.ownBlock] at hb; subst hb; simp, fun k hk => by simp at hk, fun i j hi => by simp at hi⟩, (Below.refl _ _).alloc (Nat.le_refl _) _⟩
theorem nil_rows (w : World) (B C : Nat) : RowsV w B C (.slice none 0 0) [] [] :=
  ⟨rfl, World.ownsRow_nil w B _ 1, fun b hb => by simp [Value.ownBlock] at hb, fun k hk => by simp at hk, fun i j hi => by simp at hi⟩

def RetRows (w : World) (l : List (List Int)) (e : Ending) (w' : World) : Prop := ∃ u, e = .returned u ∧ ORw w' w.heap.size w'.heap.size u l ∧ Below w.heap.size w w'
theorem RetRows.mk' {w w' : World} {l : List (List Int)} {u : Value} (h1 : ORw w' w.heap.size w'.heap.size u l) (h2 : Below w.heap.size w w') : RetRows w l (.returned u) w' := ⟨u, rfl, h1, h2⟩
end Go.Proofs.Ytpnophmanpfejaa

/- How an argument that reads as data is opened into the words of Mem. -/
namespace Go.Proofs.Ytpnophmanpfejaa
set_option linter.unusedSimpArgs false
set_option linter.unusedVariables false
open Go.ChangeShapes Go.WideShapes Go.ChangeAt Go.RowKit

set_option maxRecDepth 100000 in
theorem own : ownKnob Try.prog.godebug = none := by kernel_rfl
set_option maxRecDepth 100000 in
theorem laidOut : laidOutB Try.prog = true := by kernel_rfl

section
variable {H : Type} {enc : TypeId × Value → H} {W : World} {base : Nat}

set_option maxRecDepth 100000 in
theorem ints_of_trod {r : Reach} {b0 : Nat} {spare : Nat → Bool} {held : Bool} {v : Value} {d : DataW H} {p : List MemPlace} (hv : Value.okWide Try.prog W r b0 22 v) (h : DataW.Trod enc Try.prog W base spare held 22 v d p) :
    ∃ l, Ints W v l := by
  obtain ⟨a0, len0, cap0, rfl⟩ := okWide_slice Try.underlying22 hv
  obtain ⟨fuel, hf⟩ := h
  rcases open_ints Try.underlying22 Try.underlying2 (by kernel_rfl) hf with ⟨hcs, _⟩ | ⟨x, l, c, zs, hcs, _, hl, hm, hz, _, hcell, hwz⟩
  · simp [Value.cells] at hcs
    obtain ⟨rfl, rfl, rfl⟩ := hcs
    exact ⟨[], none, 0, rfl, Nat.le_refl _, by omega, fun k hk => absurd hk (Nat.not_lt_zero _)⟩
  · simp [Value.cells] at hcs
    obtain ⟨rfl, rfl, rfl⟩ := hcs
    have hz' : len0 ≤ zs.length := by rw [hz]; split <;> omega
    have hlen : (zs.take len0).length = len0 := by simp only [List.length_take]; omega
    refine ⟨zs.take len0, some x, cap0, by rw [hlen], by rw [hlen]; exact hl, by unfold maxLen at hm; omega, fun k hk => ⟨x, rfl, ?_⟩⟩
    rw [hlen] at hk
    rw [hcell k (by omega)]
    have : ix (zs.take len0) k = zs.getD k 0 := by simp [ix, hk]
    simp only [this]
end
end Go.Proofs.Ytpnophmanpfejaa
