/- The words in which the contracts of this seat speak of memory: slices that read as lists, arrays that a call made. Plain definitions and lemmas, no condition. -/
import Derived.WalkKit
import Derived.Below
import Derived.Laws.OwnMore
import Derived.Laws.Rows
import Derived.Deep.Draws
import Derived.Deep.AppendLies
import Derived.Lib.Hide
import Derived.Laws.MakeOwn
import Derived.Laws.Entries
import Derived.Deep.QuietTactic
namespace Go.Proofs.Ytpnophmanpfejaa
set_option linter.unusedSimpArgs false
set_option linter.unusedVariables false
open Go.RowKit

/-- The k-th number of a list, 0 beyond it. -/
def ix (l : List Int) (k : Nat) : Int := l.getD k 0
def bx (l : List Bool) (k : Nat) : Bool := l.getD k false
def rx (l : List (List Int)) (k : Nat) : List Int := l.getD k []

theorem ix_lt {l : List Int} {k : Nat} (h : k < l.length) : ix l k = l[k] := by simp [ix, h]
theorem bx_lt {l : List Bool} {k : Nat} (h : k < l.length) : bx l k = l[k] := by simp [bx, h]
theorem rx_lt {l : List (List Int)} {k : Nat} (h : k < l.length) : rx l k = l[k] := by simp [rx, h]

theorem add_head (g k : Nat) : (⟨g, 0, none⟩ : Addr).add k = ⟨g, k, none⟩ := by
  unfold Addr.add
  by_cases h : k = 0
  · subst h; rfl
  · rw [if_neg h]; simp
theorem block_of_add (a : Addr) (n : Nat) : (a.add n).block = a.block := by unfold Addr.add; split <;> rfl

/-- v is a slice of n cells, and the k-th cell holds f k. -/
def SlF (w : World) (v : Value) (n : Nat) (f : Nat → Value) : Prop :=
  ∃ A c, v = .slice A n c ∧ n ≤ c ∧ c ≤ 9223372036854775807 ∧ ∀ k, k < n → ∃ ad, A = some ad ∧ w.cell? (ad.add k) = some (f k)

/-- What was there in w is there in w'. -/
def Kept (w w' : World) : Prop := ∀ p : Addr, p.block < w.heap.size → w'.cell? p = w.cell? p

theorem Kept.refl (w : World) : Kept w w := fun _ _ => rfl
theorem Kept.of {w w' : World} (h : Below w.heap.size w w') : Kept w w' := fun _ hp => h.cell hp
theorem Kept.drewN (w : World) (q : Nat) : Kept w (w.drewN q) := fun _ _ => rfl
theorem Kept.trans {a b c : World} (h : Kept a b) (k : Kept b c) (hs : a.heap.size ≤ b.heap.size) : Kept a c := fun p hp => (k p (Nat.lt_of_lt_of_le hp hs)).trans (h p hp)
theorem Kept.at {B : Nat} {w0 w w' : World} (h : Below B w w') (hB : w0.heap.size ≤ B) (h0 : Kept w0 w) : Kept w0 w' := fun p hp => (h.cell (Nat.lt_of_lt_of_le hp hB)).trans (h0 p hp)
theorem Kept.cell {w w' : World} (h : Kept w w') {p : Addr} {v : Value} (hc : w.cell? p = some v) : w'.cell? p = some v := (h p (World.block_lt_of_cell? w p hc)).trans hc

theorem SlF.kept {w w' : World} {v : Value} {n : Nat} {f : Nat → Value} (h : SlF w v n f) (hk : Kept w w') : SlF w' v n f := by
  obtain ⟨A, c, h1, h2, h3, h4⟩ := h
  refine ⟨A, c, h1, h2, h3, fun k hkn => ?_⟩
  obtain ⟨ad, e, hc⟩ := h4 k hkn
  exact ⟨ad, e, hk.cell hc⟩

theorem SlF.congr {w : World} {v : Value} {n : Nat} {f g : Nat → Value} (h : SlF w v n f) (hfg : ∀ k, k < n → f k = g k) : SlF w v n g := by
  obtain ⟨A, c, h1, h2, h3, h4⟩ := h
  refine ⟨A, c, h1, h2, h3, fun k hkn => ?_⟩
  obtain ⟨ad, e, hc⟩ := h4 k hkn
  exact ⟨ad, e, by rw [hc, hfg k hkn]⟩

theorem SlF.at_ {w : World} {A : Option Addr} {n c k : Nat} {f : Nat → Value} (h : SlF w (.slice A n c) n f) (hk : k < n) : ∃ ad, A = some ad ∧ w.cell? (ad.add k) = some (f k) := by
  obtain ⟨A', c', he, _, _, h4⟩ := h
  injection he with h1
  subst h1
  exact h4 k hk

def Ints (w : World) (v : Value) (l : List Int) : Prop := SlF w v l.length (fun k => .int .i64 (ix l k))
def Bools (w : World) (v : Value) (l : List Bool) : Prop := SlF w v l.length (fun k => .bool (bx l k))
def Rows (w : World) (v : Value) (l : List (List Int)) : Prop := ∃ f, SlF w v l.length f ∧ ∀ k, k < l.length → Ints w (f k) (rx l k)

theorem Ints.kept {w w' : World} {v : Value} {l : List Int} (h : Ints w v l) (hk : Kept w w') : Ints w' v l := SlF.kept h hk
theorem Bools.kept {w w' : World} {v : Value} {l : List Bool} (h : Bools w v l) (hk : Kept w w') : Bools w' v l := SlF.kept h hk
theorem Rows.kept {w w' : World} {v : Value} {l : List (List Int)} (h : Rows w v l) (hk : Kept w w') : Rows w' v l := by
  obtain ⟨f, h1, h2⟩ := h
  exact ⟨f, h1.kept hk, fun k hkn => (h2 k hkn).kept hk⟩

theorem Rows.form {w : World} {v : Value} {ll : List (List Int)} (h : Rows w v ll) : ∃ A c, v = .slice A ll.length c ∧ ll.length ≤ c ∧ c ≤ 9223372036854775807 := by
  obtain ⟨f, ⟨A, c, h1, h2, h3, _⟩, _⟩ := h
  exact ⟨A, c, h1, h2, h3⟩
theorem Rows.at_ {w : World} {A : Option Addr} {n c k : Nat} {ll : List (List Int)} (h : Rows w (.slice A n c) ll) (hk : k < ll.length) :
    ∃ ad A2 c2, A = some ad ∧ w.cell? (ad.add k) = some (.slice A2 (rx ll k).length c2) ∧ Ints w (.slice A2 (rx ll k).length c2) (rx ll k) := by
  obtain ⟨f, h1, h2⟩ := h
  obtain ⟨A', c', he, _, _, h4⟩ := h1
  injection he with h5
  subst h5
  obtain ⟨ad, e, hc⟩ := h4 k hk
  obtain ⟨A2, c2, h6, _⟩ := id (h2 k hk)
  refine ⟨ad, A2, c2, e, ?_, ?_⟩
  · rw [hc, h6]
  · rw [← h6]; exact h2 k hk
theorem Ints.form {w : World} {v : Value} {l : List Int} (h : Ints w v l) : ∃ A c, v = .slice A l.length c ∧ l.length ≤ c ∧ c ≤ 9223372036854775807 := by
  obtain ⟨A, c, h1, h2, h3, _⟩ := h
  exact ⟨A, c, h1, h2, h3⟩
theorem Ints.at_ {w : World} {A : Option Addr} {n c k : Nat} {l : List Int} (h : Ints w (.slice A n c) l) (hk : k < l.length) : ∃ ad, A = some ad ∧ w.cell? (ad.add k) = some (.int .i64 (ix l k)) := by
  obtain ⟨A', c', he, _, _, h4⟩ := h
  injection he with h1
  subst h1
  exact h4 k hk

/-- A row of the call's own reads as what it holds. -/
theorem SlF.of_own {w : World} {base n : Nat} {e : TypeId} {v : Value} {xs : List Value} (h : w.ownsRow base e 1 v n xs) : SlF w v n (fun k => xs.getD k undef) := by
  have hl : xs.length = n := by have := h.1; omega
  rcases h.2 with ⟨rfl, rfl⟩ | ⟨g, cap, cur, rfl, _, hg, hnc, hcm, _⟩
  · exact ⟨none, 0, rfl, by omega, by omega, fun k hk => by omega⟩
  · refine ⟨_, cap, rfl, hnc, by unfold maxLen at hcm; omega, fun k hk => ⟨_, rfl, ?_⟩⟩
    have hk' : k < xs.length := by omega
    exact h.cells (g := g) rfl k _ (by simp [hk'])

/-- v is a row of int64s of the call's own, from block B on, that holds l. -/
def OwnInts (w : World) (B : Nat) (v : Value) (l : List Int) : Prop := w.ownsRow B 2 1 v l.length (l.map (Value.int .i64))

theorem OwnInts.ints {w : World} {B : Nat} {v : Value} {l : List Int} (h : OwnInts w B v l) : Ints w v l :=
  (SlF.of_own h).congr fun k hk => by simp [ix, hk]

/-- k, k + 1, .., n of them. -/
def upFrom (k : Int) (n : Nat) : List Int := (List.range n).map fun (i : Nat) => k + (i : Int)
@[simp] theorem length_upFrom (k : Int) (n : Nat) : (upFrom k n).length = n := by simp [upFrom]
theorem ix_upFrom {k : Int} {n i : Nat} (h : i < n) : ix (upFrom k n) i = k + (i : Int) := by simp [ix, upFrom, h]

/-- n times the same value. -/
def zeros (z : Value) (n : Nat) : List Value := List.replicate n z

/-- Block g is an array of the call's own that holds just xs. -/
def Arr (w : World) (g : Nat) (e : TypeId) (xs : List Value) : Prop := w.heap[g]? = some (.cells xs.toArray e (0, 0))

theorem Arr.lt {w : World} {g : Nat} {e : TypeId} {xs : List Value} (h : Arr w g e xs) : g < w.heap.size := (Array.getElem?_eq_some_iff.1 h).1
theorem Arr.cell {w : World} {g : Nat} {e : TypeId} {xs : List Value} (h : Arr w g e xs) {k : Nat} (hk : k < xs.length) : w.cell? ⟨g, k, none⟩ = some xs[k] := by
  rw [cell_of_row w g k _ e (0, 0) h]; simp [hk]
theorem Arr.frozen {w : World} {g : Nat} {e : TypeId} {xs : List Value} (h : Arr w g e xs) (k : Nat) : w.frozen? ⟨g, k, none⟩ = false := frozen_of_row w g k _ e h
theorem Arr.set_ {w : World} {g : Nat} {e : TypeId} {xs : List Value} (h : Arr w g e xs) (k : Nat) (u : Value) : Arr (w.setCell ⟨g, k, none⟩ u) g e (xs.set k u) := by
  have := heap_setCell_same w g k xs.toArray e u h
  rw [List.setIfInBounds_toArray] at this
  exact this
theorem Arr.far {w : World} {g : Nat} {e : TypeId} {xs : List Value} (h : Arr w g e xs) {p : Addr} (hp : g ≠ p.block) (u : Value) : Arr (w.setCell p u) g e xs := (heap_setCell_other w p g u hp).trans h
theorem Arr.alloc {w : World} {g : Nat} {e : TypeId} {xs : List Value} (h : Arr w g e xs) (o : Obj) : Arr (w.alloc o) g e xs := (Below.heap_alloc w o g h.lt).trans h
theorem Arr.below {w w' : World} {B g : Nat} {e : TypeId} {xs : List Value} (h : Arr w g e xs) (hb : Below B w w') (hg : g < B) : Arr w' g e xs := (hb.block g hg).trans h
theorem Arr.drewN {w : World} {g : Nat} {e : TypeId} {xs : List Value} (h : Arr w g e xs) (n : Nat) : Arr (w.drewN n) g e xs := h
theorem Arr.new (w : World) (e : TypeId) (xs : List Value) : Arr (w.alloc (.cells xs.toArray e)) w.heap.size e xs := heap_alloc_new w _
theorem Arr.own {w : World} {g n B : Nat} {e : TypeId} {xs : List Value} (h : Arr w g e xs) (hB : B ≤ g) (hn : xs.length = n) (hm : n ≤ 4611686018427387904) : w.ownsRow B e 1 (.slice (some ⟨g, 0, none⟩) n n) n xs :=
  ⟨by omega, .inr ⟨g, n, _, rfl, hB, h, Nat.le_refl _, by unfold maxLen; omega, by simpa using hn, by subst hn; simp⟩⟩

theorem Arr.c0 {w : World} {g : Nat} {e : TypeId} {x : Value} {xs : List Value} (h : Arr w g e (x :: xs)) : w.cell? ⟨g, 0, none⟩ = some x := h.cell (k := 0) (by simp)
theorem Arr.c1 {w : World} {g : Nat} {e : TypeId} {x y : Value} {xs : List Value} (h : Arr w g e (x :: y :: xs)) : w.cell? ⟨g, 1, none⟩ = some y := h.cell (k := 1) (by simp)
theorem Arr.c2 {w : World} {g : Nat} {e : TypeId} {x y z : Value} {xs : List Value} (h : Arr w g e (x :: y :: z :: xs)) : w.cell? ⟨g, 2, none⟩ = some z := h.cell (k := 2) (by simp)

/-- make([]T, n): a new array of n zero values. -/
theorem run_make_zeros {P : Program} (t e : TypeId) (i : TypeInfo) (z : Value) (ht : P.underlying t = some (.slice e)) (hi : P.info? e = some i) (hz : i.zero = some z) (hs : i.size = 1) (hzc : z.cells = #[z]) (hb : i.bytes ≤ 24)
    (n : Nat) (hn : n ≤ 1099511627776) (w : World) :
    (Instr.makeSlice t (.int .i64 (n : Int)) (.int .i64 (n : Int))).run P w = .ok (.slice (some ⟨w.heap.size, 0, none⟩) n n) (w.alloc (.cells (zeros z n).toArray e)) := by
  have hb1 : i.bytes * n ≤ 24 * 1099511627776 := Nat.mul_le_mul hb hn
  have hb' : (i.bytes : Int) * (n : Int) ≤ 281474976710656 := by
    have h : ((i.bytes * n : Nat) : Int) ≤ 281474976710656 := by omega
    rwa [Int.natCast_mul] at h
  have hr := run_make (P := P) w t e i z ht hi hz .i64 .i64 n n (by omega) (by omega) hb' (by omega)
  simp only [Int.toNat_natCast] at hr
  rw [hr, hs, hzc]
  have : madeCells #[z] (n * 1) = (zeros z n).toArray := by
    rw [← Array.toList_inj, Nat.mul_one, toList_madeCells_one]; rfl
  rw [this]

def IArr (w : World) (g : Nat) (l : List Int) : Prop := Arr w g 2 (l.map (Value.int .i64))
theorem IArr.cell {w : World} {g : Nat} {l : List Int} (h : IArr w g l) {k : Nat} (hk : k < l.length) : w.cell? ⟨g, k, none⟩ = some (.int .i64 (ix l k)) := by
  have := Arr.cell h (k := k) (by simpa using hk)
  simpa [ix, hk] using this
theorem IArr.frozen {w : World} {g : Nat} {l : List Int} (h : IArr w g l) (k : Nat) : w.frozen? ⟨g, k, none⟩ = false := Arr.frozen h k
theorem IArr.set_ {w : World} {g : Nat} {l : List Int} (h : IArr w g l) (k : Nat) (x : Int) : IArr (w.setCell ⟨g, k, none⟩ (.int .i64 x)) g (l.set k x) := by
  have := Arr.set_ h k (.int .i64 x)
  unfold IArr
  rwa [List.map_set]
theorem IArr.own {w : World} {g B : Nat} {l : List Int} (h : IArr w g l) (hB : B ≤ g) (hm : l.length ≤ 4611686018427387904) : OwnInts w B (.slice (some ⟨g, 0, none⟩) l.length l.length) l :=
  Arr.own h hB (by simp) hm
theorem ix_set {l : List Int} {k j : Nat} {x : Int} (hk : k < l.length) : ix (l.set k x) j = if j = k then x else ix l j := by
  unfold ix
  by_cases h : j = k
  · subst h; simp [hk]
  · simp [h, Ne.symm h]
theorem ix_zeros {n k : Nat} : ix (List.replicate n 0) k = 0 := by
  unfold ix
  by_cases h : k < n <;> simp [h]

theorem int_range_ext {l m : List Int} (hl : l.length = m.length) (h : ∀ j, j < m.length → ix l j = ix m j) : l = m := by
  apply List.ext_getElem hl
  intro j h1 h2
  have := h j h2
  rwa [ix_lt h1, ix_lt h2] at this

theorem OwnInts.form {w : World} {B : Nat} {v : Value} {l : List Int} (h : OwnInts w B v l) : (v = .slice none 0 0 ∧ l = []) ∨ ∃ g cap, v = .slice (some ⟨g, 0, none⟩) l.length cap ∧ B ≤ g ∧ g < w.heap.size ∧ l.length ≤ cap ∧ cap ≤ 9223372036854775807 := by
  rcases h.2 with ⟨rfl, h2⟩ | ⟨g, cap, cur, rfl, hB, hg, hnc, hcm, _⟩
  · exact .inl ⟨rfl, List.eq_nil_of_length_eq_zero h2⟩
  · exact .inr ⟨g, cap, rfl, hB, (Array.getElem?_eq_some_iff.1 hg).1, hnc, by unfold maxLen at hcm; omega⟩
theorem OwnInts.cell {w : World} {B g n cap : Nat} {l : List Int} (h : OwnInts w B (.slice (some ⟨g, 0, none⟩) n cap) l) {k : Nat} (hk : k < l.length) : w.cell? ⟨g, k, none⟩ = some (.int .i64 (ix l k)) := by
  obtain ⟨ad, e, hc⟩ := (OwnInts.ints h).choose_spec.choose_spec.2.2.2 k hk
  have he := (OwnInts.ints h).choose_spec.choose_spec.1
  injection he with h1
  rw [← h1] at e
  injection e with e
  subst e
  rwa [add_head] at hc
theorem OwnInts.frozen {w : World} {B g cap : Nat} {l : List Int} (h : OwnInts w B (.slice (some ⟨g, 0, none⟩) l.length cap) l) (k : Nat) : w.frozen? ⟨g, k, none⟩ = false := World.ownsRow.frozenAt h k
theorem OwnInts.set_ {w : World} {B g cap : Nat} {l : List Int} (h : OwnInts w B (.slice (some ⟨g, 0, none⟩) l.length cap) l) (k : Nat) (x : Int) :
    OwnInts (w.setCell ⟨g, k, none⟩ (.int .i64 x)) B (.slice (some ⟨g, 0, none⟩) l.length cap) (l.set k x) ∧ w.grownBy (w.setCell ⟨g, k, none⟩ (.int .i64 x)) (some g) := by
  have := World.ownsRow.stored h k (.int .i64 x)
  refine ⟨?_, this.2⟩
  unfold OwnInts
  rw [List.length_set, List.map_set]
  exact this.1

theorem grown_trans {a b c : World} {r : Option Nat} (h : a.grownBy b r) (k : b.grownBy c r) : a.grownBy c r :=
  ⟨k.os.trans h.os, k.tape.trans h.tape, k.output.trans h.output, Nat.le_trans h.size k.size, fun i hi hne => (k.block i (Nat.lt_of_lt_of_le hi h.size) hne).trans (h.block i hi hne)⟩
theorem grown_refl (a : World) (r : Option Nat) : a.grownBy a r := ⟨rfl, rfl, rfl, Nat.le_refl _, fun _ _ _ => rfl⟩

/-- A quiet contract at a world that has drawn already. -/
theorem quiet_any {P : Program} {f : FuncId} {args : Array Value} {w : World} {v : Value}
    (h : Calls P f args w fun e w' => e = .returned v ∧ ∃ m, w' = w.drewN m) :
    Calls P f args w fun e w'' => e = .returned v ∧ ∃ m, w'' = w.drewN m := h
theorem quiet_add {P : Program} {f : FuncId} {args : Array Value} {w : World} {a n : Nat} {v : Value}
    (h : Calls P f args (w.drewN (a + n)) fun e w' => e = .returned v ∧ ∃ m, w' = (w.drewN (a + n)).drewN m) :
    Calls P f args (w.drewN (a + n)) fun e w'' => e = .returned v ∧ ∃ m, w'' = w.drewN (a + m) :=
  h.mono fun _ _ ⟨he, m, hm⟩ => ⟨he, n + m, by rw [hm, World.drewN_drewN, Nat.add_assoc]⟩
theorem quiet_same {P : Program} {f : FuncId} {args : Array Value} {w : World} {v : Value}
    (h : Calls P f args w fun e w' => e = .returned v ∧ w' = w) : Calls P f args w fun e w'' => e = .returned v ∧ ∃ m, w'' = w.drewN m :=
  h.mono fun _ _ ⟨he, hm⟩ => ⟨he, 0, hm⟩
theorem IsQuiet.of_same {P : Program} {f : FuncId} {args : Array Value} {w : World} {v : Value}
    (h : Calls P f args w fun e w' => e = .returned v ∧ w' = w) : Calls P f args w fun e w'' => e = .returned v ∧ ∃ m, w'' = w.drewN m := quiet_same h

theorem length_le_cap {w : World} {v : Value} {n : Nat} {f : Nat → Value} (h : SlF w v n f) : n ≤ 9223372036854775807 := by
  obtain ⟨A, c, _, h2, h3, _⟩ := h
  omega

end Go.Proofs.Ytpnophmanpfejaa
