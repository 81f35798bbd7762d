/- Slices of bools: read, and made by a call of its own; marks of sets. No condition but the lists' lengths. -/
import Derived.Test.YtpnophmanpfejaaObj
import Derived.Test.YtpnophmanpfejaaSetPlain
namespace Go.Proofs.Ytpnophmanpfejaa
set_option linter.unusedSimpArgs false
set_option linter.unusedVariables false
open Go.RowKit

theorem bool_info : (Try.prog.info? 4).map (fun i => (i.zero, i.size, i.bytes)) = some (some (.bool false), 1, 1) := by kernel_rfl
theorem elem_bool : Elem 81 4 (.bool false) := Elem.mk' Try.underlying81 bool_info (by omega) rfl
theorem Bools.form {w : World} {v : Value} {l : List Bool} (h : Bools w v l) : ∃ A c, v = .slice A l.length c ∧ l.length ≤ c ∧ c ≤ 9223372036854775807 := by
  obtain ⟨A, c, h1, h2, h3, _⟩ := h
  exact ⟨A, c, h1, h2, h3⟩
theorem Bools.at_ {w : World} {A : Option Addr} {n c k : Nat} {l : List Bool} (h : Bools w (.slice A n c) l) (hk : k < l.length) : ∃ ad, A = some ad ∧ w.cell? (ad.add k) = some (.bool (bx l k)) := by
  obtain ⟨A', c', he, _, _, h4⟩ := h
  injection he with h1
  subst h1
  exact h4 k hk
theorem bx_set {l : List Bool} {k j : Nat} {x : Bool} (hk : k < l.length) : bx (l.set k x) j = if j = k then x else bx l j := by
  unfold bx
  by_cases h : j = k
  · subst h; simp [hk]
  · simp [h, Ne.symm h]
theorem bools_ext {l m : List Bool} (hl : l.length = m.length) (h : ∀ j, j < m.length → bx l j = bx m j) : l = m := by
  apply List.ext_getElem hl
  intro j h1 h2
  have := h j h2
  rwa [bx_lt h1, bx_lt h2] at this

/-- v is a row of bools of the call's own, from block B on, that holds l. -/
def OwnBools (w : World) (B : Nat) (v : Value) (l : List Bool) : Prop := w.ownsRow B 4 1 v l.length (l.map Value.bool)
theorem OwnBools.bools {w : World} {B : Nat} {v : Value} {l : List Bool} (h : OwnBools w B v l) : Bools w v l :=
  (SlF.of_own h).congr fun k hk => by simp [bx, hk]
theorem OwnBools.below {w w' : World} {B B' : Nat} {v : Value} {l : List Bool} (h : OwnBools w B v l) (hb : Below B' w w') (hB : w.heap.size ≤ B') : OwnBools w' B v l := by
  refine ⟨h.1, ?_⟩
  rcases h.2 with hn | ⟨g, cap, cur, rfl, hg, hh, rest⟩
  · exact .inl hn
  · exact .inr ⟨g, cap, cur, rfl, hg, (hb.block g (Nat.lt_of_lt_of_le (Array.getElem?_eq_some_iff.1 hh).1 hB)).trans hh, rest⟩
theorem OwnBools.more {w : World} {B B' : Nat} {v : Value} {l : List Bool} (h : OwnBools w B v l) (hB : B' ≤ B) : OwnBools w B' v l := by
  refine ⟨h.1, ?_⟩
  rcases h.2 with hn | ⟨g, cap, cur, rfl, hg, rest⟩
  · exact .inl hn
  · exact .inr ⟨g, cap, cur, rfl, Nat.le_trans hB hg, rest⟩
/-- .. and below block C. -/
def OB (w : World) (B C : Nat) (v : Value) (l : List Bool) : Prop := OwnBools w B v l ∧ ∀ k, v.ownBlock = some k → k < C
theorem OB.bools {w : World} {B C : Nat} {v : Value} {l : List Bool} (h : OB w B C v l) : Bools w v l := h.1.bools
theorem OB.of {w : World} {B : Nat} {v : Value} {l : List Bool} (h : OwnBools w B v l) : OB w B w.heap.size v l := ⟨h, fun k hk => (h.lt k hk).2⟩
theorem OB.kept {w w' : World} {B C B' C' : Nat} {v : Value} {l : List Bool} (h : OB w B C v l) (ho : Only B' C' w w') (hd : C ≤ B' ∨ C' ≤ B) : OB w' B C v l := by
  refine ⟨⟨h.1.1, ?_⟩, h.2⟩
  rcases h.1.2 with hn | ⟨g, cap, cur, rfl, hg, hh, rest⟩
  · exact .inl hn
  · have h2 := h.2 g rfl
    exact .inr ⟨g, cap, cur, rfl, hg, (ho.block g (Array.getElem?_eq_some_iff.1 hh).1 (by omega)).trans hh, rest⟩
theorem OB.below {w w' : World} {B C : Nat} {v : Value} {l : List Bool} (h : OB w B C v l) (hb : Below w.heap.size w w') : OB w' B C v l := h.kept (Only.of_below (B := C) (C := B) hb) (.inl (Nat.le_refl _))
theorem OB.drewN {w : World} {B C : Nat} {v : Value} {l : List Bool} (h : OB w B C v l) (n : Nat) : OB (w.drewN n) B C v l := h

/-- Block g is an array of bools of the call's own that holds l. -/
def BArr (w : World) (g : Nat) (l : List Bool) : Prop := Arr w g 4 (l.map Value.bool)
theorem BArr.cell {w : World} {g : Nat} {l : List Bool} (h : BArr w g l) {k : Nat} (hk : k < l.length) : w.cell? ⟨g, k, none⟩ = some (.bool (bx l k)) := by
  have := Arr.cell h (k := k) (by simpa using hk)
  simpa [bx, hk] using this
theorem BArr.frozen {w : World} {g : Nat} {l : List Bool} (h : BArr w g l) (k : Nat) : w.frozen? ⟨g, k, none⟩ = false := Arr.frozen h k
theorem BArr.set_ {w : World} {g : Nat} {l : List Bool} (h : BArr w g l) (k : Nat) (x : Bool) : BArr (w.setCell ⟨g, k, none⟩ (.bool x)) g (l.set k x) := by
  have := Arr.set_ h k (.bool x)
  unfold BArr
  rwa [List.map_set]
theorem BArr.own {w : World} {g B : Nat} {l : List Bool} (h : BArr w g l) (hB : B ≤ g) (hm : l.length ≤ 4611686018427387904) : OwnBools w B (.slice (some ⟨g, 0, none⟩) l.length l.length) l :=
  Arr.own h hB (by simp) hm
theorem BArr.new (w : World) (n : Nat) : BArr (w.alloc (.cells (zeros (.bool false) n).toArray 4)) w.heap.size (List.replicate n false) := by
  have := Arr.new w 4 (zeros (.bool false) n)
  unfold BArr
  rwa [List.map_replicate]
theorem BArr.below {w w' : World} {B g : Nat} {l : List Bool} (h : BArr w g l) (hb : Below B w w') (hg : g < B) : BArr w' g l := Arr.below h hb hg
theorem BArr.lt {w : World} {g : Nat} {l : List Bool} (h : BArr w g l) : g < w.heap.size := Arr.lt h
theorem BArr.bools {w : World} {g : Nat} {l : List Bool} (h : BArr w g l) (hm : l.length ≤ 4611686018427387904) : Bools w (.slice (some ⟨g, 0, none⟩) l.length l.length) l := (h.own (Nat.le_refl _) hm).bools

def RetBools (w : World) (l : List Bool) (e : Ending) (w' : World) : Prop := ∃ u, e = .returned u ∧ OwnBools w' w.heap.size u l ∧ Below w.heap.size w w'
theorem RetBools.mk' {w w' : World} {l : List Bool} {u : Value} (h1 : OwnBools w' w.heap.size u l) (h2 : Below w.heap.size w w') : RetBools w l (.returned u) w' := ⟨u, rfl, h1, h2⟩
theorem RetBools.at_ {w W w' : World} {l : List Bool} {u : Value} (hb : Below w.heap.size w W) (h1 : OwnBools w' W.heap.size u l) (h2 : Below W.heap.size W w') : RetBools w l (.returned u) w' := .mk' (h1.more hb.size) (Below.up hb h2)

/-- Of each of n vertices whether it is in s. -/
def marksL (n : Nat) (s : List Int) : List Bool := (List.range n).map fun (v : Nat) => decide ((v : Int) ∈ s)
@[simp] theorem length_marksL (n : Nat) (s : List Int) : (marksL n s).length = n := by simp [marksL]
theorem bx_marksL {n v : Nat} {s : List Int} (h : v < n) : bx (marksL n s) v = decide ((v : Int) ∈ s) := by simp [bx, marksL, h]
theorem marksL_nil (n : Nat) : marksL n [] = List.replicate n false := by
  apply bools_ext (by simp)
  intro j hj
  rw [List.length_replicate] at hj
  rw [bx_marksL hj]
  simp [bx, hj]
theorem marksL_set {n k j : Nat} {s : List Int} (hk : k < s.length) (hj : ix s k = (j : Int)) (hjn : j < n) : (marksL n (s.take k)).set j true = marksL n (s.take (k + 1)) := by
  apply bools_ext (by simp)
  intro i hi
  rw [length_marksL] at hi
  rw [bx_set (by simpa using hjn), bx_marksL hi, bx_marksL hi, take_ix hk, hj]
  by_cases h : i = j
  · subst h; simp
  · rw [if_neg h]
    have : ¬ (i : Int) = (j : Int) := by omega
    simp [this]
/-- The elements of s are vertices below n. -/
def Vert (s : List Int) (n : Nat) : Prop := ∀ k, k < s.length → ∃ j : Nat, ix s k = (j : Int) ∧ j < n
theorem IsSet.vert {s : List Int} {n : Nat} (h : IsSet s n) : Vert s n := fun k hk => by
  obtain ⟨h1, h2, _⟩ := h k hk
  exact ⟨(ix s k).toNat, by omega, by omega⟩
end Go.Proofs.Ytpnophmanpfejaa
