/- What loopsIn holds in memory during its second search. Conditions: which blocks lie above which. -/
import Derived.Test.YtpnophmanpfejaaLoopsVisit
namespace Go.Proofs.Ytpnophmanpfejaa
set_option linter.unusedSimpArgs false
set_option linter.unusedVariables false
open Go.RowKit

theorem OwnInts.raise {w : World} {B B' : Nat} {v : Value} {l : List Int} (h : OwnInts w B v l) (hb : ∀ b, v.ownBlock = some b → B' ≤ b) : OwnInts w B' v l := by
  refine ⟨h.1, ?_⟩
  rcases h.2 with hn | ⟨g, cap, cur, e, hB, rest⟩
  · exact .inl hn
  · exact .inr ⟨g, cap, cur, e, hb g (by rw [e]; rfl), rest⟩
/-- The marks in block GD, found by the captured TD; the order in TO; the search itself in TV; the parts from block GD + 1 on, below block C. -/
structure VS2 (w : World) (B GD TD TW TV TO C : Nat) (dm : List Bool) (ov : Value) (L : List Int) (pv : Value) (vs : List Value) (out : List (List Int)) : Prop where
  td : Arr w TD 81 [.slice (some ⟨GD, 0, none⟩) dm.length dm.length]
  dn : BArr w GD dm
  tv : Arr w TV 123 [.func (.func 160) #[] #[.pointer (some ⟨TD, 0, none⟩), .pointer (some ⟨TW, 0, none⟩), .pointer (some ⟨TV, 0, none⟩)]]
  to : Arr w TO 22 [ov]
  own : OwnInts w B ov L
  far : ∀ b, ov.ownBlock = some b → b < GD
  lt : B ≤ TD ∧ B ≤ TV ∧ B ≤ TO ∧ TD < GD ∧ TV < GD ∧ TO < GD ∧ TD ≠ TV ∧ GD < C
  rows : RowsV w (GD + 1) C pv vs out
  top : C ≤ w.heap.size
section
variable {w w' : World} {B GD TD TW TV TO C : Nat} {dm dm' : List Bool} {ov pv pv' ov0 ov1 y : Value} {L L1 : List Int} {vs : List Value} {out : List (List Int)}
theorem VS2.turn {S : Nat → Prop} (h : VS2 w B GD TD TW TV TO C dm ov L pv vs out) (hc : Chg S w w') (hS : ∀ b, S b → b = GD ∨ C ≤ b) (hd : BArr w' GD dm') (hl : dm'.length = dm.length) : VS2 w' B GD TD TW TV TO C dm' ov L pv vs out := by
  obtain ⟨h1, h2, h3, h4, h5, h6, h7, h8⟩ := h.lt
  have hno : ∀ b, b < C → b ≠ GD → ¬ S b := fun b hb hne hs => by rcases hS b hs with e | e <;> omega
  refine ⟨?_, hd, (hc.block TV (Arr.lt h.tv) (hno _ (by omega) (by omega))).trans h.tv, (hc.block TO (Arr.lt h.to) (hno _ (by omega) (by omega))).trans h.to, ((OI.of h.own).chg hc fun b hb => ?_).1, h.far, h.lt, h.rows.chg hc (fun b hb => ?_) (fun k hk b hb => ?_), Nat.le_trans h.top hc.size⟩
  · rw [hl]
    exact (hc.block TD (Arr.lt h.td) (hno _ (by omega) (by omega))).trans h.td
  · have := h.far b hb
    exact hno b (by omega) (by omega)
  · have e1 := h.rows.lt b hb
    have e2 := (h.rows.own.lt b hb).1
    exact hno b e1 (by omega)
  · have e1 := (h.rows.row k hk).2 b hb
    have e2 := ((h.rows.row k hk).1.lt b hb).1
    exact hno b e1 (by omega)
theorem VS2.above {S : Nat → Prop} (h : VS2 w B GD TD TW TV TO C dm ov L pv vs out) (hc : Chg S w w') (hS : ∀ b, S b → C ≤ b) : VS2 w' B GD TD TW TV TO C dm ov L pv vs out :=
  h.turn hc (fun b hb => .inr (hS b hb)) ((hc.block GD h.dn.lt (fun hs => by have := hS _ hs; have := h.lt; omega)).trans h.dn) rfl
theorem VS2.alloc (h : VS2 w B GD TD TW TV TO C dm ov L pv vs out) (o : Obj) : VS2 (w.alloc o) B GD TD TW TV TO C dm ov L pv vs out :=
  h.above (Chg.of_below (S := fun _ => False) ((Below.refl _ w).alloc (Nat.le_refl _) o)) fun _ h => h.elim
/-- A part is begun. -/
theorem VS2.part (h : VS2 w B GD TD TW TV TO C dm ov L pv vs out) :
    VS ((w.alloc (.cells #[] 2)).alloc (.cells #[.slice (some ⟨w.heap.size, 0, none⟩) 0 0] 22)) B GD TD TW TV (w.heap.size + 1) dm (.slice (some ⟨w.heap.size, 0, none⟩) 0 0) [] ∧
    VB B GD TD TV (w.heap.size + 1) ∧
    VS2 ((w.alloc (.cells #[] 2)).alloc (.cells #[.slice (some ⟨w.heap.size, 0, none⟩) 0 0] 22)) B GD TD TW TV TO C dm ov L pv vs out ∧
    Below w.heap.size w ((w.alloc (.cells #[] 2)).alloc (.cells #[.slice (some ⟨w.heap.size, 0, none⟩) 0 0] 22)) := by
  obtain ⟨h1, h2, h3, h4, h5, h6, h7, h8⟩ := h.lt
  have ht := h.top
  have e1 : (w.alloc (.cells #[] 2)).heap.size = w.heap.size + 1 := by simp
  obtain ⟨hO, hb1⟩ := new_ints w
  have hb2 := hb1.alloc hb1.size (.cells #[.slice (some ⟨w.heap.size, 0, none⟩) 0 0] 22)
  have hT := Arr.new (w.alloc (.cells #[] 2)) 22 [.slice (some ⟨w.heap.size, 0, none⟩) 0 0]
  rw [e1] at hT
  have h10 := (h.alloc (.cells #[] 2)).alloc (.cells #[.slice (some ⟨w.heap.size, 0, none⟩) 0 0] 22)
  refine ⟨⟨h10.td, h10.dn, h10.tv, hT, (hO.below ((Below.refl _ _).alloc (Nat.le_refl _) _) (Nat.le_refl _)).more (by omega), fun b hb => ?_⟩, ?_, h10, hb2⟩
  · have hb' : b = w.heap.size := by simp [Value.ownBlock] at hb; omega
    subst hb'
    omega
  · unfold VB
    omega
/-- .. its search is done. -/
theorem VS2.searched {TO' : Nat} (h : VS2 w B GD TD TW TV TO C dm ov L pv vs out) (ht : Turn w w' GD TO' ov0 ov1) (hT : C ≤ TO') (h0 : ∀ b, ov0.ownBlock = some b → C ≤ b) (hv : VS w' B GD TD TW TV TO' dm' ov1 L1) (hl : dm'.length = dm.length) : VS2 w' B GD TD TW TV TO C dm' ov L pv vs out :=
  h.turn ht.chg (fun b hb => by
    rcases hb with e | e | e
    · exact .inl e
    · exact .inr (by omega)
    · exact .inr (h0 b e)) hv.dn hl
theorem VS2.grown {r : Option Nat} (h : VS2 w B GD TD TW TV TO C dm ov L pv vs out) (hg : w.grownBy w' r) (hr : ∀ b, r = some b → C ≤ b) : VS2 w' B GD TD TW TV TO C dm ov L pv vs out :=
  h.above (Chg.of_grown hg) hr
/-- .. it joins the others. -/
theorem VS2.snoc {l : List Int} (h : VS2 w B GD TD TW TV TO C dm ov L pv vs out) (hy : OwnInts w (GD + 1) y l) (hyC : ∀ b, y.ownBlock = some b → C ≤ b) (hown : w'.ownsRow (GD + 1) 22 1 pv' (out.length + 1) (vs ++ [y])) (hg : w.grownBy w' pv.ownBlock) : VS2 w' B GD TD TW TV TO w'.heap.size dm ov L pv' (vs ++ [y]) (out ++ [l]) := by
  obtain ⟨h1, h2, h3, h4, h5, h6, h7, h8⟩ := h.lt
  have ht := h.top
  have hs := hg.size
  have hp : ∀ b, pv.ownBlock = some b → GD < b := fun b hb => by have := (h.rows.own.lt b hb).1; omega
  have hkeep : ∀ b, b ≤ GD → b < w.heap.size → w'.heap[b]? = w.heap[b]? := fun b hb hbs => hg.block b hbs fun e => by have := hp b e.symm; omega
  refine ⟨(hkeep TD (by omega) (Arr.lt h.td)).trans h.td, (hkeep GD (by omega) h.dn.lt).trans h.dn, (hkeep TV (by omega) (Arr.lt h.tv)).trans h.tv, (hkeep TO (by omega) (Arr.lt h.to)).trans h.to, ((OI.of h.own).heap fun b hb => hkeep b (by have := h.far b hb; omega) (h.own.lt b hb).2).1, h.far, ⟨h1, h2, h3, h4, h5, h6, h7, by omega⟩, ?_, Nat.le_refl _⟩
  exact (h.rows.mono (Nat.le_refl _) ht).snoc (OI.of hy) (fun k hk b hb e => by
    have e1 := (h.rows.row k hk).2 b hb
    have e2 := hyC b e
    omega) hown hg hs (Nat.le_refl _)
/-- The start, behind the first search. -/
theorem VS2.first (h : VS w B GD TD TW TV TO dm ov L) (hB : VB B GD TD TV TO) (n : Nat) :
    VS2 (((w.alloc (.cells (zeros (.bool false) n).toArray 4)).setCell ⟨TD, 0, none⟩ (.slice (some ⟨w.heap.size, 0, none⟩) n n)).alloc (.cells #[] 22)) B w.heap.size TD TW TV TO (w.heap.size + 2) (List.replicate n false) ov L (.slice (some ⟨w.heap.size + 1, 0, none⟩) 0 0) [] [] ∧
    Below B w (((w.alloc (.cells (zeros (.bool false) n).toArray 4)).setCell ⟨TD, 0, none⟩ (.slice (some ⟨w.heap.size, 0, none⟩) n n)).alloc (.cells #[] 22)) := by
  have d1 := Arr.lt h.td
  have d3 := Arr.lt h.tv
  have d4 := Arr.lt h.to
  have hsz := h.size hB
  obtain ⟨h1, h2, h3, h4, h5, h6, h7, h8, h9, h10⟩ := hB
  have e1 : ((w.alloc (.cells (zeros (.bool false) n).toArray 4)).setCell ⟨TD, 0, none⟩ (.slice (some ⟨w.heap.size, 0, none⟩) n n)).heap.size = w.heap.size + 1 := by simp
  have hG := BArr.new w n
  have hb1 : Below B w (w.alloc (.cells (zeros (.bool false) n).toArray 4)) := (Below.refl B w).alloc hsz _
  have hb2 := hb1.setCell (p := ⟨TD, 0, none⟩) (by simpa using h2) (.slice (some ⟨w.heap.size, 0, none⟩) n n)
  have hb3 := hb2.alloc (by rw [e1]; omega) (.cells #[] 22)
  obtain ⟨hR, _⟩ := new_rows ((w.alloc (.cells (zeros (.bool false) n).toArray 4)).setCell ⟨TD, 0, none⟩ (.slice (some ⟨w.heap.size, 0, none⟩) n n))
  rw [e1] at hR
  have e2 : (((w.alloc (.cells (zeros (.bool false) n).toArray 4)).setCell ⟨TD, 0, none⟩ (.slice (some ⟨w.heap.size, 0, none⟩) n n)).alloc (.cells #[] 22)).heap.size = w.heap.size + 2 := by simp
  refine ⟨⟨?_, Arr.alloc (Arr.far hG (by show w.heap.size ≠ TD; omega) _) _, Arr.alloc (Arr.far (Arr.alloc h.tv _) (by show TV ≠ TD; omega) _) _, Arr.alloc (Arr.far (Arr.alloc h.to _) (by show TO ≠ TD; omega) _) _, ?_, fun b hb => (h.own.lt b hb).2, by omega, ?_, by rw [e2]; omega⟩, hb3⟩
  · rw [List.length_replicate]
    exact Arr.alloc (Arr.set_ (Arr.alloc h.td _) 0 _) _
  · have ho1 := (OI.of h.own).below ((Below.refl _ w).alloc (Nat.le_refl _) (.cells (zeros (.bool false) n).toArray 4))
    have ho2 : OI ((w.alloc (.cells (zeros (.bool false) n).toArray 4)).setCell ⟨TD, 0, none⟩ (.slice (some ⟨w.heap.size, 0, none⟩) n n)) B w.heap.size ov L := ho1.heap fun b hb => Below.heap_setCell _ _ _ _ (by show b ≠ TD; exact (h.far b hb).2.1)
    exact (ho2.1.below ((Below.refl _ _).alloc (Nat.le_refl _) _) (Nat.le_refl _))
  · exact hR.mono (Nat.le_refl _) (by rw [e2]; omega)
end
end Go.Proofs.Ytpnophmanpfejaa
