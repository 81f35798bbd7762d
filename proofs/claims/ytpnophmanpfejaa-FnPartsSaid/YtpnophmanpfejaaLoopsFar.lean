/- A slice of slices of bools of a call's own that grows. No condition. -/
import Derived.Test.YtpnophmanpfejaaReachWalks
import Derived.Test.YtpnophmanpfejaaPkA
namespace Go.Proofs.Ytpnophmanpfejaa
set_option linter.unusedSimpArgs false
set_option linter.unusedVariables false
open Go.RowKit

theorem brows_info : (Try.prog.info? 81).map (fun i => (i.zero, i.size, i.bytes)) = some (some (.slice none 0 0), 1, 24) := by kernel_rfl
theorem elem_brows : Elem 111 81 (.slice none 0 0) := Elem.mk' Try.underlying111 brows_info (by omega) rfl
theorem brow_type_ne : (81 : TypeId) ≠ 4 := by decide
/-- The k-th row. -/
def fx (l : List (List Bool)) (k : Nat) : List Bool := l.getD k []
theorem fx_lt {l : List (List Bool)} {k : Nat} (h : k < l.length) : fx l k = l[k] := by simp [fx, h]
/-- v is a slice of rows of bools of the call's own, from block B on and below C. -/
structure FarV (w : World) (B C : Nat) (v : Value) (vs : List Value) (fl : List (List Bool)) : Prop where
  len : vs.length = fl.length
  own : w.ownsRow B 81 1 v fl.length vs
  lt : ∀ b, v.ownBlock = some b → b < C
  row : ∀ k, k < fl.length → OB w B C (vx vs k) (fx fl k)
/-- v reads as these rows. -/
def Fars (w : World) (v : Value) (fl : List (List Bool)) : Prop := ∃ f, SlF w v fl.length f ∧ ∀ k, k < fl.length → Bools w (f k) (fx fl k)
theorem OB.heapB {w w' : World} {B C : Nat} {v : Value} {l : List Bool} (h : OB w B C v l) (hh : ∀ b, v.ownBlock = some b → w'.heap[b]? = w.heap[b]?) : OB w' B C v l := ⟨owns_heap h.1 hh, h.2⟩
theorem Fars.kept {w w' : World} {v : Value} {fl : List (List Bool)} (h : Fars w v fl) (hk : Kept w w') : Fars w' v fl := by
  obtain ⟨f, h1, h2⟩ := h
  exact ⟨f, h1.kept hk, fun k hkl => (h2 k hkl).kept hk⟩
theorem Fars.form {w : World} {v : Value} {fl : List (List Bool)} (h : Fars w v fl) : ∃ A c, v = .slice A fl.length c := by
  obtain ⟨f, ⟨A, c, h1, _⟩, _⟩ := h
  exact ⟨A, c, h1⟩
theorem Fars.at_ {w : World} {A : Option Addr} {n c k : Nat} {fl : List (List Bool)} (h : Fars w (.slice A n c) fl) (hk : k < fl.length) :
    ∃ ad A2 c2, A = some ad ∧ w.cell? (ad.add k) = some (.slice A2 (fx fl k).length c2) ∧ Bools w (.slice A2 (fx fl k).length c2) (fx fl k) := by
  obtain ⟨f, h1, h2⟩ := h
  obtain ⟨A', c', he, _, _, h4⟩ := h1
  injection he with h5
  subst h5
  obtain ⟨ad, e, hc⟩ := h4 k hk
  obtain ⟨A2, c2, h6, _⟩ := id (h2 k hk)
  refine ⟨ad, A2, c2, e, ?_, ?_⟩
  · rw [hc, h6]
  · rw [← h6]; exact h2 k hk
theorem FarV.fars {w : World} {B C : Nat} {v : Value} {vs : List Value} {fl : List (List Bool)} (h : FarV w B C v vs fl) : Fars w v fl :=
  ⟨vx vs, SlF.of_own h.own, fun k hk => (h.row k hk).bools⟩
theorem FarV.below {w w' : World} {B C : Nat} {v : Value} {vs : List Value} {fl : List (List Bool)} (h : FarV w B C v vs fl) (hb : Below w.heap.size w w') : FarV w' B C v vs fl :=
  ⟨h.len, owns_heap h.own fun b hbb => hb.block b (h.own.lt b hbb).2, h.lt, fun k hk => (h.row k hk).below hb⟩
theorem FarV.up {w : World} {B C C' : Nat} {v : Value} {vs : List Value} {fl : List (List Bool)} (h : FarV w B C v vs fl) (hC : C ≤ C') : FarV w B C' v vs fl :=
  ⟨h.len, h.own, fun b hb => Nat.lt_of_lt_of_le (h.lt b hb) hC, fun k hk => ⟨(h.row k hk).1, fun b hb => Nat.lt_of_lt_of_le ((h.row k hk).2 b hb) hC⟩⟩
theorem FarV.new (w : World) : FarV (w.alloc (.cells #[] 81)) w.heap.size (w.alloc (.cells #[] 81)).heap.size (.slice (some ⟨w.heap.size, 0, none⟩) 0 0) [] [] :=
  ⟨rfl, World.ownsRow_lit w #[] 0 (Nat.le_refl _) (by simp [maxLen]) (by simp), fun b hb => by simp [Value.ownBlock] at hb; subst hb; simp, fun k hk => by simp at hk⟩
theorem FarV.snoc {w w' : World} {B C C' : Nat} {v v' y : Value} {vs : List Value} {fl : List (List Bool)} {l : List Bool} (h : FarV w B C v vs fl) (hy : OB w B C y l)
    (hown : w'.ownsRow B 81 1 v' (fl.length + 1) (vs ++ [y])) (hg : w.grownBy w' v.ownBlock) (hC : C ≤ C') (hC' : w'.heap.size ≤ C') : FarV w' B C' v' (vs ++ [y]) (fl ++ [l]) := by
  have hl := h.len
  have keep : ∀ (z : Value) (m : List Bool), OB w B C z m → OB w' B C' z m := fun z m hz => by
    have h1 := hz.heapB (w' := w') fun b hb => hg.block b (hz.1.lt b hb).2 fun e => owns_ne h.own hz.1 brow_type_ne e.symm hb
    exact ⟨h1.1, fun b hb => Nat.lt_of_lt_of_le (h1.2 b hb) hC⟩
  refine ⟨by simp [hl], by simpa using hown, fun b hb => Nat.lt_of_lt_of_le (hown.lt b hb).2 hC', fun k hk => ?_⟩
  by_cases e : k = fl.length
  · subst e
    have h1 : vx (vs ++ [y]) fl.length = y := by rw [vx_lt (by simp; omega), List.getElem_append_right (by omega)]; simp [hl]
    have h2 : fx (fl ++ [l]) fl.length = l := by rw [fx_lt (by simp)]; simp
    rw [h1, h2]
    exact keep y l hy
  · have hk' : k < fl.length := by simp at hk; omega
    have h1 : vx (vs ++ [y]) k = vx vs k := by rw [vx_lt (by simp; omega), vx_lt (by omega), List.getElem_append_left (by omega)]
    have h2 : fx (fl ++ [l]) k = fx fl k := by rw [fx_lt (by simp; omega), fx_lt hk', List.getElem_append_left hk']
    rw [h1, h2]
    exact keep _ _ (h.row k hk')
end Go.Proofs.Ytpnophmanpfejaa
