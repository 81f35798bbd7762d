/- Edges seen backwards: rows of predecessors, and how a call of its own makes them grow. No condition but the lists' lengths. -/
import Derived.Test.YtpnophmanpfejaaFixedWalks
import Derived.Test.YtpnophmanpfejaaPkC
namespace Go.Proofs.Ytpnophmanpfejaa
set_option linter.unusedSimpArgs false
set_option linter.unusedVariables false
open Go.RowKit

/-- Of each of n vertices the predecessors below k, and k where it is among the first t successors of k. -/
def prevAt (next : List (List Int)) (n k t : Nat) : List (List Int) := (List.range n).map fun (u : Nat) => ((upFrom 0 k).filter fun v => decide ((u : Int) ∈ rx next v.toNat)) ++ if (u : Int) ∈ (rx next k).take t then [(k : Int)] else []
def prevL (next : List (List Int)) (n : Nat) : List (List Int) := prevAt next n n 0
@[simp] theorem length_prevAt (next : List (List Int)) (n k t : Nat) : (prevAt next n k t).length = n := by simp [prevAt]
@[simp] theorem length_prevL (next : List (List Int)) (n : Nat) : (prevL next n).length = n := length_prevAt _ _ _ _
theorem rx_prevAt {next : List (List Int)} {n k t u : Nat} (h : u < n) : rx (prevAt next n k t) u = ((upFrom 0 k).filter fun v => decide ((u : Int) ∈ rx next v.toNat)) ++ if (u : Int) ∈ (rx next k).take t then [(k : Int)] else [] := by simp [rx, prevAt, h]
theorem prevAt_zero (next : List (List Int)) (n : Nat) : prevAt next n 0 0 = List.replicate n [] := by
  apply List.ext_getElem (by simp)
  intro j h1 h2
  simp [prevAt, upFrom]
theorem prevAt_next {next : List (List Int)} {n k t : Nat} (h : (rx next k).length ≤ t) : prevAt next n k t = prevAt next n (k + 1) 0 := by
  apply List.ext_getElem (by simp)
  intro j h1 h2
  simp only [prevAt, List.getElem_map, List.getElem_range]
  rw [List.take_of_length_le h, upFrom_snoc, List.filter_append, List.append_assoc]
  congr 1
  by_cases e : (j : Int) ∈ rx next k <;> simp [e]
theorem IsSet.lt_of {l : List Int} {n : Int} (h : IsSet l n) {i j : Nat} (hij : i < j) (hj : j < l.length) : ix l i < ix l j := by
  induction j with
  | zero => omega
  | succ j ih =>
    have h1 := (h (j + 1) hj).2.2 (by omega)
    simp only [Nat.add_sub_cancel] at h1
    by_cases e : i = j
    · subst e; exact h1
    · have := ih (by omega) (by omega); omega
theorem IsSet.not_take {l : List Int} {n : Int} (h : IsSet l n) {t : Nat} (ht : t < l.length) : ix l t ∉ l.take t := by
  intro hm
  obtain ⟨k, hk, e⟩ := mem_ix.1 hm
  rw [List.length_take] at hk
  have h1 := h.lt_of (i := k) (j := t) (by omega) ht
  rw [ix_lt (by rw [List.length_take]; omega), List.getElem_take, ← ix_lt (by omega)] at e
  omega
theorem prevAt_set {next : List (List Int)} {n k t j : Nat} (ht : t < (rx next k).length) (hj : ix (rx next k) t = (j : Int)) (hjn : j < n) (hs : IsSet (rx next k) n) :
    (prevAt next n k t).set j (rx (prevAt next n k t) j ++ [(k : Int)]) = prevAt next n k (t + 1) := by
  have hno := hs.not_take ht
  rw [hj] at hno
  apply List.ext_getElem (by simp)
  intro i h1 h2
  rw [length_prevAt] at h2
  rw [List.getElem_set]
  by_cases e : j = i
  · subst e
    rw [if_pos rfl, rx_prevAt hjn]
    simp only [prevAt, List.getElem_map, List.getElem_range]
    rw [take_ix ht, hj]
    simp [hno]
  · rw [if_neg e]
    simp only [prevAt, List.getElem_map, List.getElem_range]
    rw [take_ix ht, hj]
    have : ¬ (i : Int) = (j : Int) := by omega
    simp [this]
theorem mem_prevL {next : List (List Int)} {n u : Nat} (hu : u < n) {x : Int} : x ∈ rx (prevL next n) u ↔ ∃ v : Nat, v < n ∧ x = (v : Int) ∧ (u : Int) ∈ rx next v := by
  unfold prevL
  rw [rx_prevAt hu]
  simp only [List.take_zero, List.not_mem_nil, if_false, List.append_nil, List.mem_filter, decide_eq_true_eq, mem_upFrom]
  constructor
  · rintro ⟨⟨j, hj, rfl⟩, h⟩; exact ⟨j, hj, rfl, by simpa using h⟩
  · rintro ⟨j, hj, rfl, h⟩; exact ⟨⟨j, hj, rfl⟩, by simpa using h⟩
theorem sorted_upFrom_filter (k : Nat) (p : Int → Bool) : ((upFrom 0 k).filter p).Pairwise (· < ·) := by
  refine List.Pairwise.filter _ ?_
  unfold upFrom
  rw [List.pairwise_map]
  refine List.Pairwise.imp ?_ (List.pairwise_lt_range (n := k))
  intro a b h
  omega
theorem prevL_sorted {next : List (List Int)} {n u : Nat} (hu : u < n) : (rx (prevL next n) u).Pairwise (· < ·) := by
  unfold prevL
  rw [rx_prevAt hu]
  simp only [List.take_zero, List.not_mem_nil, if_false, List.append_nil]
  exact sorted_upFrom_filter _ _
theorem prevL_len {next : List (List Int)} {n u : Nat} (hu : u < n) : (rx (prevL next n) u).length ≤ n := by
  unfold prevL
  rw [rx_prevAt hu]
  simp only [List.take_zero, List.not_mem_nil, if_false, List.append_nil]
  have := List.length_filter_le (fun v : Int => decide ((u : Int) ∈ rx next v.toNat)) (upFrom 0 n)
  rw [length_upFrom] at this
  exact this
theorem pairwise_ix {l : List Int} (h : l.Pairwise (· < ·)) {i j : Nat} (hij : i < j) (hj : j < l.length) : ix l i < ix l j := by
  rw [List.pairwise_iff_getElem] at h
  rw [ix_lt (by omega), ix_lt hj]
  exact h i j (by omega) hj hij
theorem prevAt_len {next : List (List Int)} {n k t u : Nat} (hu : u < n) : (rx (prevAt next n k t) u).length ≤ k + 1 := by
  rw [rx_prevAt hu, List.length_append]
  have := List.length_filter_le (fun v : Int => decide ((u : Int) ∈ rx next v.toNat)) (upFrom 0 k)
  rw [length_upFrom] at this
  split <;> simp <;> omega

/-- A row of a slice of slices has grown; it is put back in its place. -/
theorem RowsV.grow {w w' : World} {B C C' G j cap n : Nat} {y : Value} {vs : List Value} {ll : List (List Int)} {l : List Int} (h : RowsV w B C (.slice (some ⟨G, 0, none⟩) n cap) vs ll) (hn : ll.length = n) (hj : j < ll.length) (hg : w.grownBy w' (vx vs j).ownBlock)
    (hy : OwnInts w' B y l) (hb : y.ownBlock = (vx vs j).ownBlock ∨ ∃ b, y.ownBlock = some b ∧ C ≤ b) (hCC : C ≤ C') (hC' : w'.heap.size ≤ C') : RowsV (w'.setCell ⟨G, j, none⟩ y) B C' (.slice (some ⟨G, 0, none⟩) n cap) (vs.set j y) (ll.set j l) := by
  subst hn
  have hl := h.len
  have hGi : ∀ i, i < ll.length → ∀ b, (vx vs i).ownBlock = some b → b ≠ G := fun i hi b hb e => by
    subst e; exact owns_ne h.own (h.row i hi).1 row_type_ne rfl hb
  have hown' := owns_heap (w' := w') h.own fun b hb => hg.block b (h.own.lt b hb).2 fun e => owns_ne h.own (h.row j hj).1 row_type_ne hb e.symm
  have hst := World.ownsRow.stored hown' j y
  have hyG : ∀ b, y.ownBlock = some b → b ≠ G := fun b hb e => by subst e; exact owns_ne hown' hy row_type_ne rfl hb
  have hrow : ∀ i, i < ll.length → OI (w'.setCell ⟨G, j, none⟩ y) B C' (vx (vs.set j y) i) (rx (ll.set j l) i) := fun i hi => by
    rw [vx_set (by omega), rx_set hj]
    by_cases e : i = j
    · rw [if_pos e, if_pos e]
      refine OI.heap (w := w') ⟨hy, fun b hb => Nat.lt_of_lt_of_le (hy.lt b hb).2 hC'⟩ fun b hb => Below.heap_setCell _ _ _ _ (fun e => hyG b hb e)
    · rw [if_neg e, if_neg e]
      have hr := h.row i hi
      exact ((hr.heap (w' := w') fun b hb => hg.block b (hr.1.lt b hb).2 fun e' => h.ne i j hi hj e b hb e'.symm).heap fun b hb => Below.heap_setCell _ _ _ _ (fun e => hGi i hi b hb e)).mono (Nat.le_refl _) hCC
  refine ⟨by simpa using hl, by simpa using hst.1, fun b hb => Nat.lt_of_lt_of_le (h.lt b hb) hCC, fun i hi => hrow i (by simpa using hi), fun a b ha hb' hab c hc => ?_⟩
  rw [List.length_set] at ha hb'
  rw [vx_set (by omega)] at hc ⊢
  have hnew : ∀ i, i < ll.length → i ≠ j → ∀ c, (vx vs i).ownBlock = some c → y.ownBlock ≠ some c := fun i hi hij c hc hyc => by
    rcases hb with h1 | ⟨b, h1, h2⟩
    · rw [h1] at hyc
      exact h.ne i j hi hj hij c hc hyc
    · rw [h1] at hyc
      injection hyc with e
      have := (h.row i hi).2 c hc
      omega
  by_cases ea : a = j
  · rw [if_pos ea] at hc
    rw [if_neg (by omega)]
    exact fun h2 => hnew b hb' (by omega) c h2 hc
  · rw [if_neg ea] at hc
    by_cases eb : b = j
    · rw [if_pos eb]
      exact hnew a ha ea c hc
    · rw [if_neg eb]
      exact h.ne a b ha hb' hab c hc
/-- 'make([][]int64, n)'. -/
theorem RowsV.made {w : World} {g B C n : Nat} (h : Arr w g 22 (zeros (.slice none 0 0) n)) (hB : B ≤ g) (hC : g < C) (hn : n ≤ 1048576) : RowsV w B C (.slice (some ⟨g, 0, none⟩) n n) (List.replicate n (.slice none 0 0)) (List.replicate n []) := by
  have hz : (zeros (.slice none 0 0) n) = List.replicate n (Value.slice none 0 0) := rfl
  rw [hz] at h
  have hvx : ∀ k, k < n → vx (List.replicate n (Value.slice none 0 0)) k = .slice none 0 0 := fun k hk => by rw [vx_lt (by simpa using hk)]; simp
  refine ⟨by simp, by simpa using Arr.own (n := n) h hB (by simp) (by omega), fun b hb => ?_, fun k hk => ?_, fun i j hi hj hij b hb => ?_⟩
  · simp only [Value.ownBlock, Option.some.injEq] at hb; omega
  · rw [List.length_replicate] at hk
    rw [hvx k hk, rx_lt (by simpa using hk)]
    simp only [List.getElem_replicate]
    exact ⟨World.ownsRow_nil w B _ 1, fun b hb => by simp [Value.ownBlock] at hb⟩
  · rw [List.length_replicate] at hi
    rw [hvx i hi] at hb
    simp [Value.ownBlock] at hb
end Go.Proofs.Ytpnophmanpfejaa
