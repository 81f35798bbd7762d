/- slices.SortFunc with slices.Compare at rows of the call's own, from the library's contract. Condition: the outer row is no nil. -/
import Derived.Test.YtpnophmanpfejaaShelf
import Derived.Test.YtpnophmanpfejaaCmpWalks
import Derived.Test.YtpnophmanpfejaaPkA
import Derived.Test.YtpnophmanpfejaaSort
namespace Go.Proofs.Ytpnophmanpfejaa
set_option linter.unusedSimpArgs false
set_option linter.unusedVariables false
open Go.RowKit
open Go.Sort

theorem heap_putRowG {α : Type} [Inhabited α] (enc : α → Value) (w : World) (blk off : Nat) (d : Array α) {c : Array Value} {e : TypeId} {fr : Nat × Nat} (h : w.heap[blk]? = some (.cells c e fr)) :
    (putRow enc w blk off d).heap[blk]? = some (.cells (putCells enc off d c) e fr) := by
  simp [putRow, mapBlock, Array.getElem?_modify, h, onCells]
theorem heap_putRowG_other {α : Type} [Inhabited α] (enc : α → Value) (w : World) (blk off : Nat) (d : Array α) {k : Nat} (hk : k ≠ blk) : (putRow enc w blk off d).heap[k]? = w.heap[k]? := by
  simp only [putRow, mapBlock, Array.getElem?_modify]
  rw [if_neg (fun e => hk e.symm)]
theorem sortWorld_heap {α : Type} [Inhabited α] (enc : α → Value) (w : World) (blk m : Nat) (d : Array α) (os : Array Obj) {k : Nat} (hk : k ≠ blk) (hl : k < w.heap.size) : (sortWorld enc w blk 0 m d os).heap[k]? = w.heap[k]? := by
  unfold sortWorld
  rw [heap_grow_old _ _ (by simpa using hl)]
  exact heap_putRowG_other enc (Sort.ahead w m) blk 0 d hk
/-- The values of rows under their places, and the nil row. -/
def rowEnc (n : Nat) (vs : List Value) : Option (Fin n) → Value
  | none => .slice none 0 0
  | some k => vx vs k
def rowLst (ll : List (List Int)) : Option (Fin ll.length) → List Int
  | none => []
  | some k => rx ll k
theorem Ints.nil_ (W : World) : Ints W (.slice none 0 0) [] := ⟨none, 0, rfl, Nat.le_refl _, by omega, fun k hk => absurd hk (Nat.not_lt_zero _)⟩
def allRows (n : Nat) : Array (Option (Fin n)) := ((List.finRange n).map some).toArray
@[simp] theorem size_allRows (n : Nat) : (allRows n).size = n := by simp [allRows]

theorem extract_whole {α : Type} (d : Array α) (n : Nat) (h : d.size = n) : d.extract 0 n = d := by subst h; simp

theorem SortRows_any (B C : Nat) (v : Value) (vs : List Value) (ll : List (List Int)) (w : World) (h : RowsV w B C v vs ll) (hnn : v.ownBlock ≠ none) (hl : ll.length ≤ 1048576) :
    Calls Try.prog 163 #[v, .func (.func 164) #[] #[]] w fun e w' => e = .returned (.tuple #[]) ∧ ∃ vs' mm, mm.Perm ll ∧ mm.Pairwise (fun a b => ¬ lexLt b a) ∧ RowsV w' B C v vs' mm ∧ w.grownBy w' v.ownBlock := by
  have hlen := h.len
  have hfar : ∀ j, j < ll.length → ∀ b, (vx vs j).ownBlock = some b → v.ownBlock ≠ some b := fun j hj b hb e => owns_ne h.own (h.row j hj).1 row_type_ne e hb
  rcases h.own.2 with ⟨rfl, _⟩ | ⟨g, cap, cur, rfl, hB, hg, hnc, hcm, hsz, htake⟩
  · exact absurd rfl hnn
  have hgl : g < w.heap.size := (Array.getElem?_eq_some_iff.1 hg).1
  have hfar' : ∀ j, j < ll.length → ∀ b, (vx vs j).ownBlock = some b → b ≠ g := fun j hj b hb e => hfar j hj b hb (by rw [e]; rfl)
  have hInts : ∀ (x : Option (Fin ll.length)) (W : World), (∀ b, b ≠ g → b < w.heap.size → W.heap[b]? = w.heap[b]?) → Ints W (rowEnc ll.length vs x) (rowLst ll x) := fun x W hW => by
    cases x with
    | none => exact Ints.nil_ W
    | some k => exact ((h.row k k.2).heap fun b hb => hW b (hfar' k k.2 b hb) ((h.row k k.2).1.lt b hb).2).ints
  have hone : OneCell (rowEnc ll.length vs) := fun x => by
    obtain ⟨A, c, e, _⟩ := (hInts x w fun _ _ _ => rfl).form
    rw [e]; rfl
  have hH : Holds (rowEnc ll.length vs) w g 0 (allRows ll.length) := fun j hj => by
    rw [size_allRows] at hj
    refine ⟨?_, frozen_of_row w g _ _ _ hg⟩
    have hj2 : j < vs.length := by omega
    have h1 := h.own.cells (g := g) rfl j vs[j] (by simp [hj2])
    rw [Nat.zero_add]
    have e : ((⟨g, 0, none⟩ : Addr).add j) = ⟨g, j, none⟩ := add_head g j
    rw [e] at h1
    rw [h1]
    simp [allRows, rowEnc, hj, vx_lt hj2]
  have eg : ∀ args w, (callFunc 164 args).run Try.prog w = .ok (.enter 164 args) w := enters_of Try.func164 (by kernel_rfl) rfl
  have hcmp : CmpLays1 Try.prog 164 #[] (rowEnc ll.length vs) (fun x y => cmpL (rowLst ll x) (rowLst ll y)) g 0 (allRows ll.length).size w := fun m os dk _ x y => by
    have hk : ∀ b, b ≠ g → b < w.heap.size → (sortWorld (rowEnc ll.length vs) w g 0 m dk os).heap[b]? = w.heap[b]? := fun b hb hbl => sortWorld_heap _ w g m dk os hb hbl
    refine (Compare_any _ _ (rowLst ll x) (rowLst ll y) _ (hInts x _ hk) (hInts y _ hk)).mono ?_
    rintro e w' ⟨rfl, rfl⟩
    exact ⟨rfl, 0, #[], by rw [grow_empty]; rfl⟩
  have hS := Try.slices_SortFunc (rowEnc ll.length vs) hone (fun x y => cmpL (rowLst ll x) (rowLst ll y)) (lex_swo (rowLst ll)) 164 #[] g 0 cap (allRows ll.length) w eg hcmp hH hgl (by rw [size_allRows]; omega)
  rw [size_allRows] at hS
  refine hS.mono ?_
  rintro e w' ⟨rfl, d', q, os, hp, hs, rfl⟩
  have hds : d'.size = ll.length := by rw [hp.1, size_allRows]
  have hperm : d'.toList.Perm ((List.finRange ll.length).map some) := by
    have := hp.2.2
    rw [extract_whole d' _ hds, extract_whole (allRows ll.length) _ (size_allRows _)] at this
    simpa [allRows] using this
  have hnd : d'.toList.Nodup := hperm.nodup_iff.2 (by
    rw [List.nodup_iff_pairwise_ne, List.pairwise_map]
    exact (List.nodup_iff_pairwise_ne.1 (List.nodup_finRange _)).imp fun hab e => hab (Option.some.inj e))
  have hD : ∀ i, i < ll.length → ∃ k : Fin ll.length, d'.toList[i]? = some (some k) := fun i hi => by
    have hi' : i < d'.toList.length := by simpa [hds] using hi
    have := hperm.mem_iff.1 (List.getElem_mem hi')
    rw [List.mem_map] at this
    obtain ⟨k, _, e⟩ := this
    exact ⟨k, by rw [List.getElem?_eq_getElem hi', e]⟩
  have hDl : d'.toList.length = ll.length := by simpa using hds
  have hvs' : ∀ i, i < ll.length → ∃ k : Fin ll.length, d'.toList[i]? = some (some k) ∧ vx (d'.toList.map (rowEnc ll.length vs)) i = vx vs k ∧ rx (d'.toList.map (rowLst ll)) i = rx ll k := fun i hi => by
    obtain ⟨k, hk⟩ := hD i hi
    obtain ⟨hi', hk'⟩ := List.getElem?_eq_some_iff.1 hk
    refine ⟨k, hk, ?_, ?_⟩
    · rw [vx_lt (by simpa using hi'), List.getElem_map, hk']; rfl
    · rw [rx_lt (by simpa using hi'), List.getElem_map, hk']; rfl
  have hheap : ∀ b, b ≠ g → b < w.heap.size → (sortWorld (rowEnc ll.length vs) w g 0 q d' os).heap[b]? = w.heap[b]? := fun b hb hbl => sortWorld_heap _ w g q d' os hb hbl
  have hmml : (d'.toList.map (rowLst ll)).length = ll.length := by rw [List.length_map, hDl]
  refine ⟨rfl, d'.toList.map (rowEnc ll.length vs), d'.toList.map (rowLst ll), ?_, ?_, ⟨?_, ⟨?_, .inr ⟨g, cap, putCells (rowEnc ll.length vs) 0 d' cur, ?_, hB, ?_, ?_, hcm, ?_, ?_⟩⟩, ?_, ?_, ?_⟩, ⟨rfl, rfl, rfl, ?_, ?_⟩⟩
  · refine (hperm.map (rowLst ll)).trans (List.Perm.of_eq ?_)
    rw [List.map_map]
    apply List.ext_getElem (by simp)
    intro i h1 h2
    simp [rowLst, rx_lt h2]
  · rw [List.pairwise_map, List.pairwise_iff_getElem]
    intro i j hi hj hij hlt
    have h1 := hs i j (Nat.zero_le _) hij (by omega)
    rw [getElem!_pos d' j (by omega), getElem!_pos d' i (by omega)] at h1
    unfold ltOf at h1
    rw [decide_eq_false_iff_not, cmpL_neg] at h1
    simp only [Array.getElem_toList] at hlt
    exact h1 hlt
  · simp
  · simp
  · rw [hmml]
  · unfold sortWorld
    rw [heap_grow_old _ _ (by simpa using hgl)]
    exact heap_putRowG _ (Sort.ahead w q) g 0 d' hg
  · rw [hmml]; exact hnc
  · simp [putCells, hsz]
  · apply List.ext_getElem
    · simp [putCells, hsz, hds]; omega
    · intro i h1 h2
      have hi : i < d'.size := by simpa using h2
      simp [putCells, hi]
  · exact h.lt
  · intro k hk
    rw [hmml] at hk
    obtain ⟨j, _, e1, e2⟩ := hvs' k hk
    rw [e1, e2]
    exact (h.row j j.2).heap fun b hb => hheap b (hfar' j j.2 b hb) ((h.row j j.2).1.lt b hb).2
  · intro i j hi hj hij b hb
    rw [hmml] at hi hj
    obtain ⟨k1, k3, e1, _⟩ := hvs' i hi
    obtain ⟨k2, k4, e2, _⟩ := hvs' j hj
    rw [e1] at hb
    rw [e2]
    refine h.ne k1 k2 k1.2 k2.2 (fun e => hij ?_) b hb
    have e3 : k1 = k2 := Fin.ext e
    subst e3
    obtain ⟨hi', k5⟩ := List.getElem?_eq_some_iff.1 k3
    obtain ⟨hj', k6⟩ := List.getElem?_eq_some_iff.1 k4
    exact (List.getElem_inj hnd).1 (k5.trans k6.symm)
  · simp [sortWorld, grow]
  · intro k hk hne
    exact hheap k (fun e => hne (by rw [e]; rfl)) hk
end Go.Proofs.Ytpnophmanpfejaa
