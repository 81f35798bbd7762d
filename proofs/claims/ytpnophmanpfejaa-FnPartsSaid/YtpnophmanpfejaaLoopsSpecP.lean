/- What the reference's l1Loops keeps from vertex to vertex. No program in sight. -/
import Derived.Test.YtpnophmanpfejaaLoopsSecond
import Derived.Test.YtpnophmanpfejaaPkC
namespace Go.Proofs.Ytpnophmanpfejaa
set_option linter.unusedSimpArgs false
set_option linter.unusedVariables false

/-- The parts of the first k vertices of s. -/
noncomputable def loopsTo (R : Nat → Nat → Prop) (s : List Int) (k : Nat) : List (List Int) := ((s.take k).filter (isRep R s)).map fun v => classOf R s v.toNat
open Classical in
/-- v's class among the first k of s. -/
noncomputable def classTo (R : Nat → Nat → Prop) (s : List Int) (v k : Nat) : List Int := (s.take k).filter fun u => decide (Loopy R v u.toNat)
/-- x is in the class of one of the first k of s. -/
def DoneTo (R : Nat → Nat → Prop) (s : List Int) (k x : Nat) : Prop := ∃ y ∈ s.take k, Loopy R y.toNat x
section
variable {R : Nat → Nat → Prop} {s : List Int} {k v : Nat}
theorem loopsTo_all : loopsTo R s s.length = loopsL R s := by unfold loopsTo loopsL; rw [List.take_length]
theorem loopsTo_zero : loopsTo R s 0 = [] := rfl
theorem classTo_all : classTo R s v s.length = classOf R s v := by unfold classTo classOf; rw [List.take_length]
theorem classTo_zero : classTo R s v 0 = [] := rfl
theorem classTo_len : (classTo R s v k).length ≤ k := by
  unfold classTo
  exact Nat.le_trans (List.length_filter_le _ _) (by rw [List.length_take]; omega)
theorem loopsTo_len : (loopsTo R s k).length ≤ k := by
  unfold loopsTo
  rw [List.length_map]
  exact Nat.le_trans (List.length_filter_le _ _) (by rw [List.length_take]; omega)
open Classical in
theorem classTo_add {u : Nat} (hk : k < s.length) (hu : ix s k = (u : Int)) (h : Loopy R v u) : classTo R s v (k + 1) = classTo R s v k ++ [(u : Int)] := by
  unfold classTo
  rw [take_ix hk, List.filter_append, hu]
  congr 1
  rw [List.filter_cons_of_pos (by rw [decide_eq_true_iff, Int.toNat_natCast]; exact h), List.filter_nil]
open Classical in
theorem classTo_skip {u : Nat} (hk : k < s.length) (hu : ix s k = (u : Int)) (h : ¬ Loopy R v u) : classTo R s v (k + 1) = classTo R s v k := by
  unfold classTo
  rw [take_ix hk, List.filter_append, hu, List.filter_cons_of_neg (by rw [decide_eq_true_iff, Int.toNat_natCast]; exact h), List.filter_nil, List.append_nil]
theorem loopsTo_skip (hk : k < s.length) (h : isRep R s (ix s k) = false) : loopsTo R s (k + 1) = loopsTo R s k := by
  unfold loopsTo
  rw [take_ix hk, List.filter_append, List.filter_cons_of_neg (by rw [h]; simp), List.filter_nil, List.append_nil]
theorem loopsTo_add (hk : k < s.length) (hv : ix s k = (v : Int)) (h : isRep R s (ix s k) = true) : loopsTo R s (k + 1) = loopsTo R s k ++ [classOf R s v] := by
  unfold loopsTo
  rw [take_ix hk, List.filter_append, List.filter_cons_of_pos h, List.filter_nil, List.map_append, hv]
  rfl
theorem ix_take_lt (hs : s.Pairwise (· < ·)) (hk : k < s.length) {y : Int} (hy : y ∈ s.take k) : y < ix s k := by
  obtain ⟨i, hi, rfl⟩ := List.mem_iff_getElem.1 hy
  rw [List.length_take] at hi
  rw [List.getElem_take, ix_lt hk]
  exact List.pairwise_iff_getElem.1 hs i k (by omega) hk (by omega)
theorem take_of_lt (hs : s.Pairwise (· < ·)) (hk : k < s.length) {y : Int} (hy : y ∈ s) (h : y < ix s k) : y ∈ s.take k := by
  obtain ⟨i, hi, rfl⟩ := List.mem_iff_getElem.1 hy
  have hik : i < k := by
    rcases Nat.lt_or_ge i k with h1 | h1
    · exact h1
    · rw [ix_lt hk] at h
      rcases Nat.lt_or_eq_of_le h1 with h2 | h2
      · have := List.pairwise_iff_getElem.1 hs k i hk hi h2
        omega
      · subst h2; omega
  exact List.mem_iff_getElem.2 ⟨i, by rw [List.length_take]; omega, by rw [List.getElem_take]⟩
/-- A vertex that is in an earlier class, or on no loop, is the least of none. -/
theorem rep_of_done (hs : s.Pairwise (· < ·)) (hk : k < s.length) (hv : ix s k = (v : Int)) (h : DoneTo R s k v) : isRep R s (ix s k) = false := by
  rw [Bool.eq_false_iff]
  intro h2
  obtain ⟨_, h4⟩ := isRep_iff.1 h2
  obtain ⟨y, hy, hl⟩ := h
  refine h4 y (List.mem_of_mem_take hy) (ix_take_lt hs hk hy) ?_
  rw [hv, Int.toNat_natCast]
  exact hl.symm
theorem rep_of_no (hv : ix s k = (v : Int)) (h : ¬ Loopy R v v) : isRep R s (ix s k) = false := by
  rw [Bool.eq_false_iff]
  intro h2
  have := (isRep_iff.1 h2).1
  rw [hv, Int.toNat_natCast] at this
  exact h this
theorem rep_of_new (hs : s.Pairwise (· < ·)) (hk : k < s.length) (hv : ix s k = (v : Int)) (h : Loopy R v v) (hd : ¬ DoneTo R s k v) : isRep R s (ix s k) = true := by
  refine isRep_iff.2 ⟨by rw [hv, Int.toNat_natCast]; exact h, fun u hu hlt hl => hd ⟨u, take_of_lt hs hk hu hlt, ?_⟩⟩
  rw [hv, Int.toNat_natCast] at hl
  exact hl.symm
theorem DoneTo.next (hk : k < s.length) (hv : ix s k = (v : Int)) {x : Nat} : DoneTo R s (k + 1) x ↔ DoneTo R s k x ∨ Loopy R v x := by
  unfold DoneTo
  rw [take_ix hk, hv]
  constructor
  · rintro ⟨y, hy, h⟩
    rcases List.mem_append.1 hy with hy | hy
    · exact .inl ⟨y, hy, h⟩
    · simp at hy
      subst hy
      rw [Int.toNat_natCast] at h
      exact .inr h
  · rintro (⟨y, hy, h⟩ | h)
    · exact ⟨y, List.mem_append_left _ hy, h⟩
    · exact ⟨(v : Int), by simp, by rw [Int.toNat_natCast]; exact h⟩
theorem DoneTo.same (hk : k < s.length) (hv : ix s k = (v : Int)) (h : DoneTo R s k v ∨ ¬ Loopy R v v) {x : Nat} : DoneTo R s (k + 1) x ↔ DoneTo R s k x := by
  rw [DoneTo.next hk hv]
  constructor
  · rintro (h1 | h1)
    · exact h1
    · rcases h with ⟨y, hy, h2⟩ | h
      · exact ⟨y, hy, h2.trans h1⟩
      · exact absurd h1.self h
  · exact .inl
end
/-- What the reference looks at. -/
theorem beyond_plus {next : List (List Int)} {m : List Bool} {v x : Nat} (hv : bx m v = true) : Beyond next (bx m) (fun y => (y : Int) ∈ [(v : Int)]) x ↔ Plusw (EdgeM next m) v x := by
  have h1 : ∀ {a b : Nat}, Ways next (bx m) a b → bx m a = true → Star (EdgeM next m) a b ∧ bx m b = true := by
    intro a b h ha
    induction h with
    | refl => exact ⟨.refl _, ha⟩
    | tail _ s ih => exact ⟨.tail ih.1 ⟨s.1, ih.2, s.2⟩, s.2⟩
  have h2 : ∀ {a b : Nat}, Star (EdgeM next m) a b → Ways next (bx m) a b := by
    intro a b h
    induction h with
    | refl => exact .refl _
    | tail _ s ih => exact .tail ih ⟨s.1, s.2.2⟩
  constructor
  · rintro ⟨u, y, hu, hs, hw⟩
    simp at hu
    obtain rfl : u = v := by omega
    exact ⟨y, ⟨hs.1, hv, hs.2⟩, (h1 hw hs.2).1⟩
  · rintro ⟨y, hs, hw⟩
    exact ⟨v, y, by simp, ⟨hs.1, hs.2.2⟩, h2 hw⟩
end Go.Proofs.Ytpnophmanpfejaa
