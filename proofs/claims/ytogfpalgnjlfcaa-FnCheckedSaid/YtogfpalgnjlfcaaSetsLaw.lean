/- FnSets: the draws of two sets, what sets do, and the walk of the law. No condition. -/
import Derived.Test.YtogfpalgnjlfcaaCurWalks
import Derived.Test.YtogfpalgnjlfcaaSortWalks
import Derived.Test.YtogfpalgnjlfcaaSetWalks3
namespace Go.Proofs.Ytogfpalgnjlfcaa
set_option linter.unusedSimpArgs false
set_option linter.unusedVariables false
open Go.RowKit

theorem Below.drawn {w w1 w2 : World} {C : Nat} (h : Below w.heap.size w w1) (hC : w.heap.size ≤ C) (k : Chg (fun b => b = C) w1 w2) : Below w.heap.size w w2 :=
  ⟨k.os.trans h.os, k.tape.trans h.tape, k.output.trans h.output, Nat.le_trans h.size k.size, fun i hi => (k.block i (Nat.lt_of_lt_of_le hi h.size) (by omega)).trans (h.block i hi)⟩


theorem isSet_of {l : List Int} {n : Int} (h : l.Pairwise (· < ·)) (hr : ∀ x ∈ l, 0 ≤ x ∧ x < n) : IsSet l n := fun k hk => by
  have h1 := hr (ix l k) (mem_ix.2 ⟨k, hk, rfl⟩)
  refine ⟨h1.1, h1.2, fun h0 => ?_⟩
  rw [ix_lt hk, ix_lt (by omega)]
  exact List.pairwise_iff_getElem.1 h (k - 1) k (by omega) hk (by omega)
theorem IsSet.pw {s : List Int} {n : Int} (h : IsSet s n) : s.Pairwise (· < ·) := by
  rw [List.pairwise_iff_getElem]
  have key : ∀ j i, i < j → j < s.length → ix s i < ix s j := by
    intro j
    induction j with
    | zero => intro i hi; omega
    | succ j ih =>
      intro i hi hj
      have h1 := (h (j + 1) hj).2.2 (by omega)
      simp only [Nat.add_sub_cancel] at h1
      by_cases e : i = j
      · subst e; exact h1
      · have := ih i (by omega) (by omega); omega
  intro i j hi hj hij
  have := key j i hij hj
  rwa [ix_lt hi, ix_lt hj] at this
theorem IsSet.rng {s : List Int} {n : Int} (h : IsSet s n) : ∀ x ∈ s, 0 ≤ x ∧ x < n := fun x hx => by
  obtain ⟨k, hk, rfl⟩ := mem_ix.1 hx
  exact ⟨(h k hk).1, (h k hk).2.1⟩
theorem IsSet.len256 {s : List Int} (h : IsSet s 256) : s.length ≤ 256 := by
  by_cases h0 : s.length = 0
  · omega
  · have key : ∀ k, k < s.length → (k : Int) ≤ ix s k := by
      intro k
      induction k with
      | zero => intro hk; have := (h 0 hk).1; omega
      | succ k ih =>
        intro hk
        have h1 := ih (by omega)
        have h2 := (h (k + 1) hk).2.2 (by omega)
        simp only [Nat.add_sub_cancel] at h2
        omega
    have h1 := key (s.length - 1) (by omega)
    have h2 := (h (s.length - 1) (by omega)).2.1
    omega
section
variable {a b : List Int}
theorem BothOf_spec (ha : IsSet a 256) (hb : IsSet b 256) : (BothOf a b).Pairwise (· < ·) ∧ ∀ x, x ∈ BothOf a b ↔ x ∈ a ∨ x ∈ b := by
  have hk : bothOkB a b = true := bothOkB_iff.2 ⟨isSetB_iff.2 ha, isSetB_iff.2 hb⟩
  unfold BothOf
  rw [if_pos hk, bothL_eq (rising_of ha.pw) (rising_of hb.pw)]
  obtain ⟨h1, h2⟩ := intoAll_spec (l := a) (xs := b) ha.pw
  exact ⟨h1, fun x => by rw [h2]; exact or_comm⟩
theorem BothOf_set (ha : IsSet a 256) (hb : IsSet b 256) : IsSet (BothOf a b) 256 :=
  isSet_of (BothOf_spec ha hb).1 fun x hx => by
    rcases ((BothOf_spec ha hb).2 x).1 hx with h | h
    · exact ha.rng x h
    · exact hb.rng x h
theorem meet_set (ha : IsSet a 256) : IsSet (meetL a b) 256 := isSet_of (ha.pw.filter _) fun x hx => ha.rng x (List.mem_filter.1 hx).1
theorem less_set (ha : IsSet a 256) : IsSet (lessL a b) 256 := isSet_of (ha.pw.filter _) fun x hx => ha.rng x (List.mem_filter.1 hx).1
theorem mem_meetL {x : Int} : x ∈ meetL a b ↔ x ∈ a ∧ x ∈ b := by unfold meetL; rw [List.mem_filter, hasB_iff]
theorem mem_lessL {x : Int} : x ∈ lessL a b ↔ x ∈ a ∧ x ∉ b := by
  unfold lessL
  rw [List.mem_filter]
  simp [hasB]
theorem hasInB_set {s : List Int} (h : IsSet s 256) (x : Int) : hasInB s x = hasB s x := by unfold hasInB; rw [isSetB_iff.2 h]; rfl
theorem has_both (ha : IsSet a 256) (hb : IsSet b 256) (x : Int) : hasInB (BothOf a b) x = (hasInB a x || hasInB b x) := by
  rw [hasInB_set (BothOf_set ha hb), hasInB_set ha, hasInB_set hb, Bool.eq_iff_iff, Bool.or_eq_true, hasB_iff, hasB_iff, hasB_iff]
  exact (BothOf_spec ha hb).2 x
theorem has_meet (ha : IsSet a 256) (hb : IsSet b 256) (x : Int) : hasInB (meetL a b) x = (hasInB a x && hasInB b x) := by
  rw [hasInB_set (meet_set ha), hasInB_set ha, hasInB_set hb, Bool.eq_iff_iff, Bool.and_eq_true, hasB_iff, hasB_iff, hasB_iff]
  exact mem_meetL
theorem both_meet_less (ha : IsSet a 256) : BothOf (meetL a b) (lessL a b) = a := by
  obtain ⟨h1, h2⟩ := BothOf_spec (meet_set (b := b) ha) (less_set (b := b) ha)
  refine lt_ext h1 ha.pw fun x => ?_
  rw [h2, mem_meetL, mem_lessL]
  by_cases h : x ∈ b <;> simp [h]
theorem both_less (ha : IsSet a 256) (hb : IsSet b 256) : BothOf (lessL a b) b = BothOf a b := by
  obtain ⟨h1, h2⟩ := BothOf_spec (less_set (b := b) ha) hb
  obtain ⟨h3, h4⟩ := BothOf_spec ha hb
  refine lt_ext h1 h3 fun x => ?_
  rw [h2, h4, mem_lessL]
  by_cases h : x ∈ b <;> simp [h]
theorem part_of (ha : IsSet a 256) (hb : IsSet b 256) (h : ∀ x ∈ a, x ∈ b) : partInB a b = true := by
  unfold partInB
  rw [bothOkB_iff.2 ⟨isSetB_iff.2 ha, isSetB_iff.2 hb⟩, Bool.true_and, decide_eq_true_iff, List.eq_nil_iff_forall_not_mem]
  intro x hx
  obtain ⟨h1, h2⟩ := mem_lessL.1 hx
  exact h2 (h x h1)
end

end Go.Proofs.Ytogfpalgnjlfcaa
