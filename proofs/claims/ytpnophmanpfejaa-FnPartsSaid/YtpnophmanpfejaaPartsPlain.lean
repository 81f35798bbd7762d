/- The parts that LoopsOf answers: each is a set within the set, no two meet, and from the least vertex of one all of it is reached. No program in sight. -/
import Derived.Test.YtpnophmanpfejaaLoopsLen
import Derived.Test.YtpnophmanpfejaaReachLaw
import Derived.Test.YtpnophmanpfejaaSetWalks3
namespace Go.Proofs.Ytpnophmanpfejaa
set_option linter.unusedSimpArgs false
set_option linter.unusedVariables false

/-- What the law asks of the k-th part. -/
structure PartFit (a : ArenaD) (s : List Int) (k : Nat) : Prop where
  pos : 0 < (rx (loopsG a s) k).length
  inside : partInB (rx (loopsG a s) k) s = true
  apart : ∀ j, j < k → MeetOf (rx (loopsG a s) k) (rx (loopsG a s) j) = []
  reach : partInB (rx (loopsG a s) k) (reachG a [ix (rx (loopsG a s) k) 0]) = true
theorem star_ways {next : List (List Int)} {m : List Bool} {x y : Nat} (h : Star (EdgeM next m) x y) : Ways next (fun _ => true) x y := by
  induction h with
  | refl => exact .refl _
  | tail _ s ih => exact .tail ih ⟨s.1, rfl⟩
theorem lessL_nil {a b : List Int} (h : ∀ x ∈ a, x ∈ b) : lessL a b = [] := by
  unfold lessL
  rw [List.filter_eq_nil_iff]
  intro x hx
  simp [hasB_iff.2 (h x hx)]
theorem partInB_of {a b : List Int} (ha : IsSet a 256) (hb : IsSet b 256) (h : ∀ x ∈ a, x ∈ b) : partInB a b = true := by
  unfold partInB bothOkB
  rw [isSetB_iff.2 ha, isSetB_iff.2 hb, lessL_nil h]
  rfl
theorem meet_nil {a b : List Int} (h : ∀ x ∈ a, x ∉ b) : MeetOf a b = [] := by
  unfold MeetOf
  split
  · unfold meetL
    rw [List.filter_eq_nil_iff]
    intro x hx hb
    exact h x hx (hasB_iff.1 hb)
  · rfl
theorem IsSet.small {s : List Int} {n : Nat} (h : IsSet s n) (hn : n ≤ 256) : IsSet s 256 := fun k hk => ⟨(h k hk).1, by have := (h k hk).2.1; omega, (h k hk).2.2⟩
theorem part_fit (a : ArenaD) (s : List Int) {k : Nat} (hk : k < (loopsG a s).length) : PartFit a s k := by
  by_cases hg : (arenaOkB a && isSetB s a.owner.length) = true
  · have hG : loopsG a s = loopsL (EdgeM a.next (marksL a.owner.length s)) s := if_pos hg
    simp only [Bool.and_eq_true] at hg
    have hok := arenaOkB_iff.1 hg.1
    have hset := isSetB_iff.1 hg.2
    have hle := hok.le
    have hpw := hset.pw
    rw [hG] at hk
    obtain ⟨v, hv, hrep, hrow⟩ := loopsL_row _ _ hk
    have hl := (isRep_iff.1 hrep).1
    have hhead := classOf_head hpw hv hrep
    have hR : rx (loopsG a s) k = classOf (EdgeM a.next (marksL a.owner.length s)) s v.toNat := by rw [hG]; exact hrow
    have hvn : 0 ≤ v ∧ v < a.owner.length := hset.rng v hv
    obtain ⟨x0, hx0⟩ : ∃ x0 : Nat, v = (x0 : Int) := ⟨v.toNat, by omega⟩
    subst hx0
    rw [Int.toNat_natCast] at hR hl hhead
    have hcs : IsSet (classOf (EdgeM a.next (marksL a.owner.length s)) s x0) 256 := isSet_of (classOf_lt hpw) fun x hx => by
      have := hset.rng x (mem_classOf.1 hx).1
      omega
    have hne : classOf (EdgeM a.next (marksL a.owner.length s)) s x0 ≠ [] := List.ne_nil_of_mem (mem_classOf.2 ⟨hv, by rw [Int.toNat_natCast]; exact hl⟩)
    have hix : ix (classOf (EdgeM a.next (marksL a.owner.length s)) s x0) 0 = (x0 : Int) := by
      unfold ix
      rw [List.getD, ← List.head?_eq_getElem?, hhead]
      rfl
    refine ⟨?_, ?_, fun j hj => ?_, ?_⟩
    · rw [hR]; exact List.length_pos_iff.2 hne
    · rw [hR]
      exact partInB_of hcs (hset.small hle) fun x hx => (mem_classOf.1 hx).1
    · rw [hR]
      have hjl : j < (loopsL (EdgeM a.next (marksL a.owner.length s)) s).length := by omega
      obtain ⟨u, hu, hrepu, hrowu⟩ := loopsL_row _ _ hjl
      have hRu : rx (loopsG a s) j = classOf (EdgeM a.next (marksL a.owner.length s)) s u.toNat := by rw [hG]; exact hrowu
      rw [hRu]
      refine meet_nil fun x hx hx2 => ?_
      obtain ⟨h1, h2⟩ := mem_classOf.1 hx
      obtain ⟨_, h3⟩ := mem_classOf.1 hx2
      have heq : classOf (EdgeM a.next (marksL a.owner.length s)) s x0 = classOf (EdgeM a.next (marksL a.owner.length s)) s u.toNat := classOf_eq hpw (h2.trans h3.symm)
      have hheadu := classOf_head hpw hu hrepu
      rw [← heq, hhead] at hheadu
      injection hheadu with hheadu
      have hlt := List.pairwise_iff_getElem.1 (loopsL_heads (R := EdgeM a.next (marksL a.owner.length s)) hpw) j k hjl hk hj
      rw [← rx_lt hjl, ← rx_lt hk, hrow, hrowu] at hlt
      rw [Int.toNat_natCast, ← heq] at hlt
      omega
    · rw [hR, hix]
      have hxs : isSetB [(x0 : Int)] a.owner.length = true := isSetB_iff.2 (fun t ht => by
        have e : t = 0 := by simpa using ht
        subst e
        exact ⟨by simp [ix], by simp [ix]; omega, fun h => by omega⟩)
      have hG2 : reachG a [(x0 : Int)] = markedL (reachS a [(x0 : Int)]) := by
        unfold reachG
        rw [hg.1, hxs]
        rfl
      refine partInB_of hcs (reachG_256 a _) fun x hx => ?_
      rw [hG2, mem_reachS]
      obtain ⟨h1, h2⟩ := mem_classOf.1 hx
      have hxr := hset.rng x h1
      exact ⟨x.toNat, by omega, by omega, x0, by simp, star_ways h2.1.star⟩
  · have hG : loopsG a s = [] := if_neg hg
    rw [hG] at hk
    simp at hk
end Go.Proofs.Ytpnophmanpfejaa
