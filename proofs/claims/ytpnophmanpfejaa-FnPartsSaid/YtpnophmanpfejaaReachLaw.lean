/- What ReachOf answers is a closed set, and from it no more is reached. No program in sight. -/
import Derived.Test.YtpnophmanpfejaaReachOf
import Derived.Test.YtpnophmanpfejaaSetsLaw
import Derived.Test.YtpnophmanpfejaaPrevPlain
namespace Go.Proofs.Ytpnophmanpfejaa
set_option linter.unusedSimpArgs false
set_option linter.unusedVariables false

theorem mem_reachS {a : ArenaD} {s : List Int} {x : Int} : x ∈ markedL (reachS a s) ↔ ∃ j : Nat, j < a.owner.length ∧ x = (j : Int) ∧ Reached a.next (fun _ => true) (fun x => (x : Int) ∈ s) j := by
  rw [mem_markedL]
  constructor
  · rintro ⟨j, hj, e, h⟩
    have hj' : j < a.owner.length := by simpa [reachS] using hj
    exact ⟨j, hj', e, (bx_reachL hj').1 h⟩
  · rintro ⟨j, hj, e, h⟩
    exact ⟨j, by simpa [reachS] using hj, e, (bx_reachL hj).2 h⟩
theorem reachS_set (a : ArenaD) (s : List Int) : IsSet (markedL (reachS a s)) (a.owner.length : Int) :=
  isSet_of (sorted_upFrom_filter _ _) fun x hx => by
    obtain ⟨j, hj, rfl, _⟩ := mem_reachS.1 hx
    omega
theorem reachG_set (a : ArenaD) (s : List Int) : IsSet (reachG a s) (a.owner.length : Int) := by
  unfold reachG
  split
  · exact reachS_set a s
  · intro k hk; simp at hk
theorem reachG_none {a : ArenaD} (h : arenaOkB a = false) (s : List Int) : reachG a s = [] := by unfold reachG; rw [h]; rfl
theorem reachG_256 (a : ArenaD) (s : List Int) : IsSet (reachG a s) 256 := by
  cases h : arenaOkB a
  · rw [reachG_none h]; intro k hk; simp at hk
  · have hok := arenaOkB_iff.1 h
    exact isSet_of (reachG_set a s).pw fun x hx => by
      have h1 := (reachG_set a s).rng x hx
      have h2 := hok.le
      omega
/-- Each member is a vertex, and each of its successors is a member. -/
theorem reachG_step {a : ArenaD} {s : List Int} {k : Nat} (hk : k < (reachG a s).length) : ∃ j : Nat, ix (reachG a s) k = (j : Int) ∧ j < a.next.length ∧ ∀ t, t < (rx a.next j).length → hasInB (reachG a s) (ix (rx a.next j) t) = true := by
  have hm : ix (reachG a s) k ∈ reachG a s := mem_ix.2 ⟨k, hk, rfl⟩
  cases h : arenaOkB a
  · rw [reachG_none h] at hk; simp at hk
  · have hok := arenaOkB_iff.1 h
    cases h2 : isSetB s a.owner.length
    · exfalso
      unfold reachG at hk
      rw [h2] at hk
      simp at hk
    · have e : reachG a s = markedL (reachS a s) := by unfold reachG; rw [h, h2]; rfl
      rw [e] at hm
      obtain ⟨j, hj, hx, hr⟩ := mem_reachS.1 hm
      refine ⟨j, by rw [e]; exact hx, by rw [hok.len]; exact hj, fun t ht => ?_⟩
      obtain ⟨y, hy, hyn⟩ := hok.vert_next' hj ht
      rw [hasInB_set (reachG_256 a s), hasB_iff, e]
      exact mem_reachS.2 ⟨y, hyn, hy, hr.step ⟨by rw [← hy]; exact mem_ix.2 ⟨t, ht, rfl⟩, rfl⟩⟩
theorem reachG_idem (a : ArenaD) (s : List Int) : reachG a (reachG a s) = reachG a s := by
  cases h : arenaOkB a
  · rw [reachG_none h, reachG_none h]
  · have h1 : isSetB (reachG a s) a.owner.length = true := isSetB_iff.2 (reachG_set a s)
    have e1 : reachG a (reachG a s) = markedL (reachS a (reachG a s)) := by
      show (if arenaOkB a && isSetB (reachG a s) a.owner.length then _ else _) = _
      rw [h, h1]; rfl
    rw [e1]
    cases h2 : isSetB s a.owner.length
    · have e : reachG a s = [] := by unfold reachG; rw [h2]; simp
      rw [e]
      apply List.eq_nil_iff_forall_not_mem.2
      intro x hx
      obtain ⟨j, _, _, u, hu, _⟩ := mem_reachS.1 hx
      simp at hu
    · have e : reachG a s = markedL (reachS a s) := by unfold reachG; rw [h, h2]; rfl
      rw [e]
      congr 1
      unfold reachS reachL
      apply List.map_congr_left
      intro j hj
      have hj' : j < a.owner.length := by simpa using hj
      refine decide_eq_decide.2 ⟨?_, fun hr => ?_⟩
      · rintro ⟨u, hu, hw⟩
        obtain ⟨i, _, ei, u0, hu0, hw0⟩ := mem_reachS.1 hu
        obtain rfl : u = i := by omega
        exact ⟨u0, hu0, hw0.trans hw⟩
      · exact ⟨j, mem_reachS.2 ⟨j, hj', rfl, hr⟩, .refl _⟩
end Go.Proofs.Ytpnophmanpfejaa
