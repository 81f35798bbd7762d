/- Who wins the play of two full plans of which one wins; what the law on the checker asks. No program in sight. -/
import Derived.Test.YtogfpalgnjlfcaaPkI
import Derived.Test.YtogfpalgnjlfcaaPkH
namespace Go.Proofs.Ytogfpalgnjlfcaa
set_option linter.unusedSimpArgs false
set_option linter.unusedVariables false

theorem play_winner {g : ParityD} (hok : ParityOk g) {even odd : List Int} (he : fullB g.arena 0 even = true) (ho : fullB g.arena 1 odd = true) {i : Int} {S : Nat → Prop} {σ : Nat → Nat}
    (h : WinsWith (duel g.arena.owner g.prio g.arena.next) i (fun x => x < g.arena.owner.length) S σ) (hσ : ∀ x, S x → ix g.arena.owner x = i → moveN g.arena even odd x = σ x) {v : Nat} (hv : S v) :
    playOkB g.arena even odd v = true ∧ wonL g (playG g.arena even odd v) = i := by
  have hvn := h.sub v hv
  have hfit := plays_fit hok.arena he ho hvn
  refine ⟨hfit.ok, ?_⟩
  have hG : playG g.arena even odd v = playT (moveN g.arena even odd) v := by
    unfold playG
    rw [if_pos hfit.ok, Int.toNat_natCast]
  have hmv := fun {x : Nat} (hx : x < g.arena.owner.length) => move_next hok.arena he ho hx
  have hf : ∀ x, x < g.arena.owner.length → moveN g.arena even odd x < g.arena.owner.length := fun x hx => (hmv hx).2.1
  obtain ⟨u, hw⟩ := play_top (p := g.prio) hf hvn fun x hx => (hok.prio x (by rw [hok.len]; exact hx)).1
  have hwin := play_wins h (f := moveN g.arena even odd) (fun x hx => by
    have hxn := h.sub x hx
    refine ⟨(mem_nat (hok.arena.set hxn)).2 (by rw [← (hmv hxn).1]; exact (hmv hxn).2.2), hf x hxn, hσ x hx⟩) hv hw
  have hl : lassoB g.arena (playG g.arena even odd v) = true := by unfold lassoB; rw [arenaOkB_iff.2 hok.arena, hfit.lasso]; rfl
  unfold wonL
  rw [parityOkB_iff.2 hok, hl, hG]
  exact hwin

/-- A plan's moves where it has any, another one's elsewhere. -/
def mixTo (plan full : List Int) (k : Nat) : List Int := (List.range full.length).map fun v => if v < k ∧ 0 ≤ ix plan v then ix plan v else ix full v
@[simp] theorem length_mixTo (plan full : List Int) (k : Nat) : (mixTo plan full k).length = full.length := by simp [mixTo]
theorem ix_mixTo {plan full : List Int} {k v : Nat} (h : v < full.length) : ix (mixTo plan full k) v = if v < k ∧ 0 ≤ ix plan v then ix plan v else ix full v := by simp [ix, mixTo, h]
theorem mixTo_zero (plan full : List Int) : mixTo plan full 0 = full := List.ext_getElem (by simp) fun v h1 h2 => by
  rw [← ix_lt h1, ← ix_lt h2, ix_mixTo h2, if_neg (by omega)]
theorem mixTo_put {plan full : List Int} {k : Nat} (hk : k < full.length) (h : 0 ≤ ix plan k) : (mixTo plan full k).set k (ix plan k) = mixTo plan full (k + 1) := List.ext_getElem (by simp) fun v h1 h2 => by
  have hv : v < full.length := by simpa using h2
  rw [List.getElem_set, ← ix_lt h2, ix_mixTo hv]
  by_cases e : k = v
  · subst e; rw [if_pos rfl, if_pos ⟨by omega, h⟩]
  · rw [if_neg e, ← ix_lt (by simpa using hv), ix_mixTo hv]
    by_cases e2 : v < k
    · have : v < k + 1 := by omega
      simp [e2, this]
    · have : ¬ v < k + 1 := by omega
      simp [e2, this]
theorem mixTo_skip {plan full : List Int} {k : Nat} (h : ¬ 0 ≤ ix plan k) : mixTo plan full k = mixTo plan full (k + 1) := List.ext_getElem (by simp) fun v h1 h2 => by
  have hv : v < full.length := by simpa using h2
  rw [← ix_lt h1, ← ix_lt h2, ix_mixTo hv, ix_mixTo hv]
  by_cases e : v = k
  · subst e; simp [h]
  · by_cases e2 : v < k
    · have : v < k + 1 := by omega
      simp [e2, this]
    · have : ¬ v < k + 1 := by omega
      simp [e2, this]
theorem full_of {a : ArenaD} {who : Int} {l : List Int} (hok : ArenaOk a) (hl : l.length = a.owner.length) (h1 : ∀ v, v < a.owner.length → ix a.owner v = who → ix l v ∈ rx a.next v) (h2 : ∀ v, v < a.owner.length → ix a.owner v ≠ who → ix l v = -1) : fullB a who l = true := by
  have hp : PlanOk a who l := by
    refine ⟨hl, fun v hv => ?_⟩
    have hv' : v < a.owner.length := by rw [← hl]; exact hv
    unfold planAtB
    by_cases e : ix a.owner v = who
    · rw [hasB_iff.2 (h1 v hv' e)]; simp [e]
    · rw [h2 v hv' e]; rfl
  unfold fullB
  rw [planB_iff.2 hp, Bool.true_and]
  unfold movesAll
  rw [decide_eq_true_eq]
  intro v hv
  have hv' : v < a.owner.length := by rw [← hl]; exact hv
  unfold movesB
  by_cases e : ix a.owner v = who
  · obtain ⟨t, ht, e2⟩ := mem_ix.1 (h1 v hv' e)
    have := (hok.set hv' t ht).1
    simp [e]; omega
  · simp [e]
theorem mix_full {a : ArenaD} {who : Int} {plan full : List Int} (hok : ArenaOk a) (hp : PlanOk a who plan) (hf : fullB a who full = true) : fullB a who (mixTo plan full plan.length) = true := by
  have hfp := full_plan hf
  refine full_of hok (by rw [length_mixTo, hfp.len]) (fun v hv ho => ?_) fun v hv ho => ?_
  · rw [ix_mixTo (by rw [hfp.len]; exact hv)]
    split
    · rename_i h
      rcases hp.move hok hv with h1 | ⟨j, h1, _, h2⟩
      · omega
      · rw [h1]; exact h2
    · exact full_at hf hv ho
  · rw [ix_mixTo (by rw [hfp.len]; exact hv), plan_other hp hv ho, if_neg (by omega)]
    exact plan_other hfp hv ho
section
variable {g : ParityD} {who : Int} {s plan full other even odd : List Int}
/-- What a win of the checker gives. -/
theorem wins_parts (h : winsG g who s plan = true) : ParityOk g ∧ CheckOk g.arena who s plan ∧ closedL g.arena who s plan = true ∧ badL g who s plan = [] ∧ badG g who s plan = [] := by
  unfold winsG winsB at h
  rw [Bool.and_eq_true, Bool.and_eq_true] at h
  obtain ⟨h1, h2, h3⟩ := h
  have hb : badL g who s plan = [] := by
    have := eq_of_beq h3
    exact List.length_eq_zero_iff.1 (by omega)
  have h4 := h1
  unfold badOkB at h4
  rw [Bool.and_eq_true] at h4
  refine ⟨parityOkB_iff.1 h4.1, checkB_iff.1 h4.2, h2, hb, ?_⟩
  unfold badG
  rw [if_pos h1, hb]
theorem checks_play (hok : ParityOk g) (hck : CheckOk g.arena who s plan) (hcl : closedL g.arena who s plan = true) (hbad : badL g who s plan = []) (hf : fullB g.arena who full = true) (ho : fullB g.arena (1 - who) other = true)
    (h0 : who = 0 → even = mixTo plan full plan.length ∧ odd = other) (h1 : who = 1 → even = other ∧ odd = mixTo plan full plan.length) {k : Nat} (hk : k < s.length) :
    playOkB g.arena even odd (ix s k) = true ∧ wonL g (playG g.arena even odd (ix s k)) = who := by
  have hm := mix_full hok.arena hck.plan hf
  have hw : who = 0 ∨ who = 1 := by have := hck.player; unfold playerB at this; rw [decide_eq_true_eq] at this; omega
  obtain ⟨v, e, hv⟩ := hck.set.vert k hk
  have hvs : (v : Int) ∈ s := by rw [← e]; exact mem_ix.2 ⟨k, hk, rfl⟩
  rw [e]
  have hwin := checked_wins hok hck hcl hbad
  have hfl := (full_plan hf).len
  have key : ∀ x : Nat, (x : Int) ∈ s → ix g.arena.owner x = who → ix (mixTo plan full plan.length) x = ix plan x := fun x hx hox => by
    have hxn := hwin.sub x hx
    have h8 := List.all_eq_true.1 hcl _ hx
    unfold closedAt at h8
    rw [Int.toNat_natCast, if_pos hox, Bool.and_eq_true, decide_eq_true_eq] at h8
    rw [ix_mixTo (by rw [hfl]; exact hxn), if_pos ⟨by rw [hck.plan.len]; exact hxn, h8.1⟩]
  rcases hw with rfl | rfl
  · obtain ⟨rfl, rfl⟩ := h0 rfl
    refine play_winner hok hm ho hwin (fun x hx hox => ?_) hvs
    unfold moveN moveI
    rw [if_pos hox, key x hx hox]
  · obtain ⟨rfl, rfl⟩ := h1 rfl
    refine play_winner hok ho hm hwin (fun x hx hox => ?_) hvs
    unfold moveN moveI
    rw [if_neg (by omega), key x hx hox]
end
end Go.Proofs.Ytogfpalgnjlfcaa
