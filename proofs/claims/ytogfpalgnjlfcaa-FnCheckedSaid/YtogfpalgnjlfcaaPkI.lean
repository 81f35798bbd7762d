/- Texts of this claim that go together: PlayLaw, PlaysFit. Conditions: those that each theorem names. -/
import Derived.Test.YtogfpalgnjlfcaaPlayPlain
import Derived.Test.YtogfpalgnjlfcaaLassoPlain
import Derived.Test.YtogfpalgnjlfcaaPkC
import Derived.Test.YtogfpalgnjlfcaaBadPlain
/- The play of two full plans: it is a play of the arena, and who wins with a plan wins it. No program in sight. -/
namespace Go.Proofs.Ytogfpalgnjlfcaa
set_option linter.unusedSimpArgs false
set_option linter.unusedVariables false

theorem play_facts {f : Nat → Nat} {v n : Nat} (hf : ∀ x, x < n → f x < n) (hv : v < n) :
    ∃ i K, i < K ∧ K ≤ n ∧ playT f v = ⟨(trackL f v K).take i, (trackL f v K).drop i⟩ ∧ iter f i v = iter f K v := by
  obtain ⟨k, hk, hk2⟩ := least_of (way_ends hf hv)
  have hlt := playAt_lt hk
  refine ⟨playAt f v k, k, hlt, way_short hf hv hk2, ?_, ?_⟩
  · unfold playT; rw [playK_eq hk hk2]
  · have h1 : (trackL f v k).idxOf ((iter f k v : Nat) : Int) < (trackL f v k).length := List.idxOf_lt_length_iff.2 hk
    have h2 := List.getElem_idxOf h1
    rw [← ix_lt h1] at h2
    have h3 : ix (trackL f v k) (playAt f v k) = _ := ix_trackL hlt
    unfold playAt at h3 ⊢
    rw [h2] at h3
    omega
theorem ix_drop (l : List Int) (i k : Nat) : ix (l.drop i) k = ix l (i + k) := by simp [ix, List.getElem?_drop]
theorem lasso_play {a : ArenaD} {f : Nat → Nat} {v : Nat} (hle : a.owner.length ≤ 256) (hst : ∀ x, x < a.owner.length → f x < a.owner.length ∧ ((f x : Nat) : Int) ∈ rx a.next x) (hv : v < a.owner.length) : isLassoB a (playT f v) = true := by
  have hf : ∀ x, x < a.owner.length → f x < a.owner.length := fun x hx => (hst x hx).1
  obtain ⟨i, K, hi, hK, e, ei⟩ := play_facts hf hv
  rw [e]
  have hw : wayL ⟨(trackL f v K).take i, (trackL f v K).drop i⟩ = trackL f v K := List.take_append_drop _ _
  have hr : roundL ⟨(trackL f v K).take i, (trackL f v K).drop i⟩ = trackL f v (K + 1) := by
    unfold roundL
    rw [hw, trackL_succ]
    show _ ++ [ix ((trackL f v K).drop i) 0] = _
    rw [ix_drop, Nat.add_zero, ix_trackL hi, ei]
  unfold isLassoB
  rw [hw, hr, Bool.and_eq_true, Bool.and_eq_true]
  refine ⟨sizesB_iff.2 ?_, ?_, ?_⟩
  · simp only [List.length_take, List.length_drop, length_trackL]
    omega
  · unfold vertsB
    rw [decide_eq_true_eq]
    intro k hk
    rw [length_trackL] at hk
    rw [ix_trackL hk]
    have := iter_lt hf hv k
    unfold thereB
    rw [decide_eq_true_eq]
    omega
  · unfold stepsB
    rw [decide_eq_true_eq]
    intro k hk
    rw [length_trackL] at hk
    by_cases h0 : k = 0
    · simp [h0]
    · rw [Bool.or_eq_true]
      right
      obtain ⟨j, rfl⟩ : ∃ j, k = j + 1 := ⟨k - 1, by omega⟩
      unfold stepB
      rw [ix_trackL hk, Nat.add_sub_cancel, ix_trackL (by omega), Int.toNat_natCast]
      exact hasB_iff.2 (hst _ (iter_lt hf hv j)).2

/-- The greatest number of the vertices that a walk leaves. -/
theorem iter_top {pr : Nat → Int} {R : Nat → Nat → Prop} {f : Nat → Nat} {v : Nat} (h : ∀ k, R (iter f k v) (iter f (k + 1) v)) (a d : Nat) :
    ∃ m, WalkM pr R (iter f a v) (iter f (a + d + 1) v) m ∧ (∀ k, a ≤ k → k ≤ a + d → pr (iter f k v) ≤ m) ∧ ∃ k, a ≤ k ∧ k ≤ a + d ∧ pr (iter f k v) = m := by
  induction d generalizing a with
  | zero => exact ⟨_, .one (h a), fun k h1 h2 => by obtain rfl : k = a := by omega
                                                    exact Int.le_refl _, a, by omega, by omega, rfl⟩
  | succ d ih =>
    obtain ⟨m, hm, h1, k, h2, h3, h4⟩ := ih (a + 1)
    have hw := WalkM.cons (h a) hm
    rw [show a + 1 + d + 1 = a + (d + 1) + 1 by omega] at hw
    refine ⟨_, hw, fun j h5 h6 => ?_, ?_⟩
    · by_cases e : j = a
      · subst e; omega
      · have := h1 j (by omega) (by omega); omega
    · by_cases e : pr (iter f a v) ≤ m
      · exact ⟨k, by omega, by omega, by omega⟩
      · exact ⟨a, by omega, by omega, by omega⟩
/-- The top of a play's loop is the top of a round trip. -/
theorem play_top {p : List Int} {f : Nat → Nat} {v n : Nat} (hf : ∀ x, x < n → f x < n) (hv : v < n) (hp : ∀ x, x < n → 0 ≤ ix p x) :
    ∃ u, WalkM (fun x => ix p x) (fun x y => y = f x ∧ ∃ k, x = iter f k v) u u (topL p (playT f v).snd) := by
  obtain ⟨i, K, hi, hK, e, ei⟩ := play_facts hf hv
  obtain ⟨m, hw, h1, k, h2, h3, h4⟩ := iter_top (pr := fun x => ix p x) (R := fun x y => y = f x ∧ ∃ k, x = iter f k v) (f := f) (v := v) (fun k => ⟨rfl, k, rfl⟩) i (K - i - 1)
  rw [show i + (K - i - 1) + 1 = K by omega, ← ei] at hw
  rw [e]
  have hmem : ∀ x, x ∈ (trackL f v K).drop i ↔ ∃ j, i ≤ j ∧ j < K ∧ x = ((iter f j v : Nat) : Int) := fun x => by
    rw [mem_ix]
    constructor
    · rintro ⟨j, hj, e⟩
      rw [List.length_drop, length_trackL] at hj
      rw [ix_drop, ix_trackL (by omega)] at e
      exact ⟨i + j, by omega, by omega, e.symm⟩
    · rintro ⟨j, h1, h2, e⟩
      refine ⟨j - i, by rw [List.length_drop, length_trackL]; omega, ?_⟩
      rw [ix_drop, show i + (j - i) = j by omega, ix_trackL h2, e]
  have htop : topL p ((trackL f v K).drop i) = m := by
    apply Int.le_antisymm
    · obtain ⟨x, hx, e⟩ := topL_at (p := p) (l := (trackL f v K).drop i) (by
        intro h0
        have := (hmem ((iter f i v : Nat) : Int)).2 ⟨i, by omega, hi, rfl⟩
        rw [h0] at this; cases this) fun x hx => by
        obtain ⟨j, _, _, e⟩ := (hmem x).1 hx
        subst e
        exact hp _ (iter_lt hf hv j)
      obtain ⟨j, hj1, hj2, e2⟩ := (hmem x).1 hx
      subst e2
      have := h1 j hj1 (by omega)
      rw [Int.toNat_natCast] at e
      omega
    · have := topL_ge (p := p) ((hmem ((iter f k v : Nat) : Int)).2 ⟨k, h2, by omega, rfl⟩)
      rw [Int.toNat_natCast] at this
      omega
  show ∃ u, WalkM _ _ u u (topL p ((trackL f v K).drop i))
  rw [htop]
  exact ⟨_, hw⟩
/-- Who plays by a plan that wins wins the play. -/
theorem play_wins {g : Duel} {i : Int} {P S : Nat → Prop} {σ f : Nat → Nat} (h : WinsWith g i P S σ) (hf : ∀ x, S x → f x ∈ g.next x ∧ P (f x) ∧ (g.own x = i → f x = σ x)) {v : Nat} (hv : S v) {u : Nat} {m : Int} (hw : WalkM g.pr (fun x y => y = f x ∧ ∃ k, x = iter f k v) u u m) : m % 2 = i := by
  have hS : ∀ x, S x → S (f x) := fun x hx => by
    obtain ⟨h1, h2, h3⟩ := hf x hx
    by_cases ho : g.own x = i
    · rw [h3 ho]; exact (h.mine x hx ho).2
    · exact h.theirs x _ hx ho h1 h2
  have horb : ∀ k, S (iter f k v) := fun k => by
    induction k with
    | zero => exact hv
    | succ k ih => exact hS _ ih
  refine h.good u m (hw.mono fun a b hab => ?_)
  obtain ⟨rfl, k, rfl⟩ := hab
  obtain ⟨h1, h2, h3⟩ := hf _ (horb k)
  exact ⟨horb k, hS _ (horb k), h1, h2, h3⟩

/-- On a round trip lies a vertex with its greatest number. -/
theorem WalkM.top_split {pr : Nat → Int} {R : Nat → Nat → Prop} {v u : Nat} {m : Int} (h : WalkM pr R v u m) : pr v = m ∨ ∃ x m1 m2, pr x = m ∧ WalkM pr R v x m1 ∧ WalkM pr R x u m2 ∧ m = max m1 m2 := by
  induction h with
  | one h => exact .inl rfl
  | cons h g ih =>
    rename_i v x u m
    by_cases e : m ≤ pr v
    · left; omega
    · right
      rcases ih with e1 | ⟨y, m1, m2, h1, h2, h3, h4⟩
      · exact ⟨x, pr v, m, by omega, .one h, g, rfl⟩
      · exact ⟨y, max (pr v) m1, m2, by omega, .cons h h2, h3, by omega⟩
theorem WalkM.at_top {pr : Nat → Int} {R : Nat → Nat → Prop} {v : Nat} {m : Int} (h : WalkM pr R v v m) : ∃ x, pr x = m ∧ WalkM pr R x x m := by
  rcases h.top_split with e | ⟨x, m1, m2, h1, h2, h3, h4⟩
  · exact ⟨v, e, h⟩
  · refine ⟨x, h1, ?_⟩
    have := h3.trans h2
    rwa [Int.max_comm, ← h4] at this
theorem mem_nat {l : List Int} {n x : Nat} (h : IsSet l n) : x ∈ l.map Int.toNat ↔ (x : Int) ∈ l := by
  rw [List.mem_map]
  constructor
  · rintro ⟨y, hy, rfl⟩
    obtain ⟨k, hk, rfl⟩ := mem_ix.1 hy
    have := (h k hk).1
    rwa [Int.toNat_of_nonneg this]
  · intro hx
    exact ⟨_, hx, by simp⟩
section
variable {g : ParityD} {who : Int} {s plan : List Int}
theorem fix_edge (hok : ParityOk g) (hck : CheckOk g.arena who s plan) (hcl : closedL g.arena who s plan = true) {x u : Nat}
    (h : Moves (duel g.arena.owner g.prio g.arena.next) who (fun x => x < g.arena.owner.length) (fun x => (x : Int) ∈ s) (fun x => (ix plan x).toNat) x u) :
    x < g.arena.owner.length ∧ (u : Int) ∈ rx (fixTo g.arena plan g.arena.next.length) x := by
  obtain ⟨h1, h2, h3, h4, h5⟩ := h
  obtain ⟨k, hk, ek⟩ := mem_ix.1 h1
  have hx : x < g.arena.owner.length := by have := (hck.set k hk).2.1; omega
  refine ⟨hx, ?_⟩
  have hl := hok.arena.len
  rw [rx_fixTo (by omega), if_pos (by omega)]
  have h6 := (mem_nat (hok.arena.set hx)).1 h3
  by_cases ho : ix g.arena.owner x = who
  · have h7 : u = (ix plan x).toNat := h5 ho
    have h8 := List.all_eq_true.1 hcl _ h1
    unfold closedAt at h8
    rw [Int.toNat_natCast, if_pos ho, Bool.and_eq_true, decide_eq_true_eq] at h8
    unfold fixAt
    rw [if_pos h8.1, List.mem_singleton, h7]
    omega
  · have h7 := hck.plan.vert x (by rw [hck.plan.len]; exact hx)
    unfold planAtB at h7
    simp only [ho, decide_false, Bool.false_and, Bool.or_false, decide_eq_true_eq] at h7
    unfold fixAt
    rw [h7, if_neg (by omega)]
    exact h6
theorem walk_beyond (hok : ParityOk g) (hck : CheckOk g.arena who s plan) (hcl : closedL g.arena who s plan = true) {x u : Nat} {m M : Int}
    (h : WalkM (fun x => ix g.prio x) (Moves (duel g.arena.owner g.prio g.arena.next) who (fun x => x < g.arena.owner.length) (fun x => (x : Int) ∈ s) (fun x => (ix plan x).toNat)) x u m) (hm : m ≤ M) (hu : ix g.prio u ≤ M) :
    ∃ y, StepIn (fixTo g.arena plan g.arena.next.length) (bx (insideL g.prio.length g.prio s M)) x y ∧ Ways (fixTo g.arena plan g.arena.next.length) (bx (insideL g.prio.length g.prio s M)) y u := by
  have hin : ∀ {y : Nat}, (y : Int) ∈ s → ix g.prio y ≤ M → bx (insideL g.prio.length g.prio s M) y = true := fun {y} h1 h2 => by
    obtain ⟨k, hk, ek⟩ := mem_ix.1 h1
    have hy := (hck.set k hk).2.1
    have hl := hok.len
    rw [bx_insideL (by omega)]
    simp [h1, h2]
  induction h with
  | one h => exact ⟨_, ⟨(fix_edge hok hck hcl h).2, hin h.2.1 hu⟩, .refl _⟩
  | cons h _ ih =>
    rename_i x y u m' hw
    obtain ⟨z, hz, hz2⟩ := ih (by omega) hu
    have hy : ix g.prio y ≤ M := by
      rcases hw.first with ⟨_, e⟩ | ⟨_, _, _, _, e⟩
      · omega
      · omega
    exact ⟨y, ⟨(fix_edge hok hck hcl h).2, hin h.2.1 hy⟩, .head hz hz2⟩
/-- A checked plan wins. -/
theorem checked_wins (hok : ParityOk g) (hck : CheckOk g.arena who s plan) (hcl : closedL g.arena who s plan = true) (hbad : badL g who s plan = []) :
    WinsWith (duel g.arena.owner g.prio g.arena.next) who (fun x => x < g.arena.owner.length) (fun x => (x : Int) ∈ s) (fun x => (ix plan x).toNat) := by
  have hlt : ∀ {x : Nat}, (x : Int) ∈ s → x < g.arena.owner.length := fun {x} h1 => by
    obtain ⟨k, hk, ek⟩ := mem_ix.1 h1
    have := (hck.set k hk).2.1; omega
  have hc : ∀ {x : Nat}, (x : Int) ∈ s → closedAt g.arena who plan (marksL g.arena.owner.length s) x = true := fun {x} h1 => by
    have := List.all_eq_true.1 hcl _ h1
    rwa [Int.toNat_natCast] at this
  have hbs : ∀ {y : Nat}, bx (marksL g.arena.owner.length s) y = true → (y : Int) ∈ s := fun {y} hy => by
    by_cases hyl : y < g.arena.owner.length
    · rw [bx_marksL hyl] at hy; simpa using hy
    · unfold bx marksL at hy; simp [hyl] at hy
  refine ⟨fun x hx => hlt hx, fun x hx ho => ?_, fun x u hx ho hu hP => ?_, fun x m hw => ?_⟩
  · have h1 := hc hx
    have ho' : ix g.arena.owner x = who := ho
    unfold closedAt at h1
    rw [if_pos ho', Bool.and_eq_true, decide_eq_true_eq] at h1
    refine ⟨?_, hbs h1.2⟩
    rcases hck.plan.move hok.arena (hlt hx) with h2 | ⟨j, h2, h3, h4⟩
    · omega
    · refine (mem_nat (hok.arena.set (hlt hx))).2 ?_
      rw [h2, Int.toNat_natCast]; exact h4
  · have h1 := hc hx
    have ho' : ¬ ix g.arena.owner x = who := ho
    unfold closedAt at h1
    rw [if_neg ho'] at h1
    have h2 := List.all_eq_true.1 h1 _ ((mem_nat (hok.arena.set (hlt hx))).1 hu)
    rw [Int.toNat_natCast] at h2
    exact hbs h2
  · obtain ⟨y, hy, hw2⟩ := hw.at_top
    have hpl := hok.len
    by_cases hpar : m % 2 = who
    · exact hpar
    · exfalso
      obtain ⟨z, hz, hz2⟩ := walk_beyond hok hck hcl hw2 (Int.le_refl m) (by have : ix g.prio y = m := hy; omega)
      have hys : (y : Int) ∈ s := by
        rcases hw2.first with ⟨h1, _⟩ | ⟨_, _, h1, _, _⟩ <;> exact h1.1
      have hyl := hlt hys
      have hy' : ix g.prio y = m := hy
      have hin : (y : Int) ∈ badL g who s plan := by
        unfold badL
        rw [List.mem_filter]
        refine ⟨hys, ?_⟩
        unfold badAt
        rw [Int.toNat_natCast, hy', Bool.and_eq_true]
        refine ⟨by simp [hpar], (bx_beyondL (by omega)).2 ⟨y, z, by simp, hz, hz2⟩⟩
      rw [hbad] at hin; cases hin
end
end Go.Proofs.Ytogfpalgnjlfcaa

/- What the law on plays asks of the play of two full plans. No program in sight. -/
namespace Go.Proofs.Ytogfpalgnjlfcaa
set_option linter.unusedSimpArgs false
set_option linter.unusedVariables false

theorem rx_fixA {a : ArenaD} {plan : List Int} (hl : a.next.length = a.owner.length) {v : Nat} (hv : v < a.owner.length) : rx (fixA a plan).next v = fixAt a plan v := by
  show rx (fixTo a plan a.next.length) v = _
  rw [rx_fixTo (by omega), if_pos (by omega)]
section
variable {a : ArenaD} {even odd : List Int}
theorem plan_other {who : Int} {plan : List Int} (h : PlanOk a who plan) {v : Nat} (hv : v < a.owner.length) (ho : ix a.owner v ≠ who) : ix plan v = -1 := by
  have h7 := h.vert v (by rw [h.len]; exact hv)
  unfold planAtB at h7
  simpa only [ho, decide_false, Bool.false_and, Bool.or_false, decide_eq_true_eq] using h7
theorem full_plan {who : Int} {plan : List Int} (h : fullB a who plan = true) : PlanOk a who plan := by
  unfold fullB at h
  rw [Bool.and_eq_true] at h
  exact planB_iff.1 h.1
theorem full_nonneg {who : Int} {plan : List Int} (hok : ArenaOk a) (h : fullB a who plan = true) {v : Nat} (hv : v < a.owner.length) (ho : ix a.owner v = who) : 0 ≤ ix plan v := by
  have h1 := full_at h hv ho
  obtain ⟨k, hk, e⟩ := mem_ix.1 h1
  have := (hok.set hv k hk).1
  omega
/-- What holds of two full plans and of a vertex. -/
structure PlaysFit (a : ArenaD) (even odd : List Int) (v : Nat) : Prop where
  ok : playOkB a even odd v = true
  lasso : isLassoB a (playG a even odd v) = true
  x : planOkB a 0 even = true
  y : planOkB (fixA a even) 1 odd = true
  pl : planOkB a 1 odd = true
  lasso2 : lassoB (fixA (fixA a even) odd) (playG a even odd v) = true
  first : ix (wayL (playG a even odd v)) 0 = (v : Int)
  pos : 1 ≤ (wayL (playG a even odd v)).length
  short : (wayL (playG a even odd v)).length ≤ a.owner.length
theorem fix_plan (hok : ArenaOk a) (he : fullB a 0 even = true) (ho : fullB a 1 odd = true) : PlanOk (fixA a even) 1 odd := by
  have he' := full_plan he
  have ho' := full_plan ho
  refine ⟨ho'.len, fun v hv => ?_⟩
  have hvn : v < a.owner.length := by rw [← ho'.len]; exact hv
  unfold planAtB
  rw [rx_fixA hok.len hvn]
  have h1 := ho'.vert v hv
  by_cases e : ix a.owner v = 1
  · have h2 := plan_other he' hvn (by omega)
    have e2 : fixAt a even v = rx a.next v := by unfold fixAt; rw [h2]; rfl
    rw [e2]
    exact h1
  · rw [plan_other ho' hvn e]; rfl
theorem plays_fit (hok : ArenaOk a) (he : fullB a 0 even = true) (ho : fullB a 1 odd = true) {v : Nat} (hv : v < a.owner.length) : PlaysFit a even odd v := by
  have he' := full_plan he
  have ho' := full_plan ho
  have hp : playOkB a even odd v = true := by
    unfold playOkB
    rw [arenaOkB_iff.2 hok, he, ho]
    unfold thereB
    simp; omega
  have hG : playG a even odd v = playT (moveN a even odd) v := by
    unfold playG
    rw [if_pos hp, Int.toNat_natCast]
  have hmv := fun {x : Nat} (hx : x < a.owner.length) => move_next hok he ho hx
  have hf : ∀ x, x < a.owner.length → moveN a even odd x < a.owner.length := fun x hx => (hmv hx).2.1
  have hyp := fix_plan hok he ho
  have hxok := fixA_ok hok he'
  have hyok := fixA_ok hxok hyp
  obtain ⟨i, K, hi, hK, e, ei⟩ := play_facts hf hv
  have hw : wayL (playG a even odd v) = trackL (moveN a even odd) v K := by
    rw [hG, e]; exact List.take_append_drop _ _
  refine ⟨hp, ?_, ?_, ?_, ?_, ?_, ?_, ?_, ?_⟩
  · rw [hG]
    exact lasso_play hok.le (fun x hx => ⟨hf x hx, by rw [← (hmv hx).1]; exact (hmv hx).2.2⟩) hv
  · unfold planOkB; rw [arenaOkB_iff.2 hok, planB_iff.2 he']; rfl
  · unfold planOkB; rw [arenaOkB_iff.2 hxok, planB_iff.2 hyp]; rfl
  · unfold planOkB; rw [arenaOkB_iff.2 hok, planB_iff.2 ho']; rfl
  · unfold lassoB
    rw [arenaOkB_iff.2 hyok, hG, Bool.true_and]
    refine lasso_play (a := fixA (fixA a even) odd) hok.le (fun x hx => ⟨hf x hx, ?_⟩) hv
    have hx' : x < a.owner.length := hx
    rw [rx_fixA hxok.len hx', ← (hmv hx').1]
    have hown := hok.owner hx'
    by_cases e0 : ix a.owner x = 0
    · have h1 := plan_other ho' hx' (by omega)
      have h2 := full_nonneg hok he hx' e0
      have e1 : fixAt (fixA a even) odd x = fixAt a even x := by
        have : fixAt (fixA a even) odd x = rx (fixA a even).next x := by unfold fixAt; rw [h1]; rfl
        rw [this, rx_fixA hok.len hx']
      rw [e1]
      unfold fixAt moveI
      rw [if_pos h2, if_pos e0]
      simp
    · have h2 := full_nonneg hok ho hx' (by omega)
      unfold fixAt moveI
      rw [if_pos h2, if_neg e0]
      simp
  · rw [hw, ix_trackL (by omega)]; rfl
  · rw [hw, length_trackL]; omega
  · rw [hw, length_trackL]; exact hK
end
end Go.Proofs.Ytogfpalgnjlfcaa
