/- How the program completes empty picks to a plan that wins, and why no smaller pick would do. No program in sight. -/
import Derived.Test.YtmkmghjmfaoobaaDetermined
import Derived.Test.YtmkmghjmfaoobaaWinnersWalks
import Derived.Test.YtmkmghjmfaoobaaPkF
import Derived.Test.YtmkmghjmfaoobaaPkE
namespace Go.Proofs.Ytmkmghjmfaoobaa
set_option linter.unusedSimpArgs false
set_option linter.unusedVariables false

theorem WinsWith.same {g h : Duel} {i : Int} {P S : Nat → Prop} {σ : Nat → Nat} (ho : h.own = g.own) (hp : h.pr = g.pr) (hn : ∀ v, S v → ∀ u, u ∈ h.next v → u ∈ g.next v) (hm : ∀ v, S v → g.own v = i → σ v ∈ h.next v) (k : WinsWith g i P S σ) : WinsWith h i P S σ :=
  ⟨k.sub, fun v hv e => ⟨hm v hv (by rw [← ho]; exact e), (k.mine v hv (by rw [← ho]; exact e)).2⟩, fun v u hv e hu hP => k.theirs v u hv (by rw [← ho]; exact e) (hn v hv u hu) hP,
    fun v m hw => k.good v m (by rw [← hp]; exact hw.mono fun a b hab => ⟨hab.1, hab.2.1, hn a hab.1 b hab.2.2.1, hab.2.2.2.1, fun e => hab.2.2.2.2 (by rw [ho]; exact e)⟩)⟩
theorem Dom.same {g h : Duel} {i : Int} {P S : Nat → Prop} (ho : h.own = g.own) (hp : h.pr = g.pr) (hn : ∀ v, S v → h.next v = g.next v) (k : Dom g i P S) : Dom h i P S := by
  obtain ⟨σ, k⟩ := k
  exact ⟨σ, k.same ho hp (fun v hv u hu => by rw [← hn v hv]; exact hu) fun v hv e => by rw [hn v hv]; exact (k.mine v hv e).1⟩

/-- The winner of each vertex. -/
noncomputable def wonOf (g : ParityD) : List Int := winnersL (duelP g) g.arena.owner.length
/-- What i wins. -/
def Reg (g : ParityD) (i : Int) (v : Nat) : Prop := v < g.arena.owner.length ∧ ix (wonOf g) v = i
/-- Picks that are successors. -/
structure Picks (g : ParityD) (plan : List Int) : Prop where
  len : plan.length = g.arena.owner.length
  at_ : ∀ v, v < g.arena.owner.length → ix plan v = -1 ∨ ix plan v ∈ rx g.arena.next v

section
variable {g : ParityD} {i : Int} {plan : List Int}
theorem ParityOk.own01 (hok : ParityOk g) {v : Nat} (hv : v < g.arena.owner.length) : (duelP g).own v = 0 ∨ (duelP g).own v = 1 := by
  have := hok.arena.owner hv
  show ix g.arena.owner v = 0 ∨ ix g.arena.owner v = 1
  omega
theorem ParityOk.det (hok : ParityOk g) {m : List Bool} (hm : m.length = g.arena.owner.length) (ht : Tot (duelP g) (On m)) : WonB (duelP g) m (evenW (duelP g) m) 0 :=
  determined (p := g.prio) (fun v hv => hok.own01 hv) rfl (fun v hv => (hok.prio v (by rw [hok.len]; exact hv)).1) hm ht
theorem won_full (hok : ParityOk g) : WonB (duelP g) (fullM g.arena.owner.length) (evenW (duelP g) (fullM g.arena.owner.length)) 0 := hok.det (length_fullM _) (hok.arena.tot g.prio)
theorem reg_even (hok : ParityOk g) (v : Nat) : On (evenW (duelP g) (fullM g.arena.owner.length)) v ↔ Reg g 0 v := by
  unfold Reg wonOf
  constructor
  · intro h
    have hv := on_fullM.1 (evenW_sub (won_full hok) h)
    have h' : bx (evenW (duelP g) (fullM g.arena.owner.length)) v = true := h
    rw [ix_winnersL hv, if_pos h']
    exact ⟨hv, rfl⟩
  · rintro ⟨hv, h⟩
    rw [ix_winnersL hv] at h
    split at h
    · rename_i h1; exact h1
    · omega
theorem reg_odd (hok : ParityOk g) (v : Nat) : On (restL (fullM g.arena.owner.length) (evenW (duelP g) (fullM g.arena.owner.length))) v ↔ Reg g 1 v := by
  rw [on_restL, on_fullM]
  unfold Reg wonOf
  refine and_congr_right fun hv => ?_
  rw [ix_winnersL hv]
  unfold On
  split
  · rename_i h1; simp [h1]
  · rename_i h1; simp [h1]
theorem won01 (g : ParityD) {v : Nat} (hv : v < g.arena.owner.length) : ix (wonOf g) v = 0 ∨ ix (wonOf g) v = 1 := by
  unfold wonOf
  rw [ix_winnersL hv]
  split <;> simp
theorem reg_dom (hok : ParityOk g) (hi : i = 0 ∨ i = 1) : Dom (duelP g) i (fun v => v < g.arena.owner.length) (Reg g i) := by
  have h := won_full hok
  rcases hi with rfl | rfl
  · exact (h.mine.congrP fun v => on_fullM).congr (reg_even hok)
  · exact (h.theirs.congrP fun v => on_fullM).congr (reg_odd hok)
theorem mem_next (hok : ParityOk g) {v u : Nat} (hv : v < g.arena.owner.length) : u ∈ (duelP g).next v ↔ (u : Int) ∈ rx g.arena.next v := mem_nat (hok.arena.set hv)
theorem next_lt (hok : ParityOk g) {v : Nat} (hv : v < g.arena.owner.length) {x : Int} (hx : x ∈ rx g.arena.next v) : ∃ u : Nat, x = (u : Int) ∧ u < g.arena.owner.length := by
  obtain ⟨t, ht, rfl⟩ := mem_ix.1 hx
  exact (hok.arena.set hv).vert t ht
theorem reg_stay (hok : ParityOk g) (hi : i = 0 ∨ i = 1) {v u : Nat} (hv : Reg g i v) (ho : ix g.arena.owner v ≠ i) (hu : (u : Int) ∈ rx g.arena.next v) : Reg g i u := by
  obtain ⟨σ, h⟩ := reg_dom hok hi
  obtain ⟨j, e, hj⟩ := next_lt hok hv.1 hu
  exact h.theirs v u hv ho ((mem_next hok hv.1).2 hu) (by omega)
theorem only_next (hok : ParityOk g) {v : Nat} (hv : v < g.arena.owner.length) : (duelP (onlyP g plan)).next v = (fixAt g.arena plan v).map Int.toNat := by
  show (rx (fixA g.arena plan).next v).map Int.toNat = _
  rw [rx_fixA hok.arena.len hv]
theorem only_free (hok : ParityOk g) {v : Nat} (hv : v < g.arena.owner.length) (h : ix plan v = -1) : (duelP (onlyP g plan)).next v = (duelP g).next v := by
  rw [only_next hok hv]
  unfold fixAt
  rw [h, if_neg (by omega)]
  rfl
theorem only_pick (hok : ParityOk g) {v u : Nat} (hv : v < g.arena.owner.length) (h : ix plan v = (u : Int)) : (duelP (onlyP g plan)).next v = [u] := by
  rw [only_next hok hv]
  unfold fixAt
  rw [h, if_pos (by omega)]
  simp
theorem Picks.cases (hok : ParityOk g) (hp : Picks g plan) {v : Nat} (hv : v < g.arena.owner.length) : ix plan v = -1 ∨ ∃ u : Nat, ix plan v = (u : Int) ∧ (u : Int) ∈ rx g.arena.next v ∧ u < g.arena.owner.length := by
  rcases hp.at_ v hv with h | h
  · exact .inl h
  · obtain ⟨u, e, hu⟩ := next_lt hok hv h
    exact .inr ⟨u, e, by rw [← e]; exact h, hu⟩
theorem only_sub (hok : ParityOk g) (hp : Picks g plan) {v u : Nat} (hv : v < g.arena.owner.length) (hu : u ∈ (duelP (onlyP g plan)).next v) : u ∈ (duelP g).next v := by
  rcases hp.cases hok hv with h | ⟨x, h, hx, _⟩
  · rwa [only_free hok hv h] at hu
  · rw [only_pick hok hv h, List.mem_singleton] at hu
    subst hu
    exact (mem_next hok hv).2 hx
theorem only_ok (hok : ParityOk g) (hp : Picks g plan) : ParityOk (onlyP g plan) := by
  have hl := hok.arena.len
  refine ⟨⟨hok.arena.pos, hok.arena.le, by simp [onlyP, fixA, hl], fun v hv => ?_⟩, hok.len, hok.prio⟩
  have hv' : v < g.arena.owner.length := hv
  have hrx : rx (onlyP g plan).arena.next v = fixAt g.arena plan v := rx_fixA hl hv'
  have h0 := hok.arena.vert v hv'
  rcases hp.cases hok hv' with h1 | ⟨j, h1, _, h2⟩
  · have e : fixAt g.arena plan v = rx g.arena.next v := by unfold fixAt; rw [h1]; rfl
    unfold vertexOkB
    rw [hrx, e]
    exact h0
  · have e : fixAt g.arena plan v = [(j : Int)] := by unfold fixAt; rw [h1, if_pos (by omega)]
    unfold vertexOkB
    rw [hrx, e]
    have h3 := hok.arena.owner hv'
    have h4 : isSetB [(j : Int)] g.arena.owner.length = true := isSetB_iff.2 fun k hk => by
      have : k = 0 := by simpa using hk
      subst this
      simp [ix]; omega
    simp only [Bool.and_eq_true, decide_eq_true_eq]
    exact ⟨⟨⟨h3, by simp⟩, by simp⟩, h4⟩
/-- The vertices that i wins, as a list. -/
theorem mem_reg {x : Nat} : (x : Int) ∈ places (wonOf g) i ↔ Reg g i x := by
  unfold places placesTo Reg
  rw [List.mem_filter, mem_upFrom]
  simp only [Int.toNat_natCast, decide_eq_true_eq]
  unfold wonOf
  rw [length_winnersL]
  constructor
  · rintro ⟨⟨j, hj, e⟩, h⟩; exact ⟨by omega, h⟩
  · rintro ⟨h1, h2⟩; exact ⟨⟨x, h1, rfl⟩, h2⟩
theorem on_reg {v : Nat} : On (marksL g.arena.owner.length (places (wonOf g) i)) v ↔ Reg g i v := by
  rw [on_marksL, mem_reg]
  exact ⟨fun h => h.2, fun h => ⟨h.1, h⟩⟩
theorem vert_reg (g : ParityD) (i : Int) : Vert (places (wonOf g) i) g.arena.owner.length := fun k hk => by
  have hm : ix (places (wonOf g) i) k ∈ places (wonOf g) i := mem_ix.2 ⟨k, hk, rfl⟩
  generalize ix (places (wonOf g) i) k = x at hm
  unfold places placesTo at hm
  rw [List.mem_filter, mem_upFrom] at hm
  obtain ⟨⟨j, hj, e⟩, _⟩ := hm
  unfold wonOf at hj
  rw [length_winnersL] at hj
  exact ⟨j, e, hj⟩
/-- In what i wins every vertex has a successor still. -/
theorem reg_tot (hok : ParityOk g) (hi : i = 0 ∨ i = 1) (hm : ∀ v, Reg g i v → ix g.arena.owner v = i → ix plan v = -1 ∨ ∃ u : Nat, ix plan v = (u : Int) ∧ Reg g i u) (ht : ∀ v, Reg g i v → ix g.arena.owner v ≠ i → ix plan v = -1) : Tot (duelP (onlyP g plan)) (Reg g i) := fun v hv => by
  by_cases ho : ix g.arena.owner v = i
  · rcases hm v hv ho with h | ⟨u, h, hu⟩
    · rw [only_free hok hv.1 h]
      obtain ⟨σ, hd⟩ := reg_dom hok hi
      have := hd.mine v hv ho
      exact ⟨_, this.1, this.2⟩
    · rw [only_pick hok hv.1 h]
      exact ⟨u, by simp, hu⟩
  · rw [only_free hok hv.1 (ht v hv ho)]
    have hd := (hok.arena.deg hv.1).1
    obtain ⟨j, hj, hjn⟩ := (hok.arena.set hv.1).vert 0 (by omega)
    have hm : (j : Int) ∈ rx g.arena.next v := mem_ix.2 ⟨0, by omega, hj⟩
    exact ⟨j, (mem_next hok hv.1).2 hm, reg_stay hok hi hv ho hm⟩
/-- Who wins nothing. -/
theorem test_dom (hok : ParityOk g) {m : List Bool} (hm : m.length = g.arena.owner.length) (ht : Tot (duelP g) (On m)) :
    (markedL (restL m (evenW (duelP g) m)) = [] ↔ Dom (duelP g) 0 (On m) (On m)) ∧ (markedL (evenW (duelP g) m) = [] ↔ Dom (duelP g) 1 (On m) (On m)) := by
  have h := hok.det hm ht
  have hown : ∀ v, On m v → (duelP g).own v = 0 ∨ (duelP g).own v = 1 := fun v hv => hok.own01 (hm ▸ hv.lt)
  have hn : ∀ v, On m v → v < g.arena.owner.length := fun v hv => hm ▸ hv.lt
  have hsub : ∀ v, On (evenW (duelP g) m) v → On m v := fun v hv => h.sub0 hv
  refine ⟨⟨fun e => ?_, fun hd => ?_⟩, ⟨fun e => ?_, fun hd => ?_⟩⟩
  · have hno := markedL_nil.1 e
    exact h.mine.congr fun v => ⟨hsub v, fun hv => Classical.byContradiction fun hx => hno v (on_restL.2 ⟨hv, hx⟩)⟩
  · exact markedL_nil.2 fun v hv => Dom.apart (by decide) hown hn hd h.theirs (on_restL.1 hv).1 hv
  · have hno := markedL_nil.1 e
    have h3 : Dom (duelP g) 1 (On m) (On (restL m (evenW (duelP g) m))) := h.theirs
    exact h3.congr fun v => ⟨fun hv => (on_restL.1 hv).1, fun hv => on_restL.2 ⟨hv, hno v⟩⟩
  · exact markedL_nil.2 fun v hv => Dom.apart (by decide) hown hn h.mine hd hv (hsub v hv)
/-- With these picks i wins all that it wins of g. -/
def Holds (g : ParityD) (plan : List Int) (i : Int) : Prop := Dom (duelP (onlyP g plan)) i (Reg g i) (Reg g i)
theorem test_holds (hok : ParityOk g) (hp : Picks g plan) (ht : Tot (duelP (onlyP g plan)) (Reg g i)) :
    (i = 0 → (markedL (restL (marksL g.arena.owner.length (places (wonOf g) i)) (evenW (duelP (onlyP g plan)) (marksL g.arena.owner.length (places (wonOf g) i)))) = [] ↔ Holds g plan i)) ∧
    (i = 1 → (markedL (evenW (duelP (onlyP g plan)) (marksL g.arena.owner.length (places (wonOf g) i))) = [] ↔ Holds g plan i)) := by
  have e : On (marksL g.arena.owner.length (places (wonOf g) i)) = Reg g i := funext fun v => propext on_reg
  have h := test_dom (g := onlyP g plan) (only_ok hok hp) (m := marksL g.arena.owner.length (places (wonOf g) i)) (by simp [onlyP, fixA]) (by rw [e]; exact ht)
  rw [e] at h
  unfold Holds
  exact ⟨fun hi => by subst hi; exact h.1, fun hi => by subst hi; exact h.2⟩

/-- The first k entries of a plan. -/
def cutTo (plan : List Int) (k : Nat) : List Int := (List.range plan.length).map fun v => if v < k then ix plan v else -1
@[simp] theorem length_cutTo (plan : List Int) (k : Nat) : (cutTo plan k).length = plan.length := by simp [cutTo]
theorem ix_cutTo {plan : List Int} {k v : Nat} (h : v < plan.length) : ix (cutTo plan k) v = if v < k then ix plan v else -1 := by simp [ix, cutTo, h]
theorem ix_setP {l : List Int} {k v : Nat} {x : Int} (h : k < l.length) : ix (l.set k x) v = if v = k then x else ix l v := by
  unfold ix
  by_cases e : v = k
  · subst e; simp [h]
  · rw [if_neg e]
    have : k ≠ v := fun e' => e e'.symm
    simp [List.getElem?_set, this]
theorem ints_ext {l m : List Int} (hl : l.length = m.length) (h : ∀ v, v < m.length → ix l v = ix m v) : l = m := List.ext_getElem hl fun v h1 h2 => by
  rw [← ix_lt h1, ← ix_lt h2]; exact h v h2
/-- What holds of a plan whose first k entries are made. -/
structure PlanInv (g : ParityD) (k : Nat) (plan : List Int) : Prop where
  len : plan.length = g.arena.owner.length
  made : ∀ v, v < k → v < g.arena.owner.length → ix g.arena.owner v = ix (wonOf g) v → ∃ u : Nat, ix plan v = (u : Int) ∧ (u : Int) ∈ rx g.arena.next v ∧ Reg g (ix (wonOf g) v) u
  none_ : ∀ v, v < g.arena.owner.length → (ix g.arena.owner v ≠ ix (wonOf g) v ∨ k ≤ v) → ix plan v = -1
  dom : ∀ i, (i = 0 ∨ i = 1) → Holds g plan i
  least : ∀ v, v < k → v < g.arena.owner.length → ix g.arena.owner v = ix (wonOf g) v → ∀ j, j < (rx g.arena.next v).length → ix (rx g.arena.next v) j < ix plan v →
    ix (wonOf g) (ix (rx g.arena.next v) j).toNat ≠ ix (wonOf g) v ∨ ¬ Holds g ((cutTo plan v).set v (ix (rx g.arena.next v) j)) (ix (wonOf g) v)
theorem PlanInv.picks {k : Nat} (h : PlanInv g k plan) : Picks g plan := by
  refine ⟨h.len, fun v hv => ?_⟩
  by_cases e : ix g.arena.owner v = ix (wonOf g) v
  · by_cases hk : v < k
    · obtain ⟨u, h1, h2, _⟩ := h.made v hk hv e
      right; rw [h1]; exact h2
    · exact .inl (h.none_ v hv (.inr (by omega)))
  · exact .inl (h.none_ v hv (.inl e))
theorem PlanInv.cut {k : Nat} (h : PlanInv g k plan) : cutTo plan k = plan := ints_ext (by simp) fun v hv => by
  rw [ix_cutTo hv]
  split
  · rfl
  · exact (h.none_ v (by rw [← h.len]; exact hv) (.inr (by omega))).symm
theorem inv_zero (hok : ParityOk g) : PlanInv g 0 (List.replicate g.arena.owner.length (-1)) := by
  have hx : ∀ v, v < g.arena.owner.length → ix (List.replicate g.arena.owner.length (-1)) v = -1 := fun v hv => by simp [ix, hv]
  refine ⟨by simp, fun v hk => by omega, fun v hv _ => hx v hv, fun i hi => ?_, fun v hk => by omega⟩
  exact Dom.same (g := duelP g) (h := duelP (onlyP g (List.replicate g.arena.owner.length (-1)))) rfl rfl (fun v hv => only_free hok hv.1 (hx v hv.1)) ((reg_dom hok hi).less (fun v hv => hv.1) fun v hv => hv)
theorem PlanInv.skip {k : Nat} (h : PlanInv g k plan) (ho : ix g.arena.owner k ≠ ix (wonOf g) k) : PlanInv g (k + 1) plan := by
  refine ⟨h.len, fun v hk hv e => ?_, fun v hv hc => ?_, h.dom, fun v hk hv e => ?_⟩
  · have : v ≠ k := fun e' => ho (e' ▸ e)
    exact h.made v (by omega) hv e
  · exact h.none_ v hv (hc.imp id fun h => by omega)
  · have : v ≠ k := fun e' => ho (e' ▸ e)
    exact h.least v (by omega) hv e
/-- The picks with one more. -/
theorem set_picks {k : Nat} {x : Int} (h : Picks g plan) (hk : k < g.arena.owner.length) (hx : x ∈ rx g.arena.next k) : Picks g (plan.set k x) := by
  refine ⟨by simp [h.len], fun v hv => ?_⟩
  rw [ix_setP (by rw [h.len]; exact hk)]
  split
  · rename_i e; subst e; exact .inr hx
  · exact h.at_ v hv
theorem PlanInv.tot {k : Nat} (hok : ParityOk g) (h : PlanInv g k plan) (hk : k < g.arena.owner.length) {x : Int} (hx : x ∈ rx g.arena.next k) (hi : i = 0 ∨ i = 1) (ho : ix g.arena.owner k = i) (hw : ix (wonOf g) k = i) (hxw : ix (wonOf g) x.toNat = i) :
    Tot (duelP (onlyP g (plan.set k x))) (Reg g i) := by
  obtain ⟨u, rfl, hu⟩ := next_lt hok hk hx
  rw [Int.toNat_natCast] at hxw
  refine reg_tot hok hi (fun v hv hov => ?_) fun v hv hov => ?_
  · rw [ix_setP (by rw [h.len]; exact hk)]
    split
    · exact .inr ⟨u, rfl, hu, hxw⟩
    · by_cases hvk : v < k
      · obtain ⟨y, h1, _, h3⟩ := h.made v hvk hv.1 (by rw [hov, hv.2])
        exact .inr ⟨y, h1, by rw [hv.2] at h3; exact h3⟩
      · exact .inl (h.none_ v hv.1 (.inr (by omega)))
  · rw [ix_setP (by rw [h.len]; exact hk), if_neg (fun e => hov (by rw [e]; exact ho))]
    exact h.none_ v hv.1 (.inl (by rw [hv.2]; exact hov))
theorem PlanInv.pick {k t : Nat} (hok : ParityOk g) (h : PlanInv g k plan) (hk : k < g.arena.owner.length) (hi : i = 0 ∨ i = 1) (ho : ix g.arena.owner k = i) (hw : ix (wonOf g) k = i) (ht : t < (rx g.arena.next k).length)
    (hxw : ix (wonOf g) (ix (rx g.arena.next k) t).toNat = i) (hd : Holds g (plan.set k (ix (rx g.arena.next k) t)) i) (hb : ∀ j, j < t → ix (wonOf g) (ix (rx g.arena.next k) j).toNat ≠ i ∨ ¬ Holds g (plan.set k (ix (rx g.arena.next k) j)) i) :
    PlanInv g (k + 1) (plan.set k (ix (rx g.arena.next k) t)) := by
  have hkl : k < plan.length := by rw [h.len]; exact hk
  have hx : ix (rx g.arena.next k) t ∈ rx g.arena.next k := mem_ix.2 ⟨t, ht, rfl⟩
  obtain ⟨u, eu, hu⟩ := next_lt hok hk hx
  have hcut : ∀ v, v ≤ k → cutTo (plan.set k (ix (rx g.arena.next k) t)) v = cutTo plan v := fun v hv => ints_ext (by simp) fun x hx => by
    rw [length_cutTo] at hx
    rw [ix_cutTo (by simpa using hx), ix_cutTo hx, ix_setP hkl]
    by_cases e : x < v
    · rw [if_pos e, if_pos e, if_neg (by omega)]
    · rw [if_neg e, if_neg e]
  refine ⟨by simp [h.len], fun v hvk hv e => ?_, fun v hv hc => ?_, fun j hj => ?_, fun v hvk hv e j hj hlt => ?_⟩
  · rw [ix_setP hkl]
    by_cases e2 : v = k
    · subst e2
      rw [if_pos rfl, hw]
      rw [eu, Int.toNat_natCast] at hxw
      exact ⟨u, eu, by rw [← eu]; exact hx, hu, hxw⟩
    · rw [if_neg e2]; exact h.made v (by omega) hv e
  · have e2 : v ≠ k := fun e => by
      subst e
      rcases hc with h1 | h1
      · exact h1 (by rw [ho, hw])
      · omega
    rw [ix_setP hkl, if_neg e2]
    exact h.none_ v hv (hc.imp id fun h => by omega)
  · by_cases e : j = i
    · subst e; exact hd
    · refine Dom.same (g := duelP (onlyP g plan)) (h := duelP (onlyP g (plan.set k (ix (rx g.arena.next k) t)))) rfl rfl (fun v hv => ?_) (h.dom j hj)
      have e2 : v ≠ k := fun e2 => e (by rw [← hv.2, e2, hw])
      rw [only_next hok hv.1, only_next hok hv.1]
      unfold fixAt
      rw [ix_setP hkl, if_neg e2]
  · rw [hcut v (by omega)]
    by_cases e2 : v = k
    · subst e2
      rw [ix_setP hkl, if_pos rfl] at hlt
      rw [hw, h.cut]
      refine hb j ?_
      refine Nat.lt_of_not_le fun hle => ?_
      rcases Nat.lt_or_ge t j with h1 | h1
      · have := (hok.arena.set hk).rising t j h1 hj; omega
      · obtain rfl : j = t := by omega
        omega
    · rw [ix_setP hkl, if_neg e2] at hlt
      exact h.least v (by omega) hv e j hj hlt
/-- There is such a pick. -/
theorem PlanInv.some_ {k : Nat} (hok : ParityOk g) (h : PlanInv g k plan) (hk : k < g.arena.owner.length) (hi : i = 0 ∨ i = 1) (ho : ix g.arena.owner k = i) (hw : ix (wonOf g) k = i) :
    ∃ t, t < (rx g.arena.next k).length ∧ ix (wonOf g) (ix (rx g.arena.next k) t).toNat = i ∧ Holds g (plan.set k (ix (rx g.arena.next k) t)) i := by
  have hkl : k < plan.length := by rw [h.len]; exact hk
  obtain ⟨σ, hd⟩ := h.dom i hi
  have hkr : Reg g i k := ⟨hk, hw⟩
  obtain ⟨h1, h2⟩ := hd.mine k hkr ho
  rw [only_free hok hk (h.none_ k hk (.inr (Nat.le_refl _)))] at h1
  obtain ⟨t, ht, e⟩ := mem_ix.1 ((mem_next hok hk).1 h1)
  refine ⟨t, ht, by rw [e, Int.toNat_natCast]; exact h2.2, σ, ?_⟩
  rw [e]
  have hnx : ∀ v, Reg g i v → v ≠ k → (duelP (onlyP g (plan.set k ((σ k : Nat) : Int)))).next v = (duelP (onlyP g plan)).next v := fun v hv hne => by
    rw [only_next hok hv.1, only_next hok hv.1]
    unfold fixAt
    rw [ix_setP hkl, if_neg hne]
  have hnk : (duelP (onlyP g (plan.set k ((σ k : Nat) : Int)))).next k = [σ k] := only_pick hok hk (by rw [ix_setP hkl, if_pos rfl])
  refine WinsWith.same (g := duelP (onlyP g plan)) (h := duelP (onlyP g (plan.set k ((σ k : Nat) : Int)))) rfl rfl (fun v hv u hu => ?_) (fun v hv e => ?_) hd
  · by_cases e2 : v = k
    · subst e2
      rw [hnk, List.mem_singleton] at hu
      subst hu
      exact (hd.mine v hkr ho).1
    · rwa [hnx v hv e2] at hu
  · by_cases e2 : v = k
    · subst e2; rw [hnk]; simp
    · rw [hnx v hv e2]; exact (hd.mine v hv e).1

/-- The plan wins. -/
theorem fin_wins (hok : ParityOk g) (h : PlanInv g g.arena.owner.length plan) (hi : i = 0 ∨ i = 1) : WinsWith (duelP g) i (fun v => v < g.arena.owner.length) (Reg g i) (fun v => (ix plan v).toNat) := by
  obtain ⟨σ, hd⟩ := h.dom i hi
  have hmade : ∀ v, Reg g i v → ix g.arena.owner v = i → ∃ u : Nat, ix plan v = (u : Int) ∧ (u : Int) ∈ rx g.arena.next v ∧ Reg g i u := fun v hv ho => by
    have := h.made v hv.1 hv.1 (by rw [ho, hv.2])
    rwa [hv.2] at this
  refine ⟨fun v hv => hv.1, fun v hv ho => ?_, fun v u hv ho hu _ => reg_stay hok hi hv ho ((mem_next hok hv.1).1 hu), fun v m hw => hd.good v m (hw.mono fun a b hab => ?_)⟩
  · obtain ⟨u, h1, h2, h3⟩ := hmade v hv ho
    simp only [h1, Int.toNat_natCast]
    exact ⟨(mem_next hok hv.1).2 h2, h3⟩
  · obtain ⟨ha, hb, h1, h2, h3⟩ := hab
    by_cases ho : ix g.arena.owner a = i
    · obtain ⟨u, e1, e2, e3⟩ := hmade a ha ho
      have h4 : b = (ix plan a).toNat := h3 ho
      rw [e1, Int.toNat_natCast] at h4
      subst h4
      have hnx : (duelP (onlyP g plan)).next a = [b] := only_pick hok ha.1 e1
      refine ⟨ha, hb, by rw [hnx]; simp, hb, fun _ => ?_⟩
      have := (hd.mine a ha ho).1
      rw [hnx, List.mem_singleton] at this
      exact this.symm
    · refine ⟨ha, hb, ?_, hb, fun e => absurd e ho⟩
      rw [only_free hok ha.1 (h.none_ a ha.1 (.inl (by rw [ha.2]; exact ho)))]
      exact h1
/-- Who wins the same. -/
theorem won_same {h : ParityD} (hok : ParityOk g) (hh : ParityOk h) (hn : h.arena.owner.length = g.arena.owner.length) (h0 : Dom (duelP h) 0 (fun v => v < g.arena.owner.length) (Reg g 0)) (h1 : Dom (duelP h) 1 (fun v => v < g.arena.owner.length) (Reg g 1)) : wonOf h = wonOf g := by
  have hS : Sol (duelP h) (fun v => v < g.arena.owner.length) (Reg g 0) (Reg g 1) := ⟨h0, h1, fun v hv => (won01 g hv).imp (fun e => ⟨hv, e⟩) fun e => ⟨hv, e⟩⟩
  have hT : Sol (duelP h) (fun v => v < g.arena.owner.length) (Reg h 0) (Reg h 1) := by
    rw [← hn]
    exact ⟨reg_dom hh (.inl rfl), reg_dom hh (.inr rfl), fun v hv => (won01 h hv).imp (fun e => ⟨hv, e⟩) fun e => ⟨hv, e⟩⟩
  have hu := fun v => Sol.unique (n := g.arena.owner.length) (fun v hv => hh.own01 (by rw [hn]; exact hv)) (fun v hv => hv) hS hT v
  refine ints_ext (by unfold wonOf; simp [hn]) fun v hv => ?_
  have hv' : v < g.arena.owner.length := by simpa [wonOf] using hv
  rcases won01 g hv' with e | e
  · rw [e]; exact ((hu v).1.1 ⟨hv', e⟩).2
  · rw [e]; exact ((hu v).2.1 ⟨hv', e⟩).2
theorem fin_keeps (hok : ParityOk g) (h : PlanInv g g.arena.owner.length plan) : wonOf (onlyP g plan) = wonOf g := by
  have key : ∀ i, (i = 0 ∨ i = 1) → Dom (duelP (onlyP g plan)) i (fun v => v < g.arena.owner.length) (Reg g i) := fun i hi =>
    (h.dom i hi).trap (fun v hv => hv.1) fun v u hv ho hu _ => reg_stay hok hi hv ho ((mem_next hok hv.1).1 (only_sub hok h.picks hv.1 hu))
  exact won_same hok (only_ok hok h.picks) rfl (key 0 (.inl rfl)) (key 1 (.inr rfl))
/-- A smaller pick changes a winner. -/
theorem fin_least (hok : ParityOk g) (h : PlanInv g g.arena.owner.length plan) {v : Nat} (hv : v < g.arena.owner.length) (ho : ix g.arena.owner v = ix (wonOf g) v) {j : Nat} (hj : j < (rx g.arena.next v).length) (hlt : ix (rx g.arena.next v) j < ix plan v) :
    wonOf (onlyP g ((cutTo plan v).set v (ix (rx g.arena.next v) j))) ≠ wonOf g := by
  intro e
  have hx : ix (rx g.arena.next v) j ∈ rx g.arena.next v := mem_ix.2 ⟨j, hj, rfl⟩
  obtain ⟨u, eu, hu⟩ := next_lt hok hv hx
  have hvl : v < (cutTo plan v).length := by rw [length_cutTo, h.len]; exact hv
  have hcp : Picks g (cutTo plan v) := ⟨by rw [length_cutTo, h.len], fun x hx => by
    rw [ix_cutTo (by rw [h.len]; exact hx)]
    split
    · exact h.picks.at_ x hx
    · exact .inl rfl⟩
  have hp := set_picks hcp hv hx
  have hi := won01 g hv
  have hd := reg_dom (g := onlyP g ((cutTo plan v).set v (ix (rx g.arena.next v) j))) (only_ok hok hp) hi
  have er : Reg (onlyP g ((cutTo plan v).set v (ix (rx g.arena.next v) j))) (ix (wonOf g) v) = Reg g (ix (wonOf g) v) := funext fun x => by unfold Reg; rw [e]; rfl
  rw [er] at hd
  have hd2 : Holds g ((cutTo plan v).set v (ix (rx g.arena.next v) j)) (ix (wonOf g) v) := hd.less (fun x hx => hx.1) fun x hx => hx
  rcases h.least v hv hv ho j hj hlt with h1 | h1
  · obtain ⟨σ, hs⟩ := hd2
    obtain ⟨h2, h3⟩ := hs.mine v ⟨hv, rfl⟩ ho
    rw [only_pick hok hv (u := u) (by rw [ix_setP hvl, if_pos rfl, eu]), List.mem_singleton] at h2
    rw [h2] at h3
    rw [eu, Int.toNat_natCast] at h1
    exact h1 h3.2
  · exact h1 hd2
end
end Go.Proofs.Ytmkmghjmfaoobaa
