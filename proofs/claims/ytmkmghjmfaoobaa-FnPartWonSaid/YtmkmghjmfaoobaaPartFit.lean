/- The winners of a part that a player cannot leave are those of the game restricted to it. No program in sight. -/
import Derived.Test.YtmkmghjmfaoobaaSolvePlain
import Derived.Test.YtmkmghjmfaoobaaPkF
import Derived.Test.YtmkmghjmfaoobaaAttractsFit
import Derived.Test.YtmkmghjmfaoobaaGameSpec
import Derived.Test.YtmkmghjmfaoobaaSubWalks
namespace Go.Proofs.Ytmkmghjmfaoobaa
set_option linter.unusedSimpArgs false
set_option linter.unusedVariables false

theorem WalkM.map {p q : Nat → Int} {R T : Nat → Nat → Prop} {φ : Nat → Nat} (hR : ∀ a b, R a b → T (φ a) (φ b) ∧ p a = q (φ a)) {v u : Nat} {m : Int} (h : WalkM p R v u m) : WalkM q T (φ v) (φ u) m := by
  induction h with
  | one h =>
    obtain ⟨h1, h2⟩ := hR _ _ h
    rw [h2]; exact .one h1
  | cons h _ ih =>
    obtain ⟨h1, h2⟩ := hR _ _ h
    rw [h2]; exact .cons h1 ih
/-- What is won in a game is won in its picture. -/
theorem Dom.pull {g h : Duel} {k : Int} {P Q S : Nat → Prop} {φ ψ : Nat → Nat} (hφ : ∀ i, Q i → P (φ i)) (hψ : ∀ v, P v → Q (ψ v) ∧ φ (ψ v) = v) (hown : ∀ i, Q i → h.own i = g.own (φ i)) (hpr : ∀ i, Q i → h.pr i = g.pr (φ i))
    (hnx : ∀ i j, Q i → Q j → (j ∈ h.next i ↔ φ j ∈ g.next (φ i))) (hd : Dom g k P S) : Dom h k Q (fun i => Q i ∧ S (φ i)) := by
  obtain ⟨σ, hd⟩ := hd
  refine ⟨fun i => ψ (σ (φ i)), ⟨fun i hi => hi.1, fun i hi ho => ?_, fun i u hi ho hu hQ => ?_, fun i m hw => ?_⟩⟩
  · obtain ⟨h1, h2⟩ := hd.mine (φ i) hi.2 (by rw [← hown i hi.1]; exact ho)
    obtain ⟨h3, h4⟩ := hψ _ (hd.sub _ h2)
    exact ⟨(hnx i _ hi.1 h3).2 (by rw [h4]; exact h1), h3, by rw [h4]; exact h2⟩
  · exact ⟨hQ, hd.theirs (φ i) (φ u) hi.2 (by rw [← hown i hi.1]; exact ho) ((hnx i u hi.1 hQ).1 hu) (hφ u hQ)⟩
  · refine hd.good (φ i) m (WalkM.map (fun a b hab => ⟨⟨hab.1.2, hab.2.1.2, (hnx a b hab.1.1 hab.2.1.1).1 hab.2.2.1, hφ b hab.2.1.1, fun ho => ?_⟩, hpr a hab.1.1⟩) hw)
    have h1 := hab.2.2.2.2 (by rw [hown a hab.1.1]; exact ho)
    have h2 := hd.mine (φ a) hab.1.2 ho
    rw [h1]
    exact (hψ _ (hd.sub _ h2.2)).2

section
variable {g : ParityD} {s : List Int} {a : ArenaD} {n : Int}
theorem idxL_some {u : Int} (h : 0 ≤ idxL s u) : ∃ j : Nat, j < s.length ∧ idxL s u = (j : Int) ∧ ix s j = u := by
  unfold idxL at h ⊢
  split at h
  · rename_i hm
    have h1 := List.idxOf_lt_length_iff.2 hm
    refine ⟨s.idxOf u, h1, by rw [if_pos hm], ?_⟩
    rw [ix_lt h1]
    exact List.getElem_idxOf h1
  · omega
theorem idxL_ix (hs : IsSet s n) {j : Nat} (hj : j < s.length) : idxL s (ix s j) = (j : Int) := idxL_at hj rfl fun i hi e => by
  have := hs.rising i j hi hj; omega
theorem mem_rowIn (hs : IsSet s n) {j v : Nat} (hj : j < s.length) : (j : Int) ∈ rowIn a s v ↔ ix s j ∈ rx a.next v := by
  unfold rowIn rowTo
  rw [List.take_length, List.mem_filter, List.mem_map]
  constructor
  · rintro ⟨⟨u, hu, e⟩, _⟩
    obtain ⟨i, hi, e1, e2⟩ := idxL_some (s := s) (u := u) (by omega)
    have : i = j := by omega
    subst this
    rw [e2]; exact hu
  · intro h
    exact ⟨⟨_, h, idxL_ix hs hj⟩, by simp⟩
theorem rowIn_lt {v : Nat} {x : Int} (h : x ∈ rowIn a s v) : 0 ≤ x ∧ x < s.length := by
  unfold rowIn rowTo at h
  rw [List.take_length, List.mem_filter, List.mem_map] at h
  obtain ⟨⟨u, hu, e⟩, h1⟩ := h
  rw [decide_eq_true_eq] at h1
  obtain ⟨i, hi, e1, e2⟩ := idxL_some (s := s) (u := u) (by omega)
  omega
theorem rowIn_pw (hs : IsSet s n) {v : Nat} (h : (rx a.next v).Pairwise (· < ·)) : (rowIn a s v).Pairwise (· < ·) := by
  unfold rowIn rowTo
  rw [List.take_length, List.pairwise_filter, List.pairwise_map]
  refine h.imp fun {u w} huw h1 h2 => ?_
  rw [decide_eq_true_eq] at h1 h2
  obtain ⟨i, hi, e1, e2⟩ := idxL_some h1
  obtain ⟨j, hj, e3, e4⟩ := idxL_some h2
  rw [e1, e3]
  refine Classical.byContradiction fun hn => ?_
  rcases Nat.lt_or_ge j i with h3 | h3
  · have := hs.rising j i h3 hi; omega
  · have : i = j := by omega
    subst this
    omega
theorem ix_map {f : Int → Int} {i : Nat} (h : i < s.length) : ix (s.map f) i = f (ix s i) := by simp [ix, h]
theorem rx_map {f : Int → List Int} {i : Nat} (h : i < s.length) : rx (s.map f) i = f (ix s i) := by simp [rx, ix, h]
theorem sub_ok (hok : ParityOk g) (hs : IsSet s g.arena.owner.length) (hne : s ≠ []) (hin : insB g.arena s = true) : ParityOk (subP g s) := by
  have hl : 1 ≤ s.length := by
    cases s with
    | nil => exact absurd rfl hne
    | cons x l => simp
  have hle := hok.arena.le
  have hsl : s.length ≤ g.arena.owner.length := hs.length_le
  have hvt := fun {k : Nat} (hk : k < s.length) => hs.vert k hk
  refine ⟨⟨by simpa [subP, insP] using hl, by simp [subP, insP]; omega, by simp [subP, insP], fun v hv => ?_⟩, by simp [subP, insP], fun v hv => ?_⟩
  · have hv' : v < s.length := by simpa [subP, insP] using hv
    obtain ⟨j, ej, hj⟩ := hvt hv'
    have e1 : ix (subP g s).arena.owner v = ix g.arena.owner j := by
      show ix (s.map fun v => ix g.arena.owner v.toNat) v = _
      rw [ix_map (f := fun v => ix g.arena.owner v.toNat) hv', ej, Int.toNat_natCast]
    have e2 : rx (subP g s).arena.next v = rowIn g.arena s j := by
      show rx (s.map fun v => rowIn g.arena s v.toNat) v = _
      rw [rx_map (f := fun v => rowIn g.arena s v.toNat) hv', ej, Int.toNat_natCast]
    have e3 : ((subP g s).arena.owner.length : Int) = s.length := by simp [subP, insP]
    have h1 := hok.arena.owner hj
    have h2 := (hok.arena.deg hj).2
    have h3 := rowIn_len (a := g.arena) (s := s) (v := j)
    have h4 : rowIn g.arena s j ≠ [] := by
      have := List.all_eq_true.1 hin _ (mem_ix.2 ⟨v, hv', rfl⟩)
      rw [ej, Int.toNat_natCast, decide_eq_true_eq] at this
      exact this
    unfold vertexOkB
    rw [e1, e2, e3]
    simp only [Bool.and_eq_true, decide_eq_true_eq]
    refine ⟨⟨⟨h1, ?_⟩, by omega⟩, isSetB_iff.2 (isSet_of (rowIn_pw hs (hok.arena.set hj).pw) fun x hx => rowIn_lt hx)⟩
    cases hr : rowIn g.arena s j with
    | nil => exact absurd hr h4
    | cons x l => simp
  · have hv' : v < s.length := by simpa [subP, insP] using hv
    obtain ⟨j, ej, hj⟩ := hvt hv'
    have e1 : ix (subP g s).prio v = ix g.prio j := by
      show ix (s.map fun v => ix g.prio v.toNat) v = _
      rw [ix_map (f := fun v => ix g.prio v.toNat) hv', ej, Int.toNat_natCast]
    rw [e1]
    exact hok.prio j (by rw [hok.len]; exact hj)
/-- The winners of the part, seen from the part's own game. -/
theorem part_winner (hok : ParityOk g) (hs : IsSet s g.arena.owner.length) (hne : s ≠ []) (hin : insB g.arena s = true) (ht : Tot (duelP g) (On (marksL g.arena.owner.length s))) {i : Nat} (hi : i < s.length) :
    ix (wonOf (subP g s)) i = 0 ↔ On (evenW (duelP g) (marksL g.arena.owner.length s)) (ix s i).toNat := by
  have hh := sub_ok hok hs hne hin
  have hml : (subP g s).arena.owner.length = s.length := by simp [subP, insP]
  have hW := hok.det (m := marksL g.arena.owner.length s) (length_marksL _ _) ht
  have hv := fun {k : Nat} (hk : k < s.length) => hs.vert k hk
  have hφ : ∀ i, i < s.length → On (marksL g.arena.owner.length s) (ix s i).toNat := fun i hi => by
    obtain ⟨j, ej, hj⟩ := hv hi
    rw [on_marksL, ej, Int.toNat_natCast, ← ej]
    exact ⟨hj, mem_ix.2 ⟨i, hi, rfl⟩⟩
  have hψ : ∀ v, On (marksL g.arena.owner.length s) v → (idxL s (v : Int)).toNat < s.length ∧ (ix s (idxL s (v : Int)).toNat).toNat = v := fun v hv => by
    obtain ⟨h1, h2⟩ := on_marksL.1 hv
    obtain ⟨k, hk, e⟩ := mem_ix.1 h2
    rw [← e, idxL_ix hs hk, Int.toNat_natCast]
    exact ⟨hk, by rw [e, Int.toNat_natCast]⟩
  have hown : ∀ i, i < s.length → (duelP (subP g s)).own i = (duelP g).own (ix s i).toNat := fun i hi => by
    show ix (s.map fun v => ix g.arena.owner v.toNat) i = ix g.arena.owner (ix s i).toNat
    rw [ix_map (f := fun v => ix g.arena.owner v.toNat) hi]
  have hpr : ∀ i, i < s.length → (duelP (subP g s)).pr i = (duelP g).pr (ix s i).toNat := fun i hi => by
    show ix (s.map fun v => ix g.prio v.toNat) i = ix g.prio (ix s i).toNat
    rw [ix_map (f := fun v => ix g.prio v.toNat) hi]
  have hnx : ∀ i j, i < s.length → j < s.length → (j ∈ (duelP (subP g s)).next i ↔ (ix s j).toNat ∈ (duelP g).next (ix s i).toNat) := fun i j hi hj => by
    obtain ⟨x, ex, hx⟩ := hv hi
    obtain ⟨y, ey, hy⟩ := hv hj
    rw [mem_next hh (by rw [hml]; exact hi), ex, ey, Int.toNat_natCast, Int.toNat_natCast, mem_next hok hx]
    have e2 : rx (subP g s).arena.next i = rowIn g.arena s x := by
      show rx (s.map fun v => rowIn g.arena s v.toNat) i = _
      rw [rx_map (f := fun v => rowIn g.arena s v.toNat) hi, ex, Int.toNat_natCast]
    rw [e2, mem_rowIn hs hj, ey]
  have h0 := Dom.pull (h := duelP (subP g s)) (Q := fun i => i < s.length) (φ := fun i => (ix s i).toNat) (ψ := fun v => (idxL s (v : Int)).toNat) hφ hψ hown hpr hnx hW.mine
  have h1 := Dom.pull (h := duelP (subP g s)) (Q := fun i => i < s.length) (φ := fun i => (ix s i).toNat) (ψ := fun v => (idxL s (v : Int)).toNat) hφ hψ hown hpr hnx hW.theirs
  have hS : Sol (duelP (subP g s)) (fun i => i < s.length) (fun i => i < s.length ∧ On (evenW (duelP g) (marksL g.arena.owner.length s)) (ix s i).toNat) (fun i => i < s.length ∧ On (restL (marksL g.arena.owner.length s) (evenW (duelP g) (marksL g.arena.owner.length s))) (ix s i).toNat) :=
    ⟨h0, h1, fun i hi => by
      by_cases e : On (evenW (duelP g) (marksL g.arena.owner.length s)) (ix s i).toNat
      · exact .inl ⟨hi, e⟩
      · exact .inr ⟨hi, on_restL.2 ⟨hφ i hi, e⟩⟩⟩
  have hT : Sol (duelP (subP g s)) (fun i => i < s.length) (Reg (subP g s) 0) (Reg (subP g s) 1) := by
    rw [← hml]
    exact ⟨reg_dom hh (.inl rfl), reg_dom hh (.inr rfl), fun v hv => (won01 _ hv).imp (fun e => ⟨hv, e⟩) fun e => ⟨hv, e⟩⟩
  have hu := Sol.unique (n := s.length) (fun v hv => hh.own01 (by rw [hml]; exact hv)) (fun v hv => hv) hS hT i
  exact ⟨fun e => (hu.1.2 ⟨by rw [hml]; exact hi, e⟩).2, fun e => (hu.1.1 ⟨hi, e⟩).2⟩
/-- From a trap's vertex one may stay. -/
theorem trap_next {who : Int} (h : trapB a who s = true) : IsSet s a.owner.length ∧ ∀ v : Nat, (v : Int) ∈ s → ∃ u : Nat, (u : Int) ∈ rx a.next v ∧ (u : Int) ∈ s ∧ u < a.owner.length := by
  unfold trapB at h
  rw [Bool.and_eq_true, decide_eq_true_eq] at h
  obtain ⟨h1, h2⟩ := h
  have h3 := l3OkB_iff.1 h1
  have h4 : escL a who s = [] := List.length_eq_zero_iff.1 h2
  refine ⟨h3.set, fun v hv => ?_⟩
  obtain ⟨k, hk, e⟩ := mem_ix.1 hv
  have hvn : v < a.owner.length := by have := (h3.set k hk).2.1; omega
  unfold escL at h4
  rw [List.filter_eq_nil_iff] at h4
  have h5 := h4 _ hv
  rw [Int.toNat_natCast] at h5
  have hd := (h3.arena.deg hvn).1
  have hbs : ∀ u : Nat, bx (marksL a.owner.length s) u = true → (u : Int) ∈ s ∧ u < a.owner.length := fun u hu => by
    have := on_marksL.1 (show On (marksL a.owner.length s) u from hu)
    exact ⟨this.2, this.1⟩
  obtain ⟨j, hj, hjn⟩ := (h3.arena.set hvn).vert 0 (by omega)
  have hjm : (j : Int) ∈ rx a.next v := mem_ix.2 ⟨0, by omega, hj⟩
  unfold escB at h5
  by_cases ho : ix a.owner v = who
  · rw [if_pos ho] at h5
    have h6 : (rx a.next v).all (fun u => bx (marksL a.owner.length s) u.toNat) = true := by simpa using h5
    have h7 := List.all_eq_true.1 h6 _ hjm
    rw [Int.toNat_natCast] at h7
    exact ⟨j, hjm, hbs j h7⟩
  · rw [if_neg ho] at h5
    have h6 : (rx a.next v).any (fun u => bx (marksL a.owner.length s) u.toNat) = true := by simpa using h5
    obtain ⟨u, hu, h7⟩ := List.any_eq_true.1 h6
    obtain ⟨t, ht, rfl⟩ := mem_ix.1 hu
    obtain ⟨x, hx, hxn⟩ := (h3.arena.set hvn).vert t ht
    rw [hx, Int.toNat_natCast] at h7
    exact ⟨x, by rw [← hx]; exact hu, hbs x h7⟩
theorem trap_game {who : Int} (h : trapB a who s = true) : gameB a s = true ∧ insB a s = true := by
  obtain ⟨hs, hx⟩ := trap_next h
  constructor
  · refine gameB_yes (isSetB_iff.2 hs) fun k hk => ?_
    obtain ⟨v, e, hv⟩ := hs.vert k hk
    rw [e, Int.toNat_natCast]
    obtain ⟨u, h1, h2, h3⟩ := hx v (by rw [← e]; exact mem_ix.2 ⟨k, hk, rfl⟩)
    obtain ⟨t, ht, et⟩ := mem_ix.1 h1
    exact okRow_ix ht et (on_marksL.2 ⟨h3, h2⟩)
  · refine insB_all fun k hk => ?_
    obtain ⟨v, e, hv⟩ := hs.vert k hk
    rw [e, Int.toNat_natCast]
    obtain ⟨u, h1, h2, h3⟩ := hx v (by rw [← e]; exact mem_ix.2 ⟨k, hk, rfl⟩)
    obtain ⟨j, hj, ej⟩ := mem_ix.1 h2
    intro hnil
    have := (mem_rowIn (a := a) (v := v) hs hj).2 (by rw [ej]; exact h1)
    rw [hnil] at this; cases this
/-- What the law on parts asks. -/
structure PartFit (g : ParityD) (s : List Int) : Prop where
  len : (wonE g s).length + (wonO g s).length = s.length
  ok : s ≠ [] → ParityOk (subP g s)
  sub : s ≠ [] → subOkB g s = true
  even : s ≠ [] → ∀ i, i < s.length → hasInB (wonE g s) (ix s i) = decide (ix (wonOf (subP g s)) i = 0)
  odd : s ≠ [] → ∀ i, i < s.length → hasInB (wonO g s) (ix s i) = decide (ix (wonOf (subP g s)) i = 1)
theorem part_fit (hok : ParityOk g) {who : Int} (h : trapB g.arena who s = true) : PartFit g s := by
  obtain ⟨hs, _⟩ := trap_next h
  obtain ⟨hg, hin⟩ := trap_game h
  have hle := hok.arena.le
  have ht : Tot (duelP g) (On (marksL g.arena.owner.length s)) := gameB_tot g.prio hok.arena hg
  have hW := hok.det (m := marksL g.arena.owner.length s) (length_marksL _ _) ht
  have hE : wonE g s = markedL (evenW (duelP g) (marksL g.arena.owner.length s)) := by unfold wonE; rw [parityOkB_iff.2 hok, hg]; rfl
  have hO : wonO g s = markedL (restL (marksL g.arena.owner.length s) (evenW (duelP g) (marksL g.arena.owner.length s))) := by unfold wonO; rw [parityOkB_iff.2 hok, hg]; rfl
  have hset : ∀ m : List Bool, m.length ≤ 256 → IsSet (markedL m) 256 := fun m hm => isSet_of (markedL_pairs m) fun x hx => by
    obtain ⟨j, hj, e, _⟩ := mem_markedL.1 hx
    omega
  have hlen := hW.len
  rw [length_marksL] at hlen
  have hmem : ∀ (m : List Bool), m.length ≤ 256 → ∀ v : Nat, hasInB (markedL m) (v : Int) = bx m v := fun m hm v => by
    rw [hasInB_set (hset m hm), Bool.eq_iff_iff, hasB_iff, mem_markedL]
    constructor
    · rintro ⟨j, hj, e, hb⟩
      have : v = j := by omega
      subst this; exact hb
    · intro hb
      exact ⟨v, (show On m v from hb).lt, rfl, hb⟩
  refine ⟨?_, fun hne => sub_ok hok hs hne hin, fun hne => ?_, fun hne i hi => ?_, fun hne i hi => ?_⟩
  · rw [hE, hO, ← even_filter hs hW, ← odd_filter hs]
    have := List.length_eq_countP_add_countP (fun v : Int => bx (evenW (duelP g) (marksL g.arena.owner.length s)) v.toNat) (l := s)
    rw [List.countP_eq_length_filter, List.countP_eq_length_filter] at this
    rw [this]
    congr 2
    apply List.filter_congr
    intro x _
    simp
  · unfold subOkB insOkB
    rw [parityOkB_iff.2 hok, arenaOkB_iff.2 hok.arena, isSetB_iff.2 hs, hin]
    simp [hne]
  · obtain ⟨v, e, hv⟩ := hs.vert i hi
    rw [hE, e, hmem _ (by rw [hlen]; exact hle)]
    have := part_winner hok hs hne hin ht hi
    rw [e, Int.toNat_natCast] at this
    rw [Bool.eq_iff_iff, decide_eq_true_iff]
    exact this.symm
  · obtain ⟨v, e, hv⟩ := hs.vert i hi
    rw [hO, e, hmem _ (by rw [length_restL, length_marksL]; exact hle)]
    have := part_winner hok hs hne hin ht hi
    rw [e, Int.toNat_natCast] at this
    have h01 := won01 (subP g s) (v := i) (by simpa [subP, insP] using hi)
    have hvs : On (marksL g.arena.owner.length s) v := on_marksL.2 ⟨hv, by rw [← e]; exact mem_ix.2 ⟨i, hi, rfl⟩⟩
    rw [Bool.eq_iff_iff, decide_eq_true_iff]
    show On (restL _ _) v ↔ _
    rw [on_restL, ← this]
    constructor
    · rintro ⟨_, h2⟩
      rcases h01 with h3 | h3
      · exact absurd h3 h2
      · exact h3
    · intro h2
      exact ⟨hvs, by omega⟩
end
end Go.Proofs.Ytmkmghjmfaoobaa
