/- Texts of this claim that go together: InsidePlain, PlayPlain, LassoPlain, ClosedWalks, BadPlain, RegionOf, PlayLaw, PlaysFit. Conditions: those that each theorem names. -/
import Derived.Test.YtmkmghjmfaoobaaPkD
import Derived.Test.YtmkmghjmfaoobaaPkC
import Derived.Test.YtmkmghjmfaoobaaPkE
import Derived.Test.YtmkmghjmfaoobaaPkA
import Derived.Test.YtmkmghjmfaoobaaPkB
/- The walks of ClosedIn and what they call. No condition but the lists' lengths. -/
namespace Go.Proofs.Ytmkmghjmfaoobaa
set_option linter.unusedSimpArgs false
set_option linter.unusedVariables false
open Go.RowKit

def closedAt (a : ArenaD) (who : Int) (plan : List Int) (m : List Bool) (v : Nat) : Bool :=
  if ix a.owner v = who then decide (0 ≤ ix plan v) && bx m (ix plan v).toNat else (rx a.next v).all fun u => bx m u.toNat
def closedL (a : ArenaD) (who : Int) (region plan : List Int) : Bool := region.all fun v => closedAt a who plan (marksL a.owner.length region) v.toNat
def checkB (a : ArenaD) (who : Int) (region plan : List Int) : Bool := arenaOkB a && (playerB who && (isSetB region a.owner.length && planB a who plan))
def closedG (a : ArenaD) (who : Int) (region plan : List Int) : Bool := checkB a who region plan && closedL a who region plan
structure CheckOk (a : ArenaD) (who : Int) (region plan : List Int) : Prop where
  arena : ArenaOk a
  player : playerB who = true
  set : IsSet region a.owner.length
  plan : PlanOk a who plan
theorem checkB_iff {a : ArenaD} {who : Int} {region plan : List Int} : checkB a who region plan = true ↔ CheckOk a who region plan := by
  unfold checkB
  simp only [Bool.and_eq_true, arenaOkB_iff, isSetB_iff, planB_iff]
  exact ⟨fun ⟨h1, h2, h3, h4⟩ => ⟨h1, h2, h3, h4⟩, fun ⟨h1, h2, h3, h4⟩ => ⟨h1, h2, h3, h4⟩⟩
theorem checkB_spec (a : ArenaD) (who : Int) (region plan : List Int) : checkB a who region plan = (planOkB a who plan && isSetB region a.owner.length) := by
  unfold checkB planOkB
  rw [Bool.and_assoc, Bool.and_assoc, Bool.and_comm (planB a who plan)]
/-- A plan's moves are vertices. -/
theorem PlanOk.move {a : ArenaD} {who : Int} {plan : List Int} (hok : ArenaOk a) (h : PlanOk a who plan) {v : Nat} (hv : v < a.owner.length) : ix plan v = -1 ∨ ∃ j : Nat, ix plan v = (j : Int) ∧ j < a.owner.length ∧ (j : Int) ∈ rx a.next v := by
  have := h.vert v (by rw [h.len]; exact hv)
  unfold planAtB at this
  rw [Bool.or_eq_true, decide_eq_true_eq, Bool.and_eq_true] at this
  rcases this with h1 | ⟨_, h2⟩
  · exact .inl h1
  · have h3 := hasB_iff.1 h2
    obtain ⟨k, hk, hx⟩ := mem_ix.1 h3
    obtain ⟨j, hj, hjn⟩ := hok.vert_next hv k hk
    exact .inr ⟨j, by rw [← hx, hj], hjn, by rw [← hj, hx]; exact h3⟩
theorem all_bad {l : List Int} {f : Int → Bool} {k : Nat} (hk : k < l.length) (h : f (ix l k) = false) : l.all f = false := by
  rw [Bool.eq_false_iff]
  intro h'
  have := List.all_eq_true.1 h' _ (mem_ix.2 ⟨k, hk, rfl⟩)
  rw [h] at this; cases this
theorem all_good {l : List Int} {f : Int → Bool} (h : ∀ k, k < l.length → f (ix l k) = true) : l.all f = true := by
  rw [List.all_eq_true]
  intro x hx
  obtain ⟨k, hk, rfl⟩ := mem_ix.1 hx
  exact h k hk

end Go.Proofs.Ytmkmghjmfaoobaa

/- The loops that a plan leaves open to the other player. No program in sight. -/
namespace Go.Proofs.Ytmkmghjmfaoobaa
set_option linter.unusedSimpArgs false
set_option linter.unusedVariables false

/-- The vertices of s whose priority is at most p, as marks. -/
def insideL (n : Nat) (prio s : List Int) (p : Int) : List Bool := (List.range n).map fun (u : Nat) => decide ((u : Int) ∈ s) && decide (ix prio u ≤ p)
@[simp] theorem length_insideL (n : Nat) (prio s : List Int) (p : Int) : (insideL n prio s p).length = n := by simp [insideL]
theorem bx_insideL {n : Nat} {prio s : List Int} {p : Int} {u : Nat} (h : u < n) : bx (insideL n prio s p) u = (decide ((u : Int) ∈ s) && decide (ix prio u ≤ p)) := by simp [bx, insideL, h]
theorem insideL_zero (n : Nat) (prio s : List Int) (p : Int) : insideL n prio (s.take 0) p = List.replicate n false := bools_ext (by simp) fun j hj => by
  have hj' : j < n := by simpa using hj
  rw [bx_insideL hj']
  simp [bx, hj']
theorem insideL_step {n : Nat} {prio s : List Int} {p : Int} {k j : Nat} (hk : k < s.length) (hj : ix s k = (j : Int)) (hjn : j < n) : insideL n prio (s.take (k + 1)) p = (insideL n prio (s.take k) p).set j (decide (ix prio j ≤ p)) := bools_ext (by simp) fun i hi => by
  have hi' : i < n := by simpa using hi
  rw [bx_insideL hi', bx_set (by simpa using hjn), take_ix hk, hj]
  by_cases e : i = j
  · subst e; simp
  · have : ¬ (i : Int) = (j : Int) := by omega
    rw [if_neg e, bx_insideL hi']
    simp [this]
/-- The vertices of row that are marked, as marks. -/
def startL (n : Nat) (m : List Bool) (row : List Int) : List Bool := (List.range n).map fun (u : Nat) => decide ((u : Int) ∈ row) && bx m u
@[simp] theorem length_startL (n : Nat) (m : List Bool) (row : List Int) : (startL n m row).length = n := by simp [startL]
theorem bx_startL {n : Nat} {m : List Bool} {row : List Int} {u : Nat} (h : u < n) : bx (startL n m row) u = (decide ((u : Int) ∈ row) && bx m u) := by simp [bx, startL, h]
theorem startL_zero (n : Nat) (m : List Bool) (row : List Int) : startL n m (row.take 0) = List.replicate n false := bools_ext (by simp) fun j hj => by
  have hj' : j < n := by simpa using hj
  rw [bx_startL hj']
  simp [bx, hj']
theorem startL_step {n : Nat} {m : List Bool} {row : List Int} {k j : Nat} (hk : k < row.length) (hj : ix row k = (j : Int)) (hjn : j < n) : startL n m (row.take (k + 1)) = (startL n m (row.take k)).set j (bx m j) := bools_ext (by simp) fun i hi => by
  have hi' : i < n := by simpa using hi
  rw [bx_startL hi', bx_set (by simpa using hjn), take_ix hk, hj]
  by_cases e : i = j
  · subst e; simp
  · have : ¬ (i : Int) = (j : Int) := by omega
    rw [if_neg e, bx_startL hi']
    simp [this]
theorem reach_start {n : Nat} {next : List (List Int)} {m : List Bool} {v : Nat} (hv : v < n) (hr : Vert (rx next v) n) :
    bx (reachL next (bx m) n (fun x => bx (startL n m (rx next v)) x = true)) v = bx (beyondL next (bx m) n (fun y => (y : Int) ∈ [(v : Int)])) v := by
  rw [Bool.eq_iff_iff, bx_reachL hv, bx_beyondL hv]
  constructor
  · rintro ⟨u, hu, hw⟩
    by_cases hun : u < n
    · rw [bx_startL hun, Bool.and_eq_true, decide_eq_true_eq] at hu
      exact ⟨v, u, by simp, hu, hw⟩
    · exfalso
      unfold bx startL at hu
      simp [hun] at hu
  · rintro ⟨y, u, hy, ⟨h1, h2⟩, hw⟩
    have e0 : (y : Int) = v := by simpa using hy
    have e : y = v := by omega
    subst e
    obtain ⟨k, hk, e⟩ := mem_ix.1 h1
    obtain ⟨j, hj, hjn⟩ := hr k hk
    have e2 : j = u := by omega
    subst e2
    exact ⟨j, by show bx (startL n m _) j = true; rw [bx_startL hjn, h2]; simpa using h1, hw⟩

/-- v is of the other player's parity, and it lies on a way back to itself through s whose priorities are at most v's. -/
noncomputable def badAt (next : List (List Int)) (n : Nat) (prio s : List Int) (who : Int) (v : Nat) : Bool :=
  !decide (ix prio v % 2 = who) && bx (beyondL next (bx (insideL n prio s (ix prio v))) n (fun y => (y : Int) ∈ [(v : Int)])) v
noncomputable def badL (g : ParityD) (who : Int) (s plan : List Int) : List Int := s.filter fun x => badAt (fixTo g.arena plan g.arena.next.length) g.prio.length g.prio s who x.toNat
theorem badL_len (g : ParityD) (who : Int) (s plan : List Int) : (badL g who s plan).length ≤ s.length := List.length_filter_le _ _
/-- The plan's rows are rows of vertices. -/
theorem fixA_ok {a : ArenaD} {who : Int} {plan : List Int} (hok : ArenaOk a) (hp : PlanOk a who plan) : ArenaOk (fixA a plan) := by
  have hl := hok.len
  refine ⟨hok.pos, hok.le, by simp [fixA, hl], fun v hv => ?_⟩
  have hv' : v < a.owner.length := hv
  have hrx : rx (fixA a plan).next v = fixAt a plan v := by
    show rx (fixTo a plan a.next.length) v = _
    rw [rx_fixTo (by omega), if_pos (by omega)]
  have h0 := hok.vert v hv'
  rcases hp.move hok hv' with h1 | ⟨j, h1, h2, _⟩
  · have e : fixAt a plan v = rx a.next v := by unfold fixAt; rw [h1]; rfl
    unfold vertexOkB
    rw [hrx, e]
    exact h0
  · have e : fixAt a plan v = [(j : Int)] := by unfold fixAt; rw [h1, if_pos (by omega)]
    unfold vertexOkB
    rw [hrx, e]
    have h3 := hok.owner hv'
    have h4 : isSetB [(j : Int)] a.owner.length = true := isSetB_iff.2 fun k hk => by
      have : k = 0 := by simpa using hk
      subst this
      simp [ix]; omega
    simp only [Bool.and_eq_true, decide_eq_true_eq]
    exact ⟨⟨⟨h3, by simp⟩, by simp⟩, h4⟩
end Go.Proofs.Ytmkmghjmfaoobaa

/- The walks of RegionOf, and its law. -/
namespace Go.Proofs.Ytmkmghjmfaoobaa
set_option linter.unusedSimpArgs false
set_option linter.unusedVariables false
open Go.RowKit

/-- The places below k at which l holds x. -/
def placesTo (l : List Int) (x : Int) (k : Nat) : List Int := (upFrom 0 k).filter fun v => decide (ix l v.toNat = x)
def places (l : List Int) (x : Int) : List Int := placesTo l x l.length
theorem placesTo_succ (l : List Int) (x : Int) (k : Nat) : placesTo l x (k + 1) = placesTo l x k ++ if ix l k = x then [(k : Int)] else [] := by
  unfold placesTo
  rw [upFrom_snoc, List.filter_append]
  congr 1
  by_cases h : ix l k = x <;> simp [h]
theorem placesTo_len (l : List Int) (x : Int) (k : Nat) : (placesTo l x k).length ≤ k := by
  have := List.length_filter_le (fun v => decide (ix l v.toNat = x)) (upFrom 0 k)
  rw [length_upFrom] at this
  exact this
/-- The vertices that who wins. -/
def regionOf (a : TwoD) (who : Int) : List Int := if a.fst.length ≤ 256 then places a.fst who else []
theorem regionOf_len (a : TwoD) (who : Int) : (regionOf a who).length ≤ 256 := by
  unfold regionOf
  split
  · have := placesTo_len a.fst who a.fst.length; unfold places; omega
  · simp

set_option maxHeartbeats 1000000 in
theorem implRegionOf_any (v : Value) (a : TwoD) (who : Int) (w : World) (hv : IsTwo w v a) :
    Calls Try.prog 61 #[v, .int .i64 who] w (RetInts w (regionOf a who)) := by
  obtain ⟨o, n, rfl, ho, hn⟩ := hv
  obtain ⟨A, c, rfl, hlc, hcm⟩ := ho.form
  have hb : Below w.heap.size w (w.alloc (.cells #[.slice A a.fst.length c, n] 51)) := (Below.refl _ _).alloc (Nat.le_refl _) _
  have hb1 := hb
  have hX := Arr.new w 51 [.slice A a.fst.length c, n]
  obtain ⟨hown, hb2⟩ := new_ints (w.alloc (.cells #[.slice A a.fst.length c, n] 51))
  replace hX := hX.below hb2 hX.lt
  replace hb := hb.trans (hb2.mono (by simp))
  have hown0 := hown.more (B' := w.heap.size) (by simp)
  by_cases h : a.fst.length ≤ 256
  · have hres : regionOf a who = places a.fst who := if_pos h
    rw [hres]
    clear hres
    go_enter Try.func61, Try.ntmps61
    go_wp2
    have hsz : (w.alloc (.cells #[.slice A a.fst.length c, n] 51)).heap.size = w.heap.size + 1 := by simp
    rw [hsz] at hown hb2
    generalize (w.alloc (.cells #[.slice A a.fst.length c, n] 51)).alloc (.cells #[] 2) = w0 at *
    clear hb2 hsz hown0 hb1
    have hx0 := hX.lt
    go_loopw [5, 16] (fun v i wr => ∃ k : Nat, k ≤ a.fst.length ∧ i = .int .i64 k ∧ OwnInts wr (w.heap.size + 1) v (placesTo a.fst who k) ∧ Below (w.heap.size + 1) w0 wr) (fun _ i _ => a.fst.length - (intOf i).toNat)
    case atStart => exact ⟨0, Nat.zero_le _, rfl, hown, Below.refl _ _⟩
    case round =>
      obtain ⟨k, hk, rfl, hown, hbr⟩ := hrel
      have hXr := hX.below hbr (Nat.lt_succ_self _)
      have hc0 := hXr.c0
      have hlen := placesTo_len a.fst who k
      have hbs : w.heap.size + 1 ≤ wr.heap.size := Nat.le_trans hx0 hbr.size
      have hbw : Below w.heap.size w wr := hb.trans (hbr.mono (by omega))
      by_cases hlt : k < a.fst.length
      · obtain ⟨a1, rfl, hc⟩ := (ho.kept (Kept.of hbw)).at_ hlt
        have hsc := placesTo_succ a.fst who k
        by_cases g : ix a.fst k = who
        · rw [if_pos g] at hsc
          have hd : (ix a.fst k == who) = true := by simpa using g
          have Hs := Lib.hid hsc
          clear hsc g
          go_wp2_with (at_builtin; refine append_int _ rfl (.tmp 24) (.tmp 26) rfl (w.heap.size + 1) u5 (placesTo a.fst who k) rfl hown _ rfl (by omega) hbs ?_; intro v1 w1 ho1 hb1 hg1 hl1)
          exact ⟨⟨k + 1, by omega, by go_num, by rw [Hs.out]; exact ho1, hbr.trans hb1⟩, by simp [intOf]; omega⟩
        · rw [if_neg g, List.append_nil] at hsc
          have hd : (ix a.fst k == who) = false := by simpa using g
          have Hs := Lib.hid hsc
          clear hsc g
          go_wp2
          exact ⟨⟨k + 1, by omega, by go_num, by rw [Hs.out]; exact hown, hbr⟩, by simp [intOf]; omega⟩
      · obtain rfl : k = a.fst.length := by omega
        go_wp2
        go_ret
        exact .mk' (hown.more (by omega)) hbw
  · have hres : regionOf a who = [] := if_neg h
    rw [hres]
    clear hres
    go_enter Try.func61, Try.ntmps61
    go_wp2
    go_ret
    exact .mk' (OwnInts.nil _ _) hb1
end Go.Proofs.Ytmkmghjmfaoobaa

/- What the arena induced by a set is. No program in sight. -/
namespace Go.Proofs.Ytmkmghjmfaoobaa
set_option linter.unusedSimpArgs false
set_option linter.unusedVariables false

theorem idxL_snoc {l : List Int} {x v : Int} (hx : x ∉ l) : idxL (l ++ [x]) v = if v = x then (l.length : Int) else idxL l v := by
  unfold idxL
  by_cases h : v = x
  · subst h
    rw [if_pos (by simp), if_pos rfl, List.idxOf_append, if_neg hx]
    simp
  · rw [if_neg h]
    by_cases hv : v ∈ l
    · rw [if_pos (by simp [hv]), if_pos hv, List.idxOf_append, if_pos hv]
    · rw [if_neg (by simp [hv, h]), if_neg hv]
theorem idxL_range {l : List Int} {v : Int} : -1 ≤ idxL l v ∧ idxL l v ≤ l.length := by
  unfold idxL
  split
  · have := List.idxOf_le_length (a := v) (l := l); omega
  · omega
/-- The successors of v in s, by their places there. -/
def rowTo (a : ArenaD) (s : List Int) (v t : Nat) : List Int := (((rx a.next v).take t).map (idxL s)).filter fun x => decide (0 ≤ x)
def rowIn (a : ArenaD) (s : List Int) (v : Nat) : List Int := rowTo a s v (rx a.next v).length
theorem rowTo_succ {a : ArenaD} {s : List Int} {v t : Nat} (h : t < (rx a.next v).length) : rowTo a s v (t + 1) = rowTo a s v t ++ if decide (0 ≤ idxL s (ix (rx a.next v) t)) = true then [idxL s (ix (rx a.next v) t)] else [] := by
  unfold rowTo
  rw [take_ix h, List.map_append, List.filter_append]
  congr 1
  by_cases e : 0 ≤ idxL s (ix (rx a.next v) t) <;> simp [e]
theorem rowTo_len {a : ArenaD} {s : List Int} {v t : Nat} : (rowTo a s v t).length ≤ t := by
  unfold rowTo
  refine Nat.le_trans (List.length_filter_le _ _) ?_
  simp; omega
theorem rowIn_len {a : ArenaD} {s : List Int} {v : Nat} : (rowIn a s v).length ≤ (rx a.next v).length := rowTo_len
/-- Each vertex of s has a successor in s. -/
def insB (a : ArenaD) (s : List Int) : Bool := s.all fun v => decide (rowIn a s v.toNat ≠ [])
def insP (a : ArenaD) (s : List Int) : ArenaD := ⟨s.map fun v => ix a.owner v.toNat, s.map fun v => rowIn a s v.toNat⟩
def insA (a : ArenaD) (s : List Int) : ArenaD := if insB a s then insP a s else ⟨[], []⟩
theorem insB_bad {a : ArenaD} {s : List Int} {k : Nat} (hk : k < s.length) (h : rowIn a s (ix s k).toNat = []) : insB a s = false := by
  unfold insB
  rw [List.all_eq_false]
  exact ⟨ix s k, mem_ix.2 ⟨k, hk, rfl⟩, by simp [h]⟩
theorem insB_all {a : ArenaD} {s : List Int} (h : ∀ k, k < s.length → rowIn a s (ix s k).toNat ≠ []) : insB a s = true := by
  unfold insB
  rw [List.all_eq_true]
  intro x hx
  obtain ⟨k, hk, e⟩ := mem_ix.1 hx
  rw [← e]
  simpa using h k hk
def insOkB (a : ArenaD) (s : List Int) : Bool := arenaOkB a && (isSetB s a.owner.length && (decide (s ≠ []) && insB a s))
def insG (a : ArenaD) (s : List Int) : ArenaD := if insOkB a s then insP a s else ⟨[], []⟩
theorem map_take_succ {s : List Int} {k : Nat} (f : Int → Int) (hk : k < s.length) : (s.take (k + 1)).map f = (s.take k).map f ++ [f (ix s k)] := by rw [take_ix hk, List.map_append]; rfl
theorem mapr_take_succ {s : List Int} {k : Nat} (f : Int → List Int) (hk : k < s.length) : (s.take (k + 1)).map f = (s.take k).map f ++ [f (ix s k)] := by rw [take_ix hk, List.map_append]; rfl
theorem not_mem_take {s : List Int} {n : Int} {k : Nat} (h : IsSet s n) (hk : k < s.length) : ix s k ∉ s.take k := fun hm => by
  obtain ⟨i, hi, e⟩ := mem_ix.1 hm
  have hi' : i < k := by rw [List.length_take] at hi; omega
  have h1 := h.rising i k hi' hk
  have h2 : ix (s.take k) i = ix s i := by simp [ix, List.getElem?_take, hi']
  omega
end Go.Proofs.Ytmkmghjmfaoobaa

/- The play of two full plans. No program in sight. -/
namespace Go.Proofs.Ytmkmghjmfaoobaa
set_option linter.unusedSimpArgs false
set_option linter.unusedVariables false

def moveI (a : ArenaD) (even odd : List Int) (v : Nat) : Int := if ix a.owner v = 0 then ix even v else ix odd v
def moveN (a : ArenaD) (even odd : List Int) (v : Nat) : Nat := (moveI a even odd v).toNat
theorem planB_at {a : ArenaD} {who : Int} {plan : List Int} (h : planB a who plan = true) {v : Nat} (hv : v < plan.length) (h0 : 0 ≤ ix plan v) : ix plan v ∈ rx a.next v := by
  have h1 := (planB_iff.1 h).vert v hv
  unfold planAtB at h1
  have h2 : ¬ ix plan v = -1 := by omega
  simp only [h2, decide_false, Bool.false_or, Bool.and_eq_true] at h1
  exact hasB_iff.1 h1.2
theorem full_at {a : ArenaD} {who : Int} {plan : List Int} (h : fullB a who plan = true) {v : Nat} (hv : v < a.owner.length) (ho : ix a.owner v = who) : ix plan v ∈ rx a.next v := by
  unfold fullB at h
  rw [Bool.and_eq_true] at h
  have hl := (planB_iff.1 h.1).len
  refine planB_at h.1 (by omega) ?_
  have h2 := h.2
  rcases Int.lt_or_le (ix plan v) 0 with h3 | h3
  · have := movesAll_bad (a := a) (who := who) (plan := plan) (k := v) (by omega) (by unfold movesB; simp [ho, h3])
    rw [this] at h2; cases h2
  · exact h3
theorem move_next {a : ArenaD} {even odd : List Int} (hok : ArenaOk a) (he : fullB a 0 even = true) (ho : fullB a 1 odd = true) {v : Nat} (hv : v < a.owner.length) : moveI a even odd v = (moveN a even odd v : Int) ∧ moveN a even odd v < a.owner.length ∧ moveI a even odd v ∈ rx a.next v := by
  have hm : moveI a even odd v ∈ rx a.next v := by
    unfold moveI
    split
    · rename_i h; exact full_at he hv h
    · rename_i h
      have := hok.owner hv
      exact full_at ho hv (by omega)
  obtain ⟨k, hk, e⟩ := mem_ix.1 hm
  obtain ⟨j, hj, hjn⟩ := (hok.set hv).vert k hk
  unfold moveN
  refine ⟨?_, ?_, hm⟩ <;> omega

/-- The first k vertices of the play. -/
def trackL (f : Nat → Nat) (v k : Nat) : List Int := (List.range k).map fun i => ((iter f i v : Nat) : Int)
@[simp] theorem length_trackL {f : Nat → Nat} {v k : Nat} : (trackL f v k).length = k := by simp [trackL]
theorem trackL_succ {f : Nat → Nat} {v k : Nat} : trackL f v (k + 1) = trackL f v k ++ [((iter f k v : Nat) : Int)] := by simp [trackL, List.range_succ]
theorem ix_trackL {f : Nat → Nat} {v k i : Nat} (h : i < k) : ix (trackL f v k) i = ((iter f i v : Nat) : Int) := by simp [ix, trackL, h]
theorem mem_trackL {f : Nat → Nat} {v k x : Nat} : (x : Int) ∈ trackL f v k ↔ ∃ i, i < k ∧ iter f i v = x := by
  rw [mem_ix]
  constructor
  · rintro ⟨i, hi, e⟩
    rw [length_trackL] at hi
    rw [ix_trackL hi] at e
    exact ⟨i, hi, by omega⟩
  · rintro ⟨i, hi, e⟩
    exact ⟨i, by simpa using hi, by rw [ix_trackL hi, e]⟩
theorem iter_lt {f : Nat → Nat} {v n : Nat} (hf : ∀ x, x < n → f x < n) (hv : v < n) (k : Nat) : iter f k v < n := by
  induction k with
  | zero => exact hv
  | succ k ih => exact hf _ ih
/-- Without a vertex met twice there are at most n. -/
theorem way_short {f : Nat → Nat} {v n k : Nat} (hf : ∀ x, x < n → f x < n) (hv : v < n) (h : ∀ i, i < k → ((iter f i v : Nat) : Int) ∉ trackL f v i) : k ≤ n := by
  refine Nat.le_of_not_lt fun hlt => ?_
  obtain ⟨a, b, hab, hbn, e⟩ := two_equal n (fun i => iter f i v) fun i _ => iter_lt hf hv i
  exact h b (by omega) (mem_trackL.2 ⟨a, hab, e⟩)
theorem way_ends {f : Nat → Nat} {v n : Nat} (hf : ∀ x, x < n → f x < n) (hv : v < n) : ∃ k, ((iter f k v : Nat) : Int) ∈ trackL f v k := by
  obtain ⟨a, b, hab, _, e⟩ := two_equal n (fun i => iter f i v) fun i _ => iter_lt hf hv i
  exact ⟨b, mem_trackL.2 ⟨a, hab, e⟩⟩
open Classical in
noncomputable def playK (f : Nat → Nat) (v : Nat) : Nat := if h : ∃ k, ((iter f k v : Nat) : Int) ∈ trackL f v k then Classical.choose (least_of h) else 0
theorem playK_eq {f : Nat → Nat} {v k : Nat} (h : ((iter f k v : Nat) : Int) ∈ trackL f v k) (h2 : ∀ i, i < k → ((iter f i v : Nat) : Int) ∉ trackL f v i) : playK f v = k := by
  have he : ∃ k, ((iter f k v : Nat) : Int) ∈ trackL f v k := ⟨k, h⟩
  unfold playK
  rw [dif_pos he]
  obtain ⟨h3, h4⟩ := Classical.choose_spec (least_of he)
  rcases Nat.lt_trichotomy (Classical.choose (least_of he)) k with h5 | h5 | h5
  · exact absurd h3 (h2 _ h5)
  · exact h5
  · exact absurd h (h4 _ h5)
def playAt (f : Nat → Nat) (v k : Nat) : Nat := (trackL f v k).idxOf ((iter f k v : Nat) : Int)
noncomputable def playT (f : Nat → Nat) (v : Nat) : TwoD := ⟨(trackL f v (playK f v)).take (playAt f v (playK f v)), (trackL f v (playK f v)).drop (playAt f v (playK f v))⟩
theorem playAt_lt {f : Nat → Nat} {v k : Nat} (h : ((iter f k v : Nat) : Int) ∈ trackL f v k) : playAt f v k < k := by
  have := List.idxOf_lt_length_iff.2 h
  rwa [length_trackL] at this
theorem idx_playAt {f : Nat → Nat} {v k : Nat} (h : ((iter f k v : Nat) : Int) ∈ trackL f v k) : idxL (trackL f v k) ((iter f k v : Nat) : Int) = (playAt f v k : Int) := by
  unfold idxL
  rw [if_pos h]; rfl
def playOkB (a : ArenaD) (even odd : List Int) (v : Int) : Bool := arenaOkB a && (fullB a 0 even && (fullB a 1 odd && thereB a v))
noncomputable def playG (a : ArenaD) (even odd : List Int) (v : Int) : TwoD := if playOkB a even odd v then playT (moveN a even odd) v.toNat else ⟨[], []⟩
theorem playG_size (a : ArenaD) (even odd : List Int) (v : Int) : sizeT (playG a even odd v) ≤ 1048576 := by
  unfold playG
  split
  · rename_i h
    unfold playOkB at h
    simp only [Bool.and_eq_true] at h
    obtain ⟨h1, h2, h3, h4⟩ := h
    have hok := arenaOkB_iff.1 h1
    unfold thereB at h4
    rw [decide_eq_true_eq] at h4
    have hle := hok.le
    have hf : ∀ x, x < a.owner.length → moveN a even odd x < a.owner.length := fun x hx => (move_next hok h2 h3 hx).2.1
    have hv : v.toNat < a.owner.length := by omega
    have hk : playK (moveN a even odd) v.toNat ≤ a.owner.length := by
      obtain ⟨k, hk, hk2⟩ := least_of (way_ends hf hv)
      rw [playK_eq hk hk2]
      exact way_short hf hv hk2
    unfold playT sizeT
    simp only [List.length_take, List.length_drop, length_trackL]
    omega
  · simp [sizeT]
end Go.Proofs.Ytmkmghjmfaoobaa

/- When a lasso is a play, on lists. No program in sight. -/
namespace Go.Proofs.Ytmkmghjmfaoobaa
set_option linter.unusedSimpArgs false
set_option linter.unusedVariables false

theorem ix_append (l m : List Int) (k : Nat) : ix (l ++ m) k = if k < l.length then ix l k else ix m (k - l.length) := by
  unfold ix
  split
  · rename_i h; simp only [List.getD_eq_getElem?_getD]; rw [List.getElem?_append_left h]
  · rename_i h; simp only [List.getD_eq_getElem?_getD]; rw [List.getElem?_append_right (Nat.not_lt.1 h)]
def wayL (l : TwoD) : List Int := l.fst ++ l.snd
def roundL (l : TwoD) : List Int := wayL l ++ [ix l.snd 0]
theorem length_wayL (l : TwoD) : (wayL l).length = l.fst.length + l.snd.length := by simp [wayL]
theorem length_roundL (l : TwoD) : (roundL l).length = l.fst.length + l.snd.length + 1 := by simp [roundL, wayL]; omega
theorem ix_roundL {l : TwoD} {k : Nat} (h : k < (wayL l).length) : ix (roundL l) k = ix (wayL l) k := by unfold roundL; rw [ix_append, if_pos h]
def sizesB (l : TwoD) : Bool := decide (l.fst.length ≤ 256) && (decide (1 ≤ l.snd.length) && decide (l.snd.length ≤ 256))
def vertsB (a : ArenaD) (w : List Int) : Bool := decide (∀ k, k < w.length → thereB a (ix w k) = true)
def stepB (a : ArenaD) (w : List Int) (k : Nat) : Bool := hasB (rx a.next (ix w (k - 1)).toNat) (ix w k)
def stepsB (a : ArenaD) (w : List Int) : Bool := decide (∀ k, k < w.length → (decide (k = 0) || stepB a w k) = true)
def isLassoB (a : ArenaD) (l : TwoD) : Bool := sizesB l && (vertsB a (wayL l) && stepsB a (roundL l))
def lassoB (a : ArenaD) (l : TwoD) : Bool := arenaOkB a && isLassoB a l
def sstepB (a : ArenaD) (w : List Int) (k : Nat) : Bool := thereB a (ix w k) && (decide (k = 0) || stepB a w k)
def sstepsB (a : ArenaD) (w : List Int) : Bool := decide (∀ k, k < w.length → sstepB a w k = true)
theorem sizesB_iff {l : TwoD} : sizesB l = true ↔ l.fst.length ≤ 256 ∧ 1 ≤ l.snd.length ∧ l.snd.length ≤ 256 := by simp [sizesB]
theorem vertsB_bad {a : ArenaD} {w : List Int} {k : Nat} (hk : k < w.length) (h : thereB a (ix w k) = false) : vertsB a w = false := by
  unfold vertsB; rw [decide_eq_false_iff_not]; intro h'; rw [h' k hk] at h; cases h
theorem stepsB_bad {a : ArenaD} {w : List Int} {k : Nat} (h0 : 0 < k) (hk : k < w.length) (h : stepB a w k = false) : stepsB a w = false := by
  unfold stepsB; rw [decide_eq_false_iff_not]; intro h'; have := h' k hk; rw [h, decide_eq_false (by omega)] at this; cases this
theorem sstepsB_bad {a : ArenaD} {w : List Int} {k : Nat} (hk : k < w.length) (h : sstepB a w k = false) : sstepsB a w = false := by
  unfold sstepsB; rw [decide_eq_false_iff_not]; intro h'; rw [h' k hk] at h; cases h
theorem lasso_spec {a : ArenaD} {l : TwoD} (hs : sizesB l = true) : sstepsB a (roundL l) = (vertsB a (wayL l) && stepsB a (roundL l)) := by
  obtain ⟨h1, h2, h3⟩ := sizesB_iff.1 hs
  have hwl := length_wayL l
  have hrl := length_roundL l
  rw [Bool.eq_iff_iff, Bool.and_eq_true]
  unfold sstepsB vertsB stepsB
  simp only [decide_eq_true_eq]
  constructor
  · intro h
    refine ⟨fun k hk => ?_, fun k hk => ?_⟩
    · have := h k (by omega)
      unfold sstepB at this
      rw [ix_roundL hk, Bool.and_eq_true] at this
      exact this.1
    · have := h k hk
      unfold sstepB at this
      rw [Bool.and_eq_true] at this
      exact this.2
  · rintro ⟨hv, hst⟩ k hk
    unfold sstepB
    rw [Bool.and_eq_true]
    constructor
    · by_cases e : k < (wayL l).length
      · rw [ix_roundL e]; exact hv k e
      · have hkw : k = (wayL l).length := by omega
        have : ix (roundL l) k = ix (wayL l) l.fst.length := by
          unfold roundL
          rw [ix_append, if_neg e, hkw]
          unfold wayL
          rw [ix_append, if_neg (by omega)]
          simp [ix]
        rw [this]
        exact hv _ (by omega)
    · exact hst k hk
theorem there_nat {a : ArenaD} {v : Int} (h : thereB a v = true) : ∃ j : Nat, v = (j : Int) ∧ j < a.owner.length := by
  unfold thereB at h
  rw [decide_eq_true_eq] at h
  exact ⟨v.toNat, by omega, by omega⟩
/-- Who wins a play. -/
def wonL (g : ParityD) (l : TwoD) : Int := if parityOkB g && lassoB g.arena l then topL g.prio l.snd % 2 else -1
theorem isLasso_verts {a : ArenaD} {l : TwoD} (h : isLassoB a l = true) : ∀ k, k < l.snd.length → ∃ j : Nat, ix l.snd k = (j : Int) ∧ j < a.owner.length := by
  unfold isLassoB vertsB at h
  simp only [Bool.and_eq_true, decide_eq_true_eq] at h
  intro k hk
  have := h.2.1 (l.fst.length + k) (by rw [length_wayL]; omega)
  unfold wayL at this
  rw [ix_append, if_neg (by omega), show l.fst.length + k - l.fst.length = k by omega] at this
  exact there_nat this
end Go.Proofs.Ytmkmghjmfaoobaa

/- The play of two full plans: it is a play of the arena, and who wins with a plan wins it. No program in sight. -/
namespace Go.Proofs.Ytmkmghjmfaoobaa
set_option linter.unusedSimpArgs false
set_option linter.unusedVariables false

theorem play_facts {f : Nat → Nat} {v n : Nat} (hf : ∀ x, x < n → f x < n) (hv : v < n) :
    ∃ i K, i < K ∧ K ≤ n ∧ playT f v = ⟨(trackL f v K).take i, (trackL f v K).drop i⟩ ∧ iter f i v = iter f K v := by
  obtain ⟨k, hk, hk2⟩ := least_of (way_ends hf hv)
  have hlt := playAt_lt hk
  refine ⟨playAt f v k, k, hlt, way_short hf hv hk2, ?_, ?_⟩
  · unfold playT; rw [playK_eq hk hk2]
  · have h1 : (trackL f v k).idxOf ((iter f k v : Nat) : Int) < (trackL f v k).length := List.idxOf_lt_length_iff.2 hk
    have h2 := List.getElem_idxOf h1
    rw [← ix_lt h1] at h2
    have h3 : ix (trackL f v k) (playAt f v k) = _ := ix_trackL hlt
    unfold playAt at h3 ⊢
    rw [h2] at h3
    omega
theorem ix_drop (l : List Int) (i k : Nat) : ix (l.drop i) k = ix l (i + k) := by simp [ix, List.getElem?_drop]
theorem lasso_play {a : ArenaD} {f : Nat → Nat} {v : Nat} (hle : a.owner.length ≤ 256) (hst : ∀ x, x < a.owner.length → f x < a.owner.length ∧ ((f x : Nat) : Int) ∈ rx a.next x) (hv : v < a.owner.length) : isLassoB a (playT f v) = true := by
  have hf : ∀ x, x < a.owner.length → f x < a.owner.length := fun x hx => (hst x hx).1
  obtain ⟨i, K, hi, hK, e, ei⟩ := play_facts hf hv
  rw [e]
  have hw : wayL ⟨(trackL f v K).take i, (trackL f v K).drop i⟩ = trackL f v K := List.take_append_drop _ _
  have hr : roundL ⟨(trackL f v K).take i, (trackL f v K).drop i⟩ = trackL f v (K + 1) := by
    unfold roundL
    rw [hw, trackL_succ]
    show _ ++ [ix ((trackL f v K).drop i) 0] = _
    rw [ix_drop, Nat.add_zero, ix_trackL hi, ei]
  unfold isLassoB
  rw [hw, hr, Bool.and_eq_true, Bool.and_eq_true]
  refine ⟨sizesB_iff.2 ?_, ?_, ?_⟩
  · simp only [List.length_take, List.length_drop, length_trackL]
    omega
  · unfold vertsB
    rw [decide_eq_true_eq]
    intro k hk
    rw [length_trackL] at hk
    rw [ix_trackL hk]
    have := iter_lt hf hv k
    unfold thereB
    rw [decide_eq_true_eq]
    omega
  · unfold stepsB
    rw [decide_eq_true_eq]
    intro k hk
    rw [length_trackL] at hk
    by_cases h0 : k = 0
    · simp [h0]
    · rw [Bool.or_eq_true]
      right
      obtain ⟨j, rfl⟩ : ∃ j, k = j + 1 := ⟨k - 1, by omega⟩
      unfold stepB
      rw [ix_trackL hk, Nat.add_sub_cancel, ix_trackL (by omega), Int.toNat_natCast]
      exact hasB_iff.2 (hst _ (iter_lt hf hv j)).2

/-- The greatest number of the vertices that a walk leaves. -/
theorem iter_top {pr : Nat → Int} {R : Nat → Nat → Prop} {f : Nat → Nat} {v : Nat} (h : ∀ k, R (iter f k v) (iter f (k + 1) v)) (a d : Nat) :
    ∃ m, WalkM pr R (iter f a v) (iter f (a + d + 1) v) m ∧ (∀ k, a ≤ k → k ≤ a + d → pr (iter f k v) ≤ m) ∧ ∃ k, a ≤ k ∧ k ≤ a + d ∧ pr (iter f k v) = m := by
  induction d generalizing a with
  | zero => exact ⟨_, .one (h a), fun k h1 h2 => by obtain rfl : k = a := by omega
                                                    exact Int.le_refl _, a, by omega, by omega, rfl⟩
  | succ d ih =>
    obtain ⟨m, hm, h1, k, h2, h3, h4⟩ := ih (a + 1)
    have hw := WalkM.cons (h a) hm
    rw [show a + 1 + d + 1 = a + (d + 1) + 1 by omega] at hw
    refine ⟨_, hw, fun j h5 h6 => ?_, ?_⟩
    · by_cases e : j = a
      · subst e; omega
      · have := h1 j (by omega) (by omega); omega
    · by_cases e : pr (iter f a v) ≤ m
      · exact ⟨k, by omega, by omega, by omega⟩
      · exact ⟨a, by omega, by omega, by omega⟩
/-- The top of a play's loop is the top of a round trip. -/
theorem play_top {p : List Int} {f : Nat → Nat} {v n : Nat} (hf : ∀ x, x < n → f x < n) (hv : v < n) (hp : ∀ x, x < n → 0 ≤ ix p x) :
    ∃ u, WalkM (fun x => ix p x) (fun x y => y = f x ∧ ∃ k, x = iter f k v) u u (topL p (playT f v).snd) := by
  obtain ⟨i, K, hi, hK, e, ei⟩ := play_facts hf hv
  obtain ⟨m, hw, h1, k, h2, h3, h4⟩ := iter_top (pr := fun x => ix p x) (R := fun x y => y = f x ∧ ∃ k, x = iter f k v) (f := f) (v := v) (fun k => ⟨rfl, k, rfl⟩) i (K - i - 1)
  rw [show i + (K - i - 1) + 1 = K by omega, ← ei] at hw
  rw [e]
  have hmem : ∀ x, x ∈ (trackL f v K).drop i ↔ ∃ j, i ≤ j ∧ j < K ∧ x = ((iter f j v : Nat) : Int) := fun x => by
    rw [mem_ix]
    constructor
    · rintro ⟨j, hj, e⟩
      rw [List.length_drop, length_trackL] at hj
      rw [ix_drop, ix_trackL (by omega)] at e
      exact ⟨i + j, by omega, by omega, e.symm⟩
    · rintro ⟨j, h1, h2, e⟩
      refine ⟨j - i, by rw [List.length_drop, length_trackL]; omega, ?_⟩
      rw [ix_drop, show i + (j - i) = j by omega, ix_trackL h2, e]
  have htop : topL p ((trackL f v K).drop i) = m := by
    apply Int.le_antisymm
    · obtain ⟨x, hx, e⟩ := topL_at (p := p) (l := (trackL f v K).drop i) (by
        intro h0
        have := (hmem ((iter f i v : Nat) : Int)).2 ⟨i, by omega, hi, rfl⟩
        rw [h0] at this; cases this) fun x hx => by
        obtain ⟨j, _, _, e⟩ := (hmem x).1 hx
        subst e
        exact hp _ (iter_lt hf hv j)
      obtain ⟨j, hj1, hj2, e2⟩ := (hmem x).1 hx
      subst e2
      have := h1 j hj1 (by omega)
      rw [Int.toNat_natCast] at e
      omega
    · have := topL_ge (p := p) ((hmem ((iter f k v : Nat) : Int)).2 ⟨k, h2, by omega, rfl⟩)
      rw [Int.toNat_natCast] at this
      omega
  show ∃ u, WalkM _ _ u u (topL p ((trackL f v K).drop i))
  rw [htop]
  exact ⟨_, hw⟩
/-- Who plays by a plan that wins wins the play. -/
theorem play_wins {g : Duel} {i : Int} {P S : Nat → Prop} {σ f : Nat → Nat} (h : WinsWith g i P S σ) (hf : ∀ x, S x → f x ∈ g.next x ∧ P (f x) ∧ (g.own x = i → f x = σ x)) {v : Nat} (hv : S v) {u : Nat} {m : Int} (hw : WalkM g.pr (fun x y => y = f x ∧ ∃ k, x = iter f k v) u u m) : m % 2 = i := by
  have hS : ∀ x, S x → S (f x) := fun x hx => by
    obtain ⟨h1, h2, h3⟩ := hf x hx
    by_cases ho : g.own x = i
    · rw [h3 ho]; exact (h.mine x hx ho).2
    · exact h.theirs x _ hx ho h1 h2
  have horb : ∀ k, S (iter f k v) := fun k => by
    induction k with
    | zero => exact hv
    | succ k ih => exact hS _ ih
  refine h.good u m (hw.mono fun a b hab => ?_)
  obtain ⟨rfl, k, rfl⟩ := hab
  obtain ⟨h1, h2, h3⟩ := hf _ (horb k)
  exact ⟨horb k, hS _ (horb k), h1, h2, h3⟩

/-- On a round trip lies a vertex with its greatest number. -/
theorem WalkM.top_split {pr : Nat → Int} {R : Nat → Nat → Prop} {v u : Nat} {m : Int} (h : WalkM pr R v u m) : pr v = m ∨ ∃ x m1 m2, pr x = m ∧ WalkM pr R v x m1 ∧ WalkM pr R x u m2 ∧ m = max m1 m2 := by
  induction h with
  | one h => exact .inl rfl
  | cons h g ih =>
    rename_i v x u m
    by_cases e : m ≤ pr v
    · left; omega
    · right
      rcases ih with e1 | ⟨y, m1, m2, h1, h2, h3, h4⟩
      · exact ⟨x, pr v, m, by omega, .one h, g, rfl⟩
      · exact ⟨y, max (pr v) m1, m2, by omega, .cons h h2, h3, by omega⟩
theorem WalkM.at_top {pr : Nat → Int} {R : Nat → Nat → Prop} {v : Nat} {m : Int} (h : WalkM pr R v v m) : ∃ x, pr x = m ∧ WalkM pr R x x m := by
  rcases h.top_split with e | ⟨x, m1, m2, h1, h2, h3, h4⟩
  · exact ⟨v, e, h⟩
  · refine ⟨x, h1, ?_⟩
    have := h3.trans h2
    rwa [Int.max_comm, ← h4] at this
theorem mem_nat {l : List Int} {n x : Nat} (h : IsSet l n) : x ∈ l.map Int.toNat ↔ (x : Int) ∈ l := by
  rw [List.mem_map]
  constructor
  · rintro ⟨y, hy, rfl⟩
    obtain ⟨k, hk, rfl⟩ := mem_ix.1 hy
    have := (h k hk).1
    rwa [Int.toNat_of_nonneg this]
  · intro hx
    exact ⟨_, hx, by simp⟩
section
variable {g : ParityD} {who : Int} {s plan : List Int}
theorem fix_edge (hok : ParityOk g) (hck : CheckOk g.arena who s plan) (hcl : closedL g.arena who s plan = true) {x u : Nat}
    (h : Moves (duel g.arena.owner g.prio g.arena.next) who (fun x => x < g.arena.owner.length) (fun x => (x : Int) ∈ s) (fun x => (ix plan x).toNat) x u) :
    x < g.arena.owner.length ∧ (u : Int) ∈ rx (fixTo g.arena plan g.arena.next.length) x := by
  obtain ⟨h1, h2, h3, h4, h5⟩ := h
  obtain ⟨k, hk, ek⟩ := mem_ix.1 h1
  have hx : x < g.arena.owner.length := by have := (hck.set k hk).2.1; omega
  refine ⟨hx, ?_⟩
  have hl := hok.arena.len
  rw [rx_fixTo (by omega), if_pos (by omega)]
  have h6 := (mem_nat (hok.arena.set hx)).1 h3
  by_cases ho : ix g.arena.owner x = who
  · have h7 : u = (ix plan x).toNat := h5 ho
    have h8 := List.all_eq_true.1 hcl _ h1
    unfold closedAt at h8
    rw [Int.toNat_natCast, if_pos ho, Bool.and_eq_true, decide_eq_true_eq] at h8
    unfold fixAt
    rw [if_pos h8.1, List.mem_singleton, h7]
    omega
  · have h7 := hck.plan.vert x (by rw [hck.plan.len]; exact hx)
    unfold planAtB at h7
    simp only [ho, decide_false, Bool.false_and, Bool.or_false, decide_eq_true_eq] at h7
    unfold fixAt
    rw [h7, if_neg (by omega)]
    exact h6
theorem walk_beyond (hok : ParityOk g) (hck : CheckOk g.arena who s plan) (hcl : closedL g.arena who s plan = true) {x u : Nat} {m M : Int}
    (h : WalkM (fun x => ix g.prio x) (Moves (duel g.arena.owner g.prio g.arena.next) who (fun x => x < g.arena.owner.length) (fun x => (x : Int) ∈ s) (fun x => (ix plan x).toNat)) x u m) (hm : m ≤ M) (hu : ix g.prio u ≤ M) :
    ∃ y, StepIn (fixTo g.arena plan g.arena.next.length) (bx (insideL g.prio.length g.prio s M)) x y ∧ Ways (fixTo g.arena plan g.arena.next.length) (bx (insideL g.prio.length g.prio s M)) y u := by
  have hin : ∀ {y : Nat}, (y : Int) ∈ s → ix g.prio y ≤ M → bx (insideL g.prio.length g.prio s M) y = true := fun {y} h1 h2 => by
    obtain ⟨k, hk, ek⟩ := mem_ix.1 h1
    have hy := (hck.set k hk).2.1
    have hl := hok.len
    rw [bx_insideL (by omega)]
    simp [h1, h2]
  induction h with
  | one h => exact ⟨_, ⟨(fix_edge hok hck hcl h).2, hin h.2.1 hu⟩, .refl _⟩
  | cons h _ ih =>
    rename_i x y u m' hw
    obtain ⟨z, hz, hz2⟩ := ih (by omega) hu
    have hy : ix g.prio y ≤ M := by
      rcases hw.first with ⟨_, e⟩ | ⟨_, _, _, _, e⟩
      · omega
      · omega
    exact ⟨y, ⟨(fix_edge hok hck hcl h).2, hin h.2.1 hy⟩, .head hz hz2⟩
/-- A checked plan wins. -/
theorem checked_wins (hok : ParityOk g) (hck : CheckOk g.arena who s plan) (hcl : closedL g.arena who s plan = true) (hbad : badL g who s plan = []) :
    WinsWith (duel g.arena.owner g.prio g.arena.next) who (fun x => x < g.arena.owner.length) (fun x => (x : Int) ∈ s) (fun x => (ix plan x).toNat) := by
  have hlt : ∀ {x : Nat}, (x : Int) ∈ s → x < g.arena.owner.length := fun {x} h1 => by
    obtain ⟨k, hk, ek⟩ := mem_ix.1 h1
    have := (hck.set k hk).2.1; omega
  have hc : ∀ {x : Nat}, (x : Int) ∈ s → closedAt g.arena who plan (marksL g.arena.owner.length s) x = true := fun {x} h1 => by
    have := List.all_eq_true.1 hcl _ h1
    rwa [Int.toNat_natCast] at this
  have hbs : ∀ {y : Nat}, bx (marksL g.arena.owner.length s) y = true → (y : Int) ∈ s := fun {y} hy => by
    by_cases hyl : y < g.arena.owner.length
    · rw [bx_marksL hyl] at hy; simpa using hy
    · unfold bx marksL at hy; simp [hyl] at hy
  refine ⟨fun x hx => hlt hx, fun x hx ho => ?_, fun x u hx ho hu hP => ?_, fun x m hw => ?_⟩
  · have h1 := hc hx
    have ho' : ix g.arena.owner x = who := ho
    unfold closedAt at h1
    rw [if_pos ho', Bool.and_eq_true, decide_eq_true_eq] at h1
    refine ⟨?_, hbs h1.2⟩
    rcases hck.plan.move hok.arena (hlt hx) with h2 | ⟨j, h2, h3, h4⟩
    · omega
    · refine (mem_nat (hok.arena.set (hlt hx))).2 ?_
      rw [h2, Int.toNat_natCast]; exact h4
  · have h1 := hc hx
    have ho' : ¬ ix g.arena.owner x = who := ho
    unfold closedAt at h1
    rw [if_neg ho'] at h1
    have h2 := List.all_eq_true.1 h1 _ ((mem_nat (hok.arena.set (hlt hx))).1 hu)
    rw [Int.toNat_natCast] at h2
    exact hbs h2
  · obtain ⟨y, hy, hw2⟩ := hw.at_top
    have hpl := hok.len
    by_cases hpar : m % 2 = who
    · exact hpar
    · exfalso
      obtain ⟨z, hz, hz2⟩ := walk_beyond hok hck hcl hw2 (Int.le_refl m) (by have : ix g.prio y = m := hy; omega)
      have hys : (y : Int) ∈ s := by
        rcases hw2.first with ⟨h1, _⟩ | ⟨_, _, h1, _, _⟩ <;> exact h1.1
      have hyl := hlt hys
      have hy' : ix g.prio y = m := hy
      have hin : (y : Int) ∈ badL g who s plan := by
        unfold badL
        rw [List.mem_filter]
        refine ⟨hys, ?_⟩
        unfold badAt
        rw [Int.toNat_natCast, hy', Bool.and_eq_true]
        refine ⟨by simp [hpar], (bx_beyondL (by omega)).2 ⟨y, z, by simp, hz, hz2⟩⟩
      rw [hbad] at hin; cases hin
end
end Go.Proofs.Ytmkmghjmfaoobaa

/- What the law on plays asks of the play of two full plans. No program in sight. -/
namespace Go.Proofs.Ytmkmghjmfaoobaa
set_option linter.unusedSimpArgs false
set_option linter.unusedVariables false

theorem rx_fixA {a : ArenaD} {plan : List Int} (hl : a.next.length = a.owner.length) {v : Nat} (hv : v < a.owner.length) : rx (fixA a plan).next v = fixAt a plan v := by
  show rx (fixTo a plan a.next.length) v = _
  rw [rx_fixTo (by omega), if_pos (by omega)]
section
variable {a : ArenaD} {even odd : List Int}
theorem plan_other {who : Int} {plan : List Int} (h : PlanOk a who plan) {v : Nat} (hv : v < a.owner.length) (ho : ix a.owner v ≠ who) : ix plan v = -1 := by
  have h7 := h.vert v (by rw [h.len]; exact hv)
  unfold planAtB at h7
  simpa only [ho, decide_false, Bool.false_and, Bool.or_false, decide_eq_true_eq] using h7
theorem full_plan {who : Int} {plan : List Int} (h : fullB a who plan = true) : PlanOk a who plan := by
  unfold fullB at h
  rw [Bool.and_eq_true] at h
  exact planB_iff.1 h.1
theorem full_nonneg {who : Int} {plan : List Int} (hok : ArenaOk a) (h : fullB a who plan = true) {v : Nat} (hv : v < a.owner.length) (ho : ix a.owner v = who) : 0 ≤ ix plan v := by
  have h1 := full_at h hv ho
  obtain ⟨k, hk, e⟩ := mem_ix.1 h1
  have := (hok.set hv k hk).1
  omega
/-- What holds of two full plans and of a vertex. -/
structure PlaysFit (a : ArenaD) (even odd : List Int) (v : Nat) : Prop where
  ok : playOkB a even odd v = true
  lasso : isLassoB a (playG a even odd v) = true
  x : planOkB a 0 even = true
  y : planOkB (fixA a even) 1 odd = true
  pl : planOkB a 1 odd = true
  lasso2 : lassoB (fixA (fixA a even) odd) (playG a even odd v) = true
  first : ix (wayL (playG a even odd v)) 0 = (v : Int)
  pos : 1 ≤ (wayL (playG a even odd v)).length
  short : (wayL (playG a even odd v)).length ≤ a.owner.length
theorem fix_plan (hok : ArenaOk a) (he : fullB a 0 even = true) (ho : fullB a 1 odd = true) : PlanOk (fixA a even) 1 odd := by
  have he' := full_plan he
  have ho' := full_plan ho
  refine ⟨ho'.len, fun v hv => ?_⟩
  have hvn : v < a.owner.length := by rw [← ho'.len]; exact hv
  unfold planAtB
  rw [rx_fixA hok.len hvn]
  have h1 := ho'.vert v hv
  by_cases e : ix a.owner v = 1
  · have h2 := plan_other he' hvn (by omega)
    have e2 : fixAt a even v = rx a.next v := by unfold fixAt; rw [h2]; rfl
    rw [e2]
    exact h1
  · rw [plan_other ho' hvn e]; rfl
theorem plays_fit (hok : ArenaOk a) (he : fullB a 0 even = true) (ho : fullB a 1 odd = true) {v : Nat} (hv : v < a.owner.length) : PlaysFit a even odd v := by
  have he' := full_plan he
  have ho' := full_plan ho
  have hp : playOkB a even odd v = true := by
    unfold playOkB
    rw [arenaOkB_iff.2 hok, he, ho]
    unfold thereB
    simp; omega
  have hG : playG a even odd v = playT (moveN a even odd) v := by
    unfold playG
    rw [if_pos hp, Int.toNat_natCast]
  have hmv := fun {x : Nat} (hx : x < a.owner.length) => move_next hok he ho hx
  have hf : ∀ x, x < a.owner.length → moveN a even odd x < a.owner.length := fun x hx => (hmv hx).2.1
  have hyp := fix_plan hok he ho
  have hxok := fixA_ok hok he'
  have hyok := fixA_ok hxok hyp
  obtain ⟨i, K, hi, hK, e, ei⟩ := play_facts hf hv
  have hw : wayL (playG a even odd v) = trackL (moveN a even odd) v K := by
    rw [hG, e]; exact List.take_append_drop _ _
  refine ⟨hp, ?_, ?_, ?_, ?_, ?_, ?_, ?_, ?_⟩
  · rw [hG]
    exact lasso_play hok.le (fun x hx => ⟨hf x hx, by rw [← (hmv hx).1]; exact (hmv hx).2.2⟩) hv
  · unfold planOkB; rw [arenaOkB_iff.2 hok, planB_iff.2 he']; rfl
  · unfold planOkB; rw [arenaOkB_iff.2 hxok, planB_iff.2 hyp]; rfl
  · unfold planOkB; rw [arenaOkB_iff.2 hok, planB_iff.2 ho']; rfl
  · unfold lassoB
    rw [arenaOkB_iff.2 hyok, hG, Bool.true_and]
    refine lasso_play (a := fixA (fixA a even) odd) hok.le (fun x hx => ⟨hf x hx, ?_⟩) hv
    have hx' : x < a.owner.length := hx
    rw [rx_fixA hxok.len hx', ← (hmv hx').1]
    have hown := hok.owner hx'
    by_cases e0 : ix a.owner x = 0
    · have h1 := plan_other ho' hx' (by omega)
      have h2 := full_nonneg hok he hx' e0
      have e1 : fixAt (fixA a even) odd x = fixAt a even x := by
        have : fixAt (fixA a even) odd x = rx (fixA a even).next x := by unfold fixAt; rw [h1]; rfl
        rw [this, rx_fixA hok.len hx']
      rw [e1]
      unfold fixAt moveI
      rw [if_pos h2, if_pos e0]
      simp
    · have h2 := full_nonneg hok ho hx' (by omega)
      unfold fixAt moveI
      rw [if_pos h2, if_neg e0]
      simp
  · rw [hw, ix_trackL (by omega)]; rfl
  · rw [hw, length_trackL]; omega
  · rw [hw, length_trackL]; exact hK
end
end Go.Proofs.Ytmkmghjmfaoobaa
