/- The loops that a plan leaves open to the other player. No program in sight. -/
import Derived.Test.YtogfpalgnjlfcaaPkC
import Derived.Test.YtogfpalgnjlfcaaFixedWalks
import Derived.Test.YtogfpalgnjlfcaaClosedWalks
namespace Go.Proofs.Ytogfpalgnjlfcaa
set_option linter.unusedSimpArgs false
set_option linter.unusedVariables false

/-- The vertices of s whose priority is at most p, as marks. -/
def insideL (n : Nat) (prio s : List Int) (p : Int) : List Bool := (List.range n).map fun (u : Nat) => decide ((u : Int) ∈ s) && decide (ix prio u ≤ p)
@[simp] theorem length_insideL (n : Nat) (prio s : List Int) (p : Int) : (insideL n prio s p).length = n := by simp [insideL]
theorem bx_insideL {n : Nat} {prio s : List Int} {p : Int} {u : Nat} (h : u < n) : bx (insideL n prio s p) u = (decide ((u : Int) ∈ s) && decide (ix prio u ≤ p)) := by simp [bx, insideL, h]
theorem insideL_zero (n : Nat) (prio s : List Int) (p : Int) : insideL n prio (s.take 0) p = List.replicate n false := bools_ext (by simp) fun j hj => by
  have hj' : j < n := by simpa using hj
  rw [bx_insideL hj']
  simp [bx, hj']
theorem insideL_step {n : Nat} {prio s : List Int} {p : Int} {k j : Nat} (hk : k < s.length) (hj : ix s k = (j : Int)) (hjn : j < n) : insideL n prio (s.take (k + 1)) p = (insideL n prio (s.take k) p).set j (decide (ix prio j ≤ p)) := bools_ext (by simp) fun i hi => by
  have hi' : i < n := by simpa using hi
  rw [bx_insideL hi', bx_set (by simpa using hjn), take_ix hk, hj]
  by_cases e : i = j
  · subst e; simp
  · have : ¬ (i : Int) = (j : Int) := by omega
    rw [if_neg e, bx_insideL hi']
    simp [this]
/-- The vertices of row that are marked, as marks. -/
def startL (n : Nat) (m : List Bool) (row : List Int) : List Bool := (List.range n).map fun (u : Nat) => decide ((u : Int) ∈ row) && bx m u
@[simp] theorem length_startL (n : Nat) (m : List Bool) (row : List Int) : (startL n m row).length = n := by simp [startL]
theorem bx_startL {n : Nat} {m : List Bool} {row : List Int} {u : Nat} (h : u < n) : bx (startL n m row) u = (decide ((u : Int) ∈ row) && bx m u) := by simp [bx, startL, h]
theorem startL_zero (n : Nat) (m : List Bool) (row : List Int) : startL n m (row.take 0) = List.replicate n false := bools_ext (by simp) fun j hj => by
  have hj' : j < n := by simpa using hj
  rw [bx_startL hj']
  simp [bx, hj']
theorem startL_step {n : Nat} {m : List Bool} {row : List Int} {k j : Nat} (hk : k < row.length) (hj : ix row k = (j : Int)) (hjn : j < n) : startL n m (row.take (k + 1)) = (startL n m (row.take k)).set j (bx m j) := bools_ext (by simp) fun i hi => by
  have hi' : i < n := by simpa using hi
  rw [bx_startL hi', bx_set (by simpa using hjn), take_ix hk, hj]
  by_cases e : i = j
  · subst e; simp
  · have : ¬ (i : Int) = (j : Int) := by omega
    rw [if_neg e, bx_startL hi']
    simp [this]
theorem reach_start {n : Nat} {next : List (List Int)} {m : List Bool} {v : Nat} (hv : v < n) (hr : Vert (rx next v) n) :
    bx (reachL next (bx m) n (fun x => bx (startL n m (rx next v)) x = true)) v = bx (beyondL next (bx m) n (fun y => (y : Int) ∈ [(v : Int)])) v := by
  rw [Bool.eq_iff_iff, bx_reachL hv, bx_beyondL hv]
  constructor
  · rintro ⟨u, hu, hw⟩
    by_cases hun : u < n
    · rw [bx_startL hun, Bool.and_eq_true, decide_eq_true_eq] at hu
      exact ⟨v, u, by simp, hu, hw⟩
    · exfalso
      unfold bx startL at hu
      simp [hun] at hu
  · rintro ⟨y, u, hy, ⟨h1, h2⟩, hw⟩
    have e0 : (y : Int) = v := by simpa using hy
    have e : y = v := by omega
    subst e
    obtain ⟨k, hk, e⟩ := mem_ix.1 h1
    obtain ⟨j, hj, hjn⟩ := hr k hk
    have e2 : j = u := by omega
    subst e2
    exact ⟨j, by show bx (startL n m _) j = true; rw [bx_startL hjn, h2]; simpa using h1, hw⟩

/-- v is of the other player's parity, and it lies on a way back to itself through s whose priorities are at most v's. -/
noncomputable def badAt (next : List (List Int)) (n : Nat) (prio s : List Int) (who : Int) (v : Nat) : Bool :=
  !decide (ix prio v % 2 = who) && bx (beyondL next (bx (insideL n prio s (ix prio v))) n (fun y => (y : Int) ∈ [(v : Int)])) v
noncomputable def badL (g : ParityD) (who : Int) (s plan : List Int) : List Int := s.filter fun x => badAt (fixTo g.arena plan g.arena.next.length) g.prio.length g.prio s who x.toNat
theorem badL_len (g : ParityD) (who : Int) (s plan : List Int) : (badL g who s plan).length ≤ s.length := List.length_filter_le _ _
/-- The plan's rows are rows of vertices. -/
theorem fixA_ok {a : ArenaD} {who : Int} {plan : List Int} (hok : ArenaOk a) (hp : PlanOk a who plan) : ArenaOk (fixA a plan) := by
  have hl := hok.len
  refine ⟨hok.pos, hok.le, by simp [fixA, hl], fun v hv => ?_⟩
  have hv' : v < a.owner.length := hv
  have hrx : rx (fixA a plan).next v = fixAt a plan v := by
    show rx (fixTo a plan a.next.length) v = _
    rw [rx_fixTo (by omega), if_pos (by omega)]
  have h0 := hok.vert v hv'
  rcases hp.move hok hv' with h1 | ⟨j, h1, h2, _⟩
  · have e : fixAt a plan v = rx a.next v := by unfold fixAt; rw [h1]; rfl
    unfold vertexOkB
    rw [hrx, e]
    exact h0
  · have e : fixAt a plan v = [(j : Int)] := by unfold fixAt; rw [h1, if_pos (by omega)]
    unfold vertexOkB
    rw [hrx, e]
    have h3 := hok.owner hv'
    have h4 : isSetB [(j : Int)] a.owner.length = true := isSetB_iff.2 fun k hk => by
      have : k = 0 := by simpa using hk
      subst this
      simp [ix]; omega
    simp only [Bool.and_eq_true, decide_eq_true_eq]
    exact ⟨⟨⟨h3, by simp⟩, by simp⟩, h4⟩
end Go.Proofs.Ytogfpalgnjlfcaa
