/- The play of two full plans. No program in sight. -/
import Derived.Test.YtogfpalgnjlfcaaPkC
import Derived.Test.YtogfpalgnjlfcaaFullWalks
namespace Go.Proofs.Ytogfpalgnjlfcaa
set_option linter.unusedSimpArgs false
set_option linter.unusedVariables false

def moveI (a : ArenaD) (even odd : List Int) (v : Nat) : Int := if ix a.owner v = 0 then ix even v else ix odd v
def moveN (a : ArenaD) (even odd : List Int) (v : Nat) : Nat := (moveI a even odd v).toNat
theorem planB_at {a : ArenaD} {who : Int} {plan : List Int} (h : planB a who plan = true) {v : Nat} (hv : v < plan.length) (h0 : 0 ≤ ix plan v) : ix plan v ∈ rx a.next v := by
  have h1 := (planB_iff.1 h).vert v hv
  unfold planAtB at h1
  have h2 : ¬ ix plan v = -1 := by omega
  simp only [h2, decide_false, Bool.false_or, Bool.and_eq_true] at h1
  exact hasB_iff.1 h1.2
theorem full_at {a : ArenaD} {who : Int} {plan : List Int} (h : fullB a who plan = true) {v : Nat} (hv : v < a.owner.length) (ho : ix a.owner v = who) : ix plan v ∈ rx a.next v := by
  unfold fullB at h
  rw [Bool.and_eq_true] at h
  have hl := (planB_iff.1 h.1).len
  refine planB_at h.1 (by omega) ?_
  have h2 := h.2
  rcases Int.lt_or_le (ix plan v) 0 with h3 | h3
  · have := movesAll_bad (a := a) (who := who) (plan := plan) (k := v) (by omega) (by unfold movesB; simp [ho, h3])
    rw [this] at h2; cases h2
  · exact h3
theorem move_next {a : ArenaD} {even odd : List Int} (hok : ArenaOk a) (he : fullB a 0 even = true) (ho : fullB a 1 odd = true) {v : Nat} (hv : v < a.owner.length) : moveI a even odd v = (moveN a even odd v : Int) ∧ moveN a even odd v < a.owner.length ∧ moveI a even odd v ∈ rx a.next v := by
  have hm : moveI a even odd v ∈ rx a.next v := by
    unfold moveI
    split
    · rename_i h; exact full_at he hv h
    · rename_i h
      have := hok.owner hv
      exact full_at ho hv (by omega)
  obtain ⟨k, hk, e⟩ := mem_ix.1 hm
  obtain ⟨j, hj, hjn⟩ := (hok.set hv).vert k hk
  unfold moveN
  refine ⟨?_, ?_, hm⟩ <;> omega

/-- The first k vertices of the play. -/
def trackL (f : Nat → Nat) (v k : Nat) : List Int := (List.range k).map fun i => ((iter f i v : Nat) : Int)
@[simp] theorem length_trackL {f : Nat → Nat} {v k : Nat} : (trackL f v k).length = k := by simp [trackL]
theorem trackL_succ {f : Nat → Nat} {v k : Nat} : trackL f v (k + 1) = trackL f v k ++ [((iter f k v : Nat) : Int)] := by simp [trackL, List.range_succ]
theorem ix_trackL {f : Nat → Nat} {v k i : Nat} (h : i < k) : ix (trackL f v k) i = ((iter f i v : Nat) : Int) := by simp [ix, trackL, h]
theorem mem_trackL {f : Nat → Nat} {v k x : Nat} : (x : Int) ∈ trackL f v k ↔ ∃ i, i < k ∧ iter f i v = x := by
  rw [mem_ix]
  constructor
  · rintro ⟨i, hi, e⟩
    rw [length_trackL] at hi
    rw [ix_trackL hi] at e
    exact ⟨i, hi, by omega⟩
  · rintro ⟨i, hi, e⟩
    exact ⟨i, by simpa using hi, by rw [ix_trackL hi, e]⟩
theorem iter_lt {f : Nat → Nat} {v n : Nat} (hf : ∀ x, x < n → f x < n) (hv : v < n) (k : Nat) : iter f k v < n := by
  induction k with
  | zero => exact hv
  | succ k ih => exact hf _ ih
/-- Without a vertex met twice there are at most n. -/
theorem way_short {f : Nat → Nat} {v n k : Nat} (hf : ∀ x, x < n → f x < n) (hv : v < n) (h : ∀ i, i < k → ((iter f i v : Nat) : Int) ∉ trackL f v i) : k ≤ n := by
  refine Nat.le_of_not_lt fun hlt => ?_
  obtain ⟨a, b, hab, hbn, e⟩ := two_equal n (fun i => iter f i v) fun i _ => iter_lt hf hv i
  exact h b (by omega) (mem_trackL.2 ⟨a, hab, e⟩)
theorem way_ends {f : Nat → Nat} {v n : Nat} (hf : ∀ x, x < n → f x < n) (hv : v < n) : ∃ k, ((iter f k v : Nat) : Int) ∈ trackL f v k := by
  obtain ⟨a, b, hab, _, e⟩ := two_equal n (fun i => iter f i v) fun i _ => iter_lt hf hv i
  exact ⟨b, mem_trackL.2 ⟨a, hab, e⟩⟩
open Classical in
noncomputable def playK (f : Nat → Nat) (v : Nat) : Nat := if h : ∃ k, ((iter f k v : Nat) : Int) ∈ trackL f v k then Classical.choose (least_of h) else 0
theorem playK_eq {f : Nat → Nat} {v k : Nat} (h : ((iter f k v : Nat) : Int) ∈ trackL f v k) (h2 : ∀ i, i < k → ((iter f i v : Nat) : Int) ∉ trackL f v i) : playK f v = k := by
  have he : ∃ k, ((iter f k v : Nat) : Int) ∈ trackL f v k := ⟨k, h⟩
  unfold playK
  rw [dif_pos he]
  obtain ⟨h3, h4⟩ := Classical.choose_spec (least_of he)
  rcases Nat.lt_trichotomy (Classical.choose (least_of he)) k with h5 | h5 | h5
  · exact absurd h3 (h2 _ h5)
  · exact h5
  · exact absurd h (h4 _ h5)
def playAt (f : Nat → Nat) (v k : Nat) : Nat := (trackL f v k).idxOf ((iter f k v : Nat) : Int)
noncomputable def playT (f : Nat → Nat) (v : Nat) : TwoD := ⟨(trackL f v (playK f v)).take (playAt f v (playK f v)), (trackL f v (playK f v)).drop (playAt f v (playK f v))⟩
theorem playAt_lt {f : Nat → Nat} {v k : Nat} (h : ((iter f k v : Nat) : Int) ∈ trackL f v k) : playAt f v k < k := by
  have := List.idxOf_lt_length_iff.2 h
  rwa [length_trackL] at this
theorem idx_playAt {f : Nat → Nat} {v k : Nat} (h : ((iter f k v : Nat) : Int) ∈ trackL f v k) : idxL (trackL f v k) ((iter f k v : Nat) : Int) = (playAt f v k : Int) := by
  unfold idxL
  rw [if_pos h]; rfl
def playOkB (a : ArenaD) (even odd : List Int) (v : Int) : Bool := arenaOkB a && (fullB a 0 even && (fullB a 1 odd && thereB a v))
noncomputable def playG (a : ArenaD) (even odd : List Int) (v : Int) : TwoD := if playOkB a even odd v then playT (moveN a even odd) v.toNat else ⟨[], []⟩
theorem playG_size (a : ArenaD) (even odd : List Int) (v : Int) : sizeT (playG a even odd v) ≤ 1048576 := by
  unfold playG
  split
  · rename_i h
    unfold playOkB at h
    simp only [Bool.and_eq_true] at h
    obtain ⟨h1, h2, h3, h4⟩ := h
    have hok := arenaOkB_iff.1 h1
    unfold thereB at h4
    rw [decide_eq_true_eq] at h4
    have hle := hok.le
    have hf : ∀ x, x < a.owner.length → moveN a even odd x < a.owner.length := fun x hx => (move_next hok h2 h3 hx).2.1
    have hv : v.toNat < a.owner.length := by omega
    have hk : playK (moveN a even odd) v.toNat ≤ a.owner.length := by
      obtain ⟨k, hk, hk2⟩ := least_of (way_ends hf hv)
      rw [playK_eq hk hk2]
      exact way_short hf hv hk2
    unfold playT sizeT
    simp only [List.length_take, List.length_drop, length_trackL]
    omega
  · simp [sizeT]
end Go.Proofs.Ytogfpalgnjlfcaa
