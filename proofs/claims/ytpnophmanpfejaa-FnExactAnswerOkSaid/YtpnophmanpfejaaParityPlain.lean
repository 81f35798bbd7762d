/- When a game is valid, and the functions of a game's priorities. No program in sight. -/
import Derived.Test.YtpnophmanpfejaaParity
import Derived.Test.YtpnophmanpfejaaArenaPlain
namespace Go.Proofs.Ytpnophmanpfejaa
set_option linter.unusedSimpArgs false
set_option linter.unusedVariables false

def prioOkB (l : List Int) : Bool := decide (∀ v, v < l.length → 0 ≤ ix l v ∧ ix l v ≤ 40)
def parityOkB (g : ParityD) : Bool := arenaOkB g.arena && (decide (g.prio.length = g.arena.owner.length) && prioOkB g.prio)
theorem prioOkB_iff {l : List Int} : prioOkB l = true ↔ ∀ v, v < l.length → 0 ≤ ix l v ∧ ix l v ≤ 40 := by simp [prioOkB]
theorem prioOkB_bad {l : List Int} {k : Nat} (hk : k < l.length) (h : ¬ (0 ≤ ix l k ∧ ix l k ≤ 40)) : prioOkB l = false := by
  rw [Bool.eq_false_iff]; exact fun h' => h (prioOkB_iff.1 h' k hk)
structure ParityOk (g : ParityD) : Prop where
  arena : ArenaOk g.arena
  len : g.prio.length = g.arena.owner.length
  prio : ∀ v, v < g.prio.length → 0 ≤ ix g.prio v ∧ ix g.prio v ≤ 40
theorem parityOkB_iff {g : ParityD} : parityOkB g = true ↔ ParityOk g := by
  unfold parityOkB
  simp only [Bool.and_eq_true, arenaOkB_iff, prioOkB_iff, decide_eq_true_eq]
  exact ⟨fun ⟨h1, h2, h3⟩ => ⟨h1, h2, h3⟩, fun ⟨h1, h2, h3⟩ => ⟨h1, h2, h3⟩⟩
def sameParityB (a b : ParityD) : Bool := parityOkB a && (parityOkB b && decide (a = b))

/-- The greatest priority of vertices, -1 of none. -/
def topL (p : List Int) (l : List Int) : Int := l.foldl (fun t v => max t (ix p v.toNat)) (-1)
def topTo (p : List Int) (l : List Int) (k : Nat) : Int := topL p (l.take k)
theorem topTo_zero (p l : List Int) : topTo p l 0 = -1 := rfl
theorem topTo_succ {p l : List Int} {k : Nat} (hk : k < l.length) : topTo p l (k + 1) = max (topTo p l k) (ix p (ix l k).toNat) := by
  unfold topTo topL
  rw [take_ix hk, List.foldl_append]
  rfl
theorem topTo_all (p l : List Int) : topTo p l l.length = topL p l := by unfold topTo; rw [List.take_length]
def topG (g : ParityD) (l : List Int) : Int := if parityOkB g && isSetB l g.arena.owner.length then topL g.prio l else -1
def withL (p : List Int) (l : List Int) (x : Int) : List Int := l.filter fun v => decide (ix p v.toNat = x)
def withG (g : ParityD) (l : List Int) (x : Int) : List Int := if parityOkB g && isSetB l g.arena.owner.length then withL g.prio l x else []
theorem topL_bounds {p l : List Int} (hp : ∀ v, v < p.length → 0 ≤ ix p v ∧ ix p v ≤ 40) : -1 ≤ topL p l ∧ topL p l ≤ 40 := by
  unfold topL
  suffices h : ∀ (l : List Int) (t : Int), -1 ≤ t ∧ t ≤ 40 → -1 ≤ l.foldl (fun t v => max t (ix p v.toNat)) t ∧ l.foldl (fun t v => max t (ix p v.toNat)) t ≤ 40 from h l _ (by omega)
  intro l
  induction l with
  | nil => intro t h; exact h
  | cons x l ih =>
    intro t h
    apply ih
    show -1 ≤ max t (ix p x.toNat) ∧ max t (ix p x.toNat) ≤ 40
    by_cases hx : x.toNat < p.length
    · have := hp _ hx; omega
    · have : ix p x.toNat = 0 := by simp [ix, Nat.not_lt.1 hx]
      omega
theorem topTo_bounds {p l : List Int} (hp : ∀ v, v < p.length → 0 ≤ ix p v ∧ ix p v ≤ 40) (k : Nat) : -1 ≤ topTo p l k ∧ topTo p l k ≤ 40 := topL_bounds hp
theorem withG_len {g : ParityD} {l : List Int} {x : Int} {n : Nat} (h : l.length ≤ n) : (withG g l x).length ≤ n := by
  unfold withG
  split
  · exact Nat.le_trans (List.length_filter_le _ _) h
  · simp
end Go.Proofs.Ytpnophmanpfejaa
