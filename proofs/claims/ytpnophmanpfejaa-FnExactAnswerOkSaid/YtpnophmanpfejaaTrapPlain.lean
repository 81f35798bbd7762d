/- What a trap is, on lists. No program in sight. -/
import Derived.Test.YtpnophmanpfejaaBools
import Derived.Test.YtpnophmanpfejaaArenaPlain
namespace Go.Proofs.Ytpnophmanpfejaa
set_option linter.unusedSimpArgs false
set_option linter.unusedVariables false

/-- Is vertex v one by which the marked set is no trap? -/
def escB (a : ArenaD) (who : Int) (m : List Bool) (v : Nat) : Bool :=
  if ix a.owner v = who then !(rx a.next v).all (fun u => bx m u.toNat) else !(rx a.next v).any (fun u => bx m u.toNat)
def escL (a : ArenaD) (who : Int) (s : List Int) : List Int := s.filter fun v => escB a who (marksL a.owner.length s) v.toNat
def canB (a : ArenaD) (who : Int) (s t : List Int) : Bool := arenaOkB a && (playerB who && (isSetB s a.owner.length && isSetB t a.owner.length))
def l3OkB (a : ArenaD) (who : Int) (s : List Int) : Bool := arenaOkB a && (playerB who && isSetB s a.owner.length)
theorem canB_nil (a : ArenaD) (who : Int) (s : List Int) : canB a who s [] = l3OkB a who s := by
  unfold canB l3OkB
  have : isSetB [] (a.owner.length : Int) = true := isSetB_iff.2 fun k hk => by simp at hk
  rw [this, Bool.and_true]
def escG (a : ArenaD) (who : Int) (s : List Int) : List Int := if l3OkB a who s then escL a who s else []
def trapB (a : ArenaD) (who : Int) (s : List Int) : Bool := l3OkB a who s && decide ((escL a who s).length = 0)
structure L3Ok (a : ArenaD) (who : Int) (s : List Int) : Prop where
  arena : ArenaOk a
  who : playerB who = true
  set : IsSet s a.owner.length
theorem l3OkB_iff {a : ArenaD} {who : Int} {s : List Int} : l3OkB a who s = true ↔ L3Ok a who s := by
  unfold l3OkB
  simp only [Bool.and_eq_true, arenaOkB_iff, isSetB_iff]
  exact ⟨fun ⟨h1, h2, h3⟩ => ⟨h1, h2, h3⟩, fun ⟨h1, h2, h3⟩ => ⟨h1, h2, h3⟩⟩
theorem IsSet.length_le {s : List Int} {n : Nat} (h : IsSet s n) : s.length ≤ n := by
  rcases h.length with h | h
  · subst h; simp
  · omega
theorem any_take {l : List Int} {k : Nat} (hk : k < l.length) (f : Int → Bool) : (l.take (k + 1)).any f = ((l.take k).any f || f (ix l k)) := by
  rw [take_ix hk]; simp
theorem all_take {l : List Int} {k : Nat} (hk : k < l.length) (f : Int → Bool) : (l.take (k + 1)).all f = ((l.take k).all f && f (ix l k)) := by
  rw [take_ix hk]; simp
theorem any_whole (l : List Int) (f : Int → Bool) : (l.take l.length).any f = l.any f := by rw [List.take_length]
theorem all_whole (l : List Int) (f : Int → Bool) : (l.take l.length).all f = l.all f := by rw [List.take_length]
/-- The successors of a vertex are vertices. -/
theorem ArenaOk.vert_next {a : ArenaD} (h : ArenaOk a) {v : Nat} (hv : v < a.owner.length) : Vert (rx a.next v) a.owner.length := (h.set hv).vert
theorem escG_len {a : ArenaD} {who : Int} {s : List Int} {n : Nat} (h : s.length ≤ n) : (escG a who s).length ≤ n := by
  unfold escG
  split
  · exact Nat.le_trans (List.length_filter_le _ _) h
  · simp
end Go.Proofs.Ytpnophmanpfejaa
