/- The walks of OnlyBy, both ways, and of what they call. No condition but the lists' lengths. -/
import Derived.Test.YtpnophmanpfejaaFixedWalks
import Derived.Test.YtpnophmanpfejaaPkB
namespace Go.Proofs.Ytpnophmanpfejaa
set_option linter.unusedSimpArgs false
set_option linter.unusedVariables false
open Go.RowKit

def pickAt (a : ArenaD) (picks : List Int) (v : Nat) : Bool := decide (ix picks v = -1) || hasB (rx a.next v) (ix picks v)
def pickAll (a : ArenaD) (picks : List Int) : Bool := decide (∀ v, v < picks.length → pickAt a picks v = true)
def picksB (g : ParityD) (picks : List Int) : Bool := decide (picks.length = g.prio.length) && pickAll g.arena picks
theorem pickAll_bad {a : ArenaD} {picks : List Int} {v : Nat} (hv : v < picks.length) (h : pickAt a picks v = false) : pickAll a picks = false := by
  unfold pickAll; rw [decide_eq_false_iff_not]; intro h'; rw [h' v hv] at h; cases h
def onlyOkB (g : ParityD) (picks : List Int) : Bool := parityOkB g && picksB g picks
def onlyP (g : ParityD) (picks : List Int) : ParityD := ⟨fixA g.arena picks, g.prio⟩
def onlyG (g : ParityD) (picks : List Int) : ParityD := if onlyOkB g picks then onlyP g picks else ⟨⟨[], []⟩, []⟩
theorem onlyG_bulk (g : ParityD) (picks : List Int) : bulkP (onlyG g picks) ≤ 16384 := by
  unfold onlyG
  split
  · rename_i h
    unfold onlyOkB at h
    rw [Bool.and_eq_true] at h
    have hok := parityOkB_iff.1 h.1
    have h1 := fixA_bulk (plan := picks) hok.arena
    have h2 := hok.len
    have h3 := hok.arena.le
    unfold bulkP onlyP
    simp only
    omega
  · simp [bulkP, bulkA, sizeR]

/-- An arena and a row elsewhere make a game. -/
theorem OP.join' {w : World} {B C B1 C1 : Nat} {o n p : Value} {g : ParityD} (h1 : OA w B1 C1 (.agg #[o, n]) g.arena) (h2 : OI w B C p g.prio) (hd : ∀ b, p.ownBlock = some b → b < B1 ∨ C1 ≤ b) (hB : B ≤ B1) (hC : C1 ≤ C) : OP w B C (.agg #[o, n, p]) g := by
  obtain ⟨o', n', vs, he, h3, h4, h5⟩ := h1
  simp only [Value.agg.injEq, Array.mk.injEq, List.cons.injEq, and_true] at he
  obtain ⟨rfl, rfl⟩ := he
  refine ⟨o, n, p, vs, rfl, h3.mono hB hC, h4.mono hB hC, h2, h5, fun b hb e => ?_, fun b hb k hk e => ?_⟩
  · have h6 := hd b hb; have h7 := (h3.1.lt b e).1; have h8 := h3.2 b e; omega
  · have h6 := hd b hb; have h7 := ((h4.row k hk).1.lt b e).1; have h8 := (h4.row k hk).2 b e; omega
theorem OP.heapFrom {w w' : World} {B C : Nat} {v : Value} {g : ParityD} (h : OP w B C v g) (hh : ∀ b, B ≤ b → w'.heap[b]? = w.heap[b]?) : OP w' B C v g := by
  obtain ⟨o, n, p, vs, rfl, h1, h2, h3, h4, h5, h6⟩ := h
  exact ⟨o, n, p, vs, rfl, h1.heap' fun b hb => hh b (h1.1.lt b hb).1, h2.heap (fun b hb => hh b (h2.own.lt b hb).1) (fun k hk b hb => hh b ((h2.row k hk).1.lt b hb).1), h3.heap' fun b hb => hh b (h3.1.lt b hb).1, h4, h5, h6⟩
def RetParity (w : World) (g : ParityD) (e : Ending) (w' : World) : Prop := ∃ u, e = .returned u ∧ OP w' w.heap.size w'.heap.size u g ∧ Below w.heap.size w w'
theorem RetParity.mk' {w w' : World} {g : ParityD} {u : Value} (h1 : OP w' w.heap.size w'.heap.size u g) (h2 : Below w.heap.size w w') : RetParity w g (.returned u) w' := ⟨u, rfl, h1, h2⟩
def RetParityB (w : World) (g : ParityD) (b : Bool) (e : Ending) (w' : World) : Prop := ∃ u, e = .returned (.tuple #[u, .bool b]) ∧ OP w' w.heap.size w'.heap.size u g ∧ Below w.heap.size w w'
theorem RetParityB.mk' {w w' : World} {g : ParityD} {b : Bool} {u : Value} (h1 : OP w' w.heap.size w'.heap.size u g) (h2 : Below w.heap.size w w') : RetParityB w g b (.returned (.tuple #[u, .bool b])) w' := ⟨u, rfl, h1, h2⟩
theorem OP.none' (w : World) (B C : Nat) : OP w B C (.agg #[.slice none 0 0, .slice none 0 0, .slice none 0 0]) ⟨⟨[], []⟩, []⟩ :=
  ⟨_, _, _, [], rfl, ⟨OwnInts.nil _ _, fun b hb => by simp [Value.ownBlock] at hb⟩, nil_rows _ _ _, ⟨OwnInts.nil _ _, fun b hb => by simp [Value.ownBlock] at hb⟩, fun b hb => by simp [Value.ownBlock] at hb, fun b hb => by simp [Value.ownBlock] at hb, fun b hb => by simp [Value.ownBlock] at hb⟩

end Go.Proofs.Ytpnophmanpfejaa
