/- Texts of this claim that go together: TurnedWalks, FlipWalks, FlipSpec. Conditions: those that each theorem names. -/
import Derived.Test.YtogfpalgnjlfcaaPkB
import Derived.BigRegion
import Derived.Test.YtogfpalgnjlfcaaReachWalks
import Derived.Test.YtogfpalgnjlfcaaOnlyWalks
import Derived.Deep.RegionHeld3
import Derived.Deep.RegionLaw
import Derived.Test.YtogfpalgnjlfcaaClass
/- The walks of Turned, both ways. No condition. Printed by gen_turned.py. -/
namespace Go.Proofs.Ytogfpalgnjlfcaa
set_option linter.unusedSimpArgs false
set_option linter.unusedVariables false
open Go.RowKit

def turnL (l : List Int) : List Int := l.map fun x => 1 - x
@[simp] theorem length_turnL (l : List Int) : (turnL l).length = l.length := by simp [turnL]
theorem ix_turnL {l : List Int} {k : Nat} (h : k < l.length) : ix (turnL l) k = 1 - ix l k := by simp [ix, turnL, h]
def turnA (a : ArenaD) : ArenaD := if arenaOkB a then ⟨turnL a.owner, a.next⟩ else ⟨[], []⟩
theorem turnA_len (a : ArenaD) (h : bulkA a ≤ 1048576) : bulkA (turnA a) ≤ 1048576 := by
  unfold turnA
  split
  · simpa [bulkA] using h
  · simp [bulkA, sizeR]
theorem sizeR_le {ll : List (List Int)} {k : Nat} (hk : k < ll.length) : (rx ll k).length ≤ sizeR ll := len_le_sizeR hk

end Go.Proofs.Ytogfpalgnjlfcaa

/- The walks of Flipped, of the program and of the reference. -/
namespace Go.Proofs.Ytogfpalgnjlfcaa
set_option linter.unusedSimpArgs false
set_option linter.unusedVariables false
open Go.RowKit

theorem parity_boxR' {w : World} {v : Value} {g : ParityD} (hv : IsParity w v g) : ∃ o n p, v = .agg #[o, n, p] ∧ Below w.heap.size w ((w.alloc (.cells #[o, n, p] 32)).alloc (.cells #[.slice none 0 0, .slice none 0 0, .slice none 0 0] 32)) ∧
    Arr ((w.alloc (.cells #[o, n, p] 32)).alloc (.cells #[.slice none 0 0, .slice none 0 0, .slice none 0 0] 32)) w.heap.size 32 [o, n, p] ∧ Arr ((w.alloc (.cells #[o, n, p] 32)).alloc (.cells #[.slice none 0 0, .slice none 0 0, .slice none 0 0] 32)) (w.heap.size + 1) 32 [.slice none 0 0, .slice none 0 0, .slice none 0 0] := by
  obtain ⟨o, n, p, rfl, hbw, hB⟩ := parity_box hv
  refine ⟨o, n, p, rfl, hbw.alloc hbw.size _, hB.alloc _, ?_⟩
  simpa using Arr.new (w.alloc (.cells #[o, n, p] 32)) 32 [.slice none 0 0, .slice none 0 0, .slice none 0 0]
theorem RowsV.under' {w w' : World} {B C : Nat} {v : Value} {vs : List Value} {ll : List (List Int)} (h : RowsV w B C v vs ll) (hb : Below C w w') : RowsV w' B C v vs ll :=
  h.heap (fun b hbb => hb.block b (h.lt b hbb)) (fun k hk b hbb => hb.block b ((h.row k hk).2 b hbb))
theorem OA.under' {w w' : World} {B C : Nat} {v : Value} {a : ArenaD} (h : OA w B C v a) (hb : Below C w w') : OA w' B C v a := by
  obtain ⟨o, n, vs, rfl, h1, h2, h3⟩ := h
  exact ⟨o, n, vs, rfl, h1.heap fun b hbb => hb.block b (h1.2 b hbb), h2.under' hb, h3⟩
theorem OwnInts.heap' {w w' : World} {B : Nat} {v : Value} {l : List Int} (h : OwnInts w B v l) (hh : ∀ b, v.ownBlock = some b → w'.heap[b]? = w.heap[b]?) : OwnInts w' B v l := ((OI.of h).heap hh).1
def RetPar (w : World) (g : ParityD) (e : Ending) (w' : World) : Prop := ∃ u, e = .returned u ∧ OP w' w.heap.size w'.heap.size u g ∧ Below w.heap.size w w'
theorem RetPar.mk' {w w' : World} {g : ParityD} {u : Value} (h1 : OP w' w.heap.size w'.heap.size u g) (h2 : Below w.heap.size w w') : RetPar w g (.returned u) w' := ⟨u, rfl, h1, h2⟩

def moreL (l : List Int) : List Int := l.map (· + 1)
theorem moreL_take {l : List Int} {k : Nat} (hk : k < l.length) : moreL (l.take (k + 1)) = moreL (l.take k) ++ [ix l k + 1] := by unfold moreL; rw [take_ix hk, List.map_append]; rfl
@[simp] theorem length_moreL (l : List Int) : (moreL l).length = l.length := by simp [moreL]
def flipP (g : ParityD) : ParityD := ⟨turnA g.arena, moreL g.prio⟩

def flipOkB (g : ParityD) : Bool := parityOkB g && !hasB g.prio 40
def flipG (g : ParityD) : ParityD := if flipOkB g then flipP g else ⟨⟨[], []⟩, []⟩
end Go.Proofs.Ytogfpalgnjlfcaa

/- The walk of the reference's Flipped. -/
namespace Go.Proofs.Ytogfpalgnjlfcaa
set_option linter.unusedSimpArgs false
set_option linter.unusedVariables false
open Go.RowKit

theorem step_append_intK {ops : Array Oper} {o : Oper} {a : Act} {K : Act → World → Prop} {Q : Exit → Act → World → Prop} {F : Prop} (w0 : World) (hgd : o.guard = none) (s x : Operand)
    (ho : o.op = .call { callee := .builtin .append, args := #[s, x], argTypes := #[27, 27] })
    (B : Nat) (v : Value) (l : List Int) (hs : a.eval s = v) (hown : OwnInts w0 B v l) (y : Int)
    (hx : a.eval x = .slice (some ⟨w0.heap.size, 0, none⟩) 1 1) (hn : l.length ≤ 1048576) (hB : B ≤ w0.heap.size)
    (h : ∀ v' w', OwnInts w' B v' (l ++ [y]) → w0.grownBy w' v.ownBlock → (v'.ownBlock = v.ownBlock ∨ v'.ownBlock = some (w0.heap.size + 1)) → K (a.put o.dst v') w') :
    if Region.wanted o (yielded ops a.tmps) = true then Oper.wp Try.prog o a (w0.alloc (.cells #[.int .i64 y] 2)) K Q else F := by
  refine step_append_one elem_int64 w0 hgd s x ho B v l.length _ hs hown (.int .i64 y) rfl hx hn hB fun v' w' h1 h2 h3 => h v' w' ?_ h2 h3
  unfold OwnInts
  rw [List.map_append, List.length_append]
  exact h1
theorem l4All_any (v : Value) (g : ParityD) (w : World) (hv : IsParity w v g) : Calls Try.prog 102 #[v] w (RetInts w (allL g.prio.length)) := by
  obtain ⟨o, n, p, rfl, hbw, hB⟩ := parity_box hv
  obtain ⟨ha, hp⟩ := hv.parts
  obtain ⟨A, c, rfl, hlc, hcm⟩ := hp.form
  go_enter Try.func102, Try.ntmps102
  have hBz := hB.lt
  have hBc0 := hB.c0
  have hBc1 := hB.c1
  have hBc2 := hB.c2
  go_wp2_with fail
  refine (specAllOf_any (g.prio.length : Int) _).mono ?_
  rintro e w4 ⟨u4, rfl, ho4, hb4⟩
  go_wp2
  go_ret
  exact .at_ hbw ho4 hb4
theorem top40 {p : List Int} (hp : ∀ v, v < p.length → 0 ≤ ix p v ∧ ix p v ≤ 40) : (topL p (upFrom 0 p.length) == 40) = hasB p 40 := by
  have h : ∀ k, k ≤ p.length → (topTo p (upFrom 0 p.length) k = 40 ↔ ∃ j, j < k ∧ ix p j = 40) := by
    intro k
    induction k with
    | zero => intro _; simp [topTo_zero]
    | succ k ih =>
      intro hk
      have hb := topTo_bounds hp (l := upFrom 0 p.length) k
      have hx : ix (upFrom 0 p.length) k = (k : Int) := by rw [ix_upFrom (by omega)]; omega
      rw [topTo_succ (by simp; omega), hx, Int.toNat_natCast]
      have h2 := hp k (by omega)
      constructor
      · intro h
        by_cases e : ix p k = 40
        · exact ⟨k, by omega, e⟩
        · have : topTo p (upFrom 0 p.length) k = 40 := by omega
          obtain ⟨j, hj, e2⟩ := (ih (by omega)).1 this
          exact ⟨j, by omega, e2⟩
      · rintro ⟨j, hj, e⟩
        by_cases ej : j = k
        · subst ej; omega
        · have := (ih (by omega)).2 ⟨j, by omega, e⟩
          omega
  have h1 := h p.length (Nat.le_refl _)
  have h2 : topTo p (upFrom 0 p.length) p.length = topL p (upFrom 0 p.length) := by
    have := topTo_all p (upFrom 0 p.length)
    rwa [length_upFrom] at this
  rw [h2] at h1
  rw [Bool.eq_iff_iff, beq_iff_eq, h1, hasB_iff, mem_ix]
theorem below_drwF {B : Nat} {a w : World} (h : Below B a w) : Below B a w.drew := ⟨h.os, h.tape, h.output, h.size, h.block⟩

theorem flipG_bulk (g : ParityD) (h : bulkP g ≤ 1048576) : bulkP (flipG g) ≤ 1048576 := by
  unfold flipG
  split
  · have h1 : bulkA g.arena ≤ 1048576 := by unfold bulkP at h; omega
    unfold bulkP flipP at *
    simp only [length_moreL]
    unfold turnA
    split
    · simpa [bulkA] using h
    · simp [bulkA, sizeR]; omega
  · simp [bulkP, bulkA, sizeR]
end Go.Proofs.Ytogfpalgnjlfcaa
