/- When an arena is valid. No program in sight. -/
import Derived.Test.YtpnophmanpfejaaArena
import Derived.Test.YtpnophmanpfejaaSetPlain
namespace Go.Proofs.Ytpnophmanpfejaa
set_option linter.unusedSimpArgs false
set_option linter.unusedVariables false

def vertexOkB (a : ArenaD) (v : Nat) : Bool := decide (0 ≤ ix a.owner v ∧ ix a.owner v ≤ 1) && decide (1 ≤ (rx a.next v).length) && decide ((rx a.next v).length ≤ 16) && isSetB (rx a.next v) a.owner.length
def arenaOkB (a : ArenaD) : Bool := decide (1 ≤ a.owner.length ∧ a.owner.length ≤ 256) && decide (a.next.length = a.owner.length) && decide (∀ v, v < a.owner.length → vertexOkB a v = true)

structure ArenaOk (a : ArenaD) : Prop where
  pos : 1 ≤ a.owner.length
  le : a.owner.length ≤ 256
  len : a.next.length = a.owner.length
  vert : ∀ v, v < a.owner.length → vertexOkB a v = true
theorem arenaOkB_iff {a : ArenaD} : arenaOkB a = true ↔ ArenaOk a := by
  unfold arenaOkB
  simp only [Bool.and_eq_true, decide_eq_true_eq]
  exact ⟨fun ⟨⟨⟨h1, h2⟩, h3⟩, h4⟩ => ⟨h1, h2, h3, h4⟩, fun ⟨h1, h2, h3, h4⟩ => ⟨⟨⟨h1, h2⟩, h3⟩, h4⟩⟩
theorem arenaOkB_false {a : ArenaD} (h : ¬ ArenaOk a) : arenaOkB a = false := by rw [Bool.eq_false_iff]; exact fun h' => h (arenaOkB_iff.1 h')
theorem arenaOkB_bad {a : ArenaD} {v : Nat} (hv : v < a.owner.length) (h : vertexOkB a v = false) : arenaOkB a = false := arenaOkB_false fun h' => by rw [h'.vert v hv] at h; cases h
theorem ArenaOk.owner {a : ArenaD} (h : ArenaOk a) {v : Nat} (hv : v < a.owner.length) : 0 ≤ ix a.owner v ∧ ix a.owner v ≤ 1 := by
  have := h.vert v hv
  simp only [vertexOkB, Bool.and_eq_true, decide_eq_true_eq] at this
  exact this.1.1.1
theorem ArenaOk.deg {a : ArenaD} (h : ArenaOk a) {v : Nat} (hv : v < a.owner.length) : 1 ≤ (rx a.next v).length ∧ (rx a.next v).length ≤ 16 := by
  have := h.vert v hv
  simp only [vertexOkB, Bool.and_eq_true, decide_eq_true_eq] at this
  exact ⟨this.1.1.2, this.1.2⟩
theorem ArenaOk.set {a : ArenaD} (h : ArenaOk a) {v : Nat} (hv : v < a.owner.length) : IsSet (rx a.next v) a.owner.length := by
  have := h.vert v hv
  simp only [vertexOkB, Bool.and_eq_true] at this
  exact isSetB_iff.1 this.2

/-- v is a vertex. -/
def thereB (a : ArenaD) (v : Int) : Bool := decide (0 ≤ v ∧ v < a.owner.length)
def edgeB (a : ArenaD) (v u : Int) : Bool := arenaOkB a && (thereB a v && hasB (rx a.next v.toNat) u)
def sameB (a b : ArenaD) : Bool := arenaOkB a && (arenaOkB b && decide (a = b))

def planAtB (a : ArenaD) (who : Int) (v : Nat) (u : Int) : Bool := decide (u = -1) || (decide (ix a.owner v = who) && hasB (rx a.next v) u)
def planB (a : ArenaD) (who : Int) (plan : List Int) : Bool := decide (plan.length = a.owner.length) && decide (∀ v, v < plan.length → planAtB a who v (ix plan v) = true)
structure PlanOk (a : ArenaD) (who : Int) (plan : List Int) : Prop where
  len : plan.length = a.owner.length
  vert : ∀ v, v < plan.length → planAtB a who v (ix plan v) = true
theorem planB_iff {a : ArenaD} {who : Int} {plan : List Int} : planB a who plan = true ↔ PlanOk a who plan := by
  unfold planB
  simp only [Bool.and_eq_true, decide_eq_true_eq]
  exact ⟨fun ⟨h1, h2⟩ => ⟨h1, h2⟩, fun ⟨h1, h2⟩ => ⟨h1, h2⟩⟩
theorem planB_false {a : ArenaD} {who : Int} {plan : List Int} (h : ¬ PlanOk a who plan) : planB a who plan = false := by rw [Bool.eq_false_iff]; exact fun h' => h (planB_iff.1 h')
theorem planB_bad {a : ArenaD} {who : Int} {plan : List Int} {v : Nat} (hv : v < plan.length) (h : planAtB a who v (ix plan v) = false) : planB a who plan = false :=
  planB_false fun h' => by rw [h'.vert v hv] at h; cases h
def playerB (who : Int) : Bool := decide (0 ≤ who ∧ who ≤ 1)
def planOkB (a : ArenaD) (who : Int) (plan : List Int) : Bool := arenaOkB a && (playerB who && planB a who plan)
end Go.Proofs.Ytpnophmanpfejaa
