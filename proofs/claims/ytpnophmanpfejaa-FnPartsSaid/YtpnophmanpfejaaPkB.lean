/- Texts of this claim that go together: ArenaPlain, SetWalks, ArenaWalks, ArenaWalks2, SetWalks2, EqWalks, Same, CopyWalks, LawBox, Parity, ParityPlain, Frame2, ParityWalks, ParityWalks2, MarkWalks, TrapPlain, TrapWalks. Conditions: those that each theorem names. -/
import Derived.Test.YtpnophmanpfejaaPkA
import Derived.Deep.DeepMust
import Derived.Deep.RegionHeld3
import Derived.Outline
import Derived.Deep.RegionLaw
import Derived.Deep.Slices
import Derived.Lib.SmallJoins
/- When an arena is valid. No program in sight. -/
namespace Go.Proofs.Ytpnophmanpfejaa
set_option linter.unusedSimpArgs false
set_option linter.unusedVariables false

def vertexOkB (a : ArenaD) (v : Nat) : Bool := decide (0 ≤ ix a.owner v ∧ ix a.owner v ≤ 1) && decide (1 ≤ (rx a.next v).length) && decide ((rx a.next v).length ≤ 16) && isSetB (rx a.next v) a.owner.length
def arenaOkB (a : ArenaD) : Bool := decide (1 ≤ a.owner.length ∧ a.owner.length ≤ 256) && decide (a.next.length = a.owner.length) && decide (∀ v, v < a.owner.length → vertexOkB a v = true)

structure ArenaOk (a : ArenaD) : Prop where
  pos : 1 ≤ a.owner.length
  le : a.owner.length ≤ 256
  len : a.next.length = a.owner.length
  vert : ∀ v, v < a.owner.length → vertexOkB a v = true
theorem arenaOkB_iff {a : ArenaD} : arenaOkB a = true ↔ ArenaOk a := by
  unfold arenaOkB
  simp only [Bool.and_eq_true, decide_eq_true_eq]
  exact ⟨fun ⟨⟨⟨h1, h2⟩, h3⟩, h4⟩ => ⟨h1, h2, h3, h4⟩, fun ⟨h1, h2, h3, h4⟩ => ⟨⟨⟨h1, h2⟩, h3⟩, h4⟩⟩
theorem arenaOkB_false {a : ArenaD} (h : ¬ ArenaOk a) : arenaOkB a = false := by rw [Bool.eq_false_iff]; exact fun h' => h (arenaOkB_iff.1 h')
theorem arenaOkB_bad {a : ArenaD} {v : Nat} (hv : v < a.owner.length) (h : vertexOkB a v = false) : arenaOkB a = false := arenaOkB_false fun h' => by rw [h'.vert v hv] at h; cases h
theorem ArenaOk.owner {a : ArenaD} (h : ArenaOk a) {v : Nat} (hv : v < a.owner.length) : 0 ≤ ix a.owner v ∧ ix a.owner v ≤ 1 := by
  have := h.vert v hv
  simp only [vertexOkB, Bool.and_eq_true, decide_eq_true_eq] at this
  exact this.1.1.1
theorem ArenaOk.deg {a : ArenaD} (h : ArenaOk a) {v : Nat} (hv : v < a.owner.length) : 1 ≤ (rx a.next v).length ∧ (rx a.next v).length ≤ 16 := by
  have := h.vert v hv
  simp only [vertexOkB, Bool.and_eq_true, decide_eq_true_eq] at this
  exact ⟨this.1.1.2, this.1.2⟩
theorem ArenaOk.set {a : ArenaD} (h : ArenaOk a) {v : Nat} (hv : v < a.owner.length) : IsSet (rx a.next v) a.owner.length := by
  have := h.vert v hv
  simp only [vertexOkB, Bool.and_eq_true] at this
  exact isSetB_iff.1 this.2

/-- v is a vertex. -/
def thereB (a : ArenaD) (v : Int) : Bool := decide (0 ≤ v ∧ v < a.owner.length)
def edgeB (a : ArenaD) (v u : Int) : Bool := arenaOkB a && (thereB a v && hasB (rx a.next v.toNat) u)
def sameB (a b : ArenaD) : Bool := arenaOkB a && (arenaOkB b && decide (a = b))

def planAtB (a : ArenaD) (who : Int) (v : Nat) (u : Int) : Bool := decide (u = -1) || (decide (ix a.owner v = who) && hasB (rx a.next v) u)
def planB (a : ArenaD) (who : Int) (plan : List Int) : Bool := decide (plan.length = a.owner.length) && decide (∀ v, v < plan.length → planAtB a who v (ix plan v) = true)
structure PlanOk (a : ArenaD) (who : Int) (plan : List Int) : Prop where
  len : plan.length = a.owner.length
  vert : ∀ v, v < plan.length → planAtB a who v (ix plan v) = true
theorem planB_iff {a : ArenaD} {who : Int} {plan : List Int} : planB a who plan = true ↔ PlanOk a who plan := by
  unfold planB
  simp only [Bool.and_eq_true, decide_eq_true_eq]
  exact ⟨fun ⟨h1, h2⟩ => ⟨h1, h2⟩, fun ⟨h1, h2⟩ => ⟨h1, h2⟩⟩
theorem planB_false {a : ArenaD} {who : Int} {plan : List Int} (h : ¬ PlanOk a who plan) : planB a who plan = false := by rw [Bool.eq_false_iff]; exact fun h' => h (planB_iff.1 h')
theorem planB_bad {a : ArenaD} {who : Int} {plan : List Int} {v : Nat} (hv : v < plan.length) (h : planAtB a who v (ix plan v) = false) : planB a who plan = false :=
  planB_false fun h' => by rw [h'.vert v hv] at h; cases h
def playerB (who : Int) : Bool := decide (0 ≤ who ∧ who ≤ 1)
def planOkB (a : ArenaD) (who : Int) (plan : List Int) : Bool := arenaOkB a && (playerB who && planB a who plan)
end Go.Proofs.Ytpnophmanpfejaa

/- What a trap is, on lists. No program in sight. -/
namespace Go.Proofs.Ytpnophmanpfejaa
set_option linter.unusedSimpArgs false
set_option linter.unusedVariables false

/-- Is vertex v one by which the marked set is no trap? -/
def escB (a : ArenaD) (who : Int) (m : List Bool) (v : Nat) : Bool :=
  if ix a.owner v = who then !(rx a.next v).all (fun u => bx m u.toNat) else !(rx a.next v).any (fun u => bx m u.toNat)
def escL (a : ArenaD) (who : Int) (s : List Int) : List Int := s.filter fun v => escB a who (marksL a.owner.length s) v.toNat
def canB (a : ArenaD) (who : Int) (s t : List Int) : Bool := arenaOkB a && (playerB who && (isSetB s a.owner.length && isSetB t a.owner.length))
def l3OkB (a : ArenaD) (who : Int) (s : List Int) : Bool := arenaOkB a && (playerB who && isSetB s a.owner.length)
theorem canB_nil (a : ArenaD) (who : Int) (s : List Int) : canB a who s [] = l3OkB a who s := by
  unfold canB l3OkB
  have : isSetB [] (a.owner.length : Int) = true := isSetB_iff.2 fun k hk => by simp at hk
  rw [this, Bool.and_true]
def escG (a : ArenaD) (who : Int) (s : List Int) : List Int := if l3OkB a who s then escL a who s else []
def trapB (a : ArenaD) (who : Int) (s : List Int) : Bool := l3OkB a who s && decide ((escL a who s).length = 0)
structure L3Ok (a : ArenaD) (who : Int) (s : List Int) : Prop where
  arena : ArenaOk a
  who : playerB who = true
  set : IsSet s a.owner.length
theorem l3OkB_iff {a : ArenaD} {who : Int} {s : List Int} : l3OkB a who s = true ↔ L3Ok a who s := by
  unfold l3OkB
  simp only [Bool.and_eq_true, arenaOkB_iff, isSetB_iff]
  exact ⟨fun ⟨h1, h2, h3⟩ => ⟨h1, h2, h3⟩, fun ⟨h1, h2, h3⟩ => ⟨h1, h2, h3⟩⟩
theorem IsSet.length_le {s : List Int} {n : Nat} (h : IsSet s n) : s.length ≤ n := by
  rcases h.length with h | h
  · subst h; simp
  · omega
theorem any_take {l : List Int} {k : Nat} (hk : k < l.length) (f : Int → Bool) : (l.take (k + 1)).any f = ((l.take k).any f || f (ix l k)) := by
  rw [take_ix hk]; simp
theorem all_take {l : List Int} {k : Nat} (hk : k < l.length) (f : Int → Bool) : (l.take (k + 1)).all f = ((l.take k).all f && f (ix l k)) := by
  rw [take_ix hk]; simp
theorem any_whole (l : List Int) (f : Int → Bool) : (l.take l.length).any f = l.any f := by rw [List.take_length]
theorem all_whole (l : List Int) (f : Int → Bool) : (l.take l.length).all f = l.all f := by rw [List.take_length]
/-- The successors of a vertex are vertices. -/
theorem ArenaOk.vert_next {a : ArenaD} (h : ArenaOk a) {v : Nat} (hv : v < a.owner.length) : Vert (rx a.next v) a.owner.length := (h.set hv).vert
theorem escG_len {a : ArenaD} {who : Int} {s : List Int} {n : Nat} (h : s.length ≤ n) : (escG a who s).length ≤ n := by
  unfold escG
  split
  · exact Nat.le_trans (List.length_filter_le _ _) h
  · simp
end Go.Proofs.Ytpnophmanpfejaa

/- The walks of the functions on sets of numbers. -/
namespace Go.Proofs.Ytpnophmanpfejaa
set_option linter.unusedSimpArgs false
set_option linter.unusedVariables false
open Go.RowKit

theorem l1In_any (a b c : Int) (w : World) : Calls Try.prog 110 #[.int .i64 a, .int .i64 b, .int .i64 c] w fun e w' => e = .returned (.bool (decide (b ≤ a ∧ a ≤ c))) ∧ w' = w := by
  by_cases h1 : b ≤ a
  · go_enter Try.func110, Try.ntmps110
    go_wp2
    go_ret
    exact ⟨by simp [h1], rfl⟩
  · have hd : decide (b ≤ a ∧ a ≤ c) = false := by simp [h1]
    rw [hd]
    clear hd
    go_enter Try.func110, Try.ntmps110
    go_wp2
    go_ret
    exact ⟨rfl, rfl⟩

set_option maxHeartbeats 400000 in
theorem isSet_any (v : Value) (l : List Int) (n : Int) (w : World) (hv : Ints w v l) :
    Calls Try.prog 75 #[v, .int .i64 n] w fun e w' => e = .returned (.bool (isSetB l n)) ∧ w' = w := by
  obtain ⟨A, c, rfl, hlc, hcm, hA⟩ := hv
  go_enter Try.func75, Try.ntmps75
  go_wp2
  go_loop [9] (fun i => ∃ k : Nat, k ≤ l.length ∧ i = .int .i64 k ∧ ∀ j, j < k → 0 ≤ ix l j ∧ ix l j < n ∧ (0 < j → ix l (j - 1) < ix l j)) (fun i => l.length - (intOf i).toNat)
  case atStart => exact ⟨0, Nat.zero_le _, rfl, fun j hj => by omega⟩
  case round =>
    obtain ⟨k, hk, rfl, hm⟩ := hrel
    by_cases hlt : k < l.length
    · obtain ⟨a1, rfl, h1⟩ := hA k hlt
      have hf : ¬ (0 ≤ ix l k ∧ ix l k < n ∧ (0 < k → ix l (k - 1) < ix l k)) → isSetB l n = false := isSetB_false hlt
      by_cases g1 : 0 ≤ ix l k
      · by_cases g2 : ix l k < n
        · by_cases hk0 : 0 < k
          · obtain ⟨_, e, h0⟩ := hA (k - 1) (by omega)
            injection e with e
            subst e
            by_cases g3 : ix l (k - 1) < ix l k
            · go_wp2
              exact ⟨⟨k + 1, by omega, by go_num, fun j hj => by
                by_cases hjk : j = k
                · subst hjk; exact ⟨g1, g2, fun _ => g3⟩
                · exact hm j (by omega)⟩, by simp [intOf]; omega⟩
            · have hf := hf (fun h => g3 (h.2.2 hk0))
              go_wp2
              go_ret
              exact ⟨by simp [hf], rfl⟩
          · go_wp2
            exact ⟨⟨k + 1, by omega, by go_num, fun j hj => by
              obtain rfl : j = k := by omega
              exact ⟨g1, g2, fun h => by omega⟩⟩, by simp [intOf]; omega⟩
        · have hf := hf (fun h => g2 h.2.1)
          go_wp2
          go_ret
          exact ⟨by simp [hf], rfl⟩
      · have hf := hf (fun h => g1 h.1)
        go_wp2
        go_ret
        exact ⟨by simp [hf], rfl⟩
    · have ht : isSetB l n = true := isSetB_true fun j hj => hm j (by omega)
      go_wp2
      go_ret
      exact ⟨by simp [ht], rfl⟩
set_option maxHeartbeats 1000000 in
theorem l1Rises_any (v : Value) (l : List Int) (n : Int) (w : World) (hv : Ints w v l) (hn0 : 0 ≤ n) (hn1 : n ≤ 9223372036854775807) :
    Calls Try.prog 146 #[v, .int .i64 n] w fun e w' => e = .returned (.bool (isSetB l n)) ∧ ∃ q, w' = w.drewN q := by
  obtain ⟨A, c, rfl, hlc, hcm, hA⟩ := hv
  go_enter Try.func146, Try.ntmps146
  go_wp2
  go_loopw [5] (fun i wr => ∃ k q : Nat, k ≤ l.length ∧ i = .int .i64 k ∧ wr = w.drewN q ∧ ∀ j, j < k → 0 ≤ ix l j ∧ ix l j < n ∧ (0 < j → ix l (j - 1) < ix l j)) (fun i _ => l.length - (intOf i).toNat)
  case atStart => exact ⟨0, 0, Nat.zero_le _, rfl, rfl, fun j hj => by omega⟩
  case round =>
    obtain ⟨k, q, hk, rfl, rfl, hm⟩ := hrel
    have hsub : IntKind.i64.wrap (n - 1) = n - 1 := IntWalk.i64_in _ (by omega)
    by_cases hlt : k < l.length
    · obtain ⟨a1, rfl, h1⟩ := hA k hlt
      have hf : ¬ (0 ≤ ix l k ∧ ix l k < n ∧ (0 < k → ix l (k - 1) < ix l k)) → isSetB l n = false := isSetB_false hlt
      by_cases g1 : 0 ≤ ix l k ∧ ix l k ≤ n - 1
      · obtain ⟨g1, g2⟩ := g1
        by_cases hk0 : 0 < k
        · have hd : decide ((0 : Int) < (k : Int)) = true := by simp; omega
          obtain ⟨_, e, h0⟩ := hA (k - 1) (by omega)
          injection e with e
          subst e
          go_wp2
          go_quiet ((go_at_call 110; first | exact Calls.quiet_of_same (l1In_any _ _ _ _) | exact Calls.quiet_of (l1In_any _ _ _ _) | exact quiet_add (quiet_same (l1In_any _ _ _ _)) | exact quiet_add (l1In_any _ _ _ _)))
          go_wp2
          · have hd : ix l k ≤ ix l (k - 1) := by assumption
            have hf := hf (fun h => by have := h.2.2 hk0; omega)
            go_ret
            exact ⟨by simp [hf], q + nq, by simp⟩
          · have hd : ix l (k - 1) < ix l k := by assumption
            exact ⟨⟨k + 1, q + nq, by omega, by go_num, by simp, fun j hj => by
              by_cases hjk : j = k
              · subst hjk; exact ⟨g1, by omega, fun _ => hd⟩
              · exact hm j (by omega)⟩, by simp [intOf]; omega⟩
        · have hd : decide ((0 : Int) < (k : Int)) = false := by simp; omega
          go_wp2
          go_quiet ((go_at_call 110; first | exact Calls.quiet_of_same (l1In_any _ _ _ _) | exact Calls.quiet_of (l1In_any _ _ _ _) | exact quiet_add (quiet_same (l1In_any _ _ _ _)) | exact quiet_add (l1In_any _ _ _ _)))
          go_wp2
          exact ⟨⟨k + 1, q + nq, by omega, by go_num, by simp, fun j hj => by
              obtain rfl : j = k := by omega
              exact ⟨g1, by omega, fun h => by omega⟩⟩, by simp [intOf]; omega⟩
      · have hd : decide (0 ≤ ix l k ∧ ix l k ≤ n - 1) = false := by simpa using g1
        have hf := hf (fun h => g1 ⟨h.1, by omega⟩)
        go_wp2
        go_quiet ((go_at_call 110; first | exact Calls.quiet_of_same (l1In_any _ _ _ _) | exact Calls.quiet_of (l1In_any _ _ _ _) | exact quiet_add (quiet_same (l1In_any _ _ _ _)) | exact quiet_add (l1In_any _ _ _ _)))
        go_wp2
        go_ret
        exact ⟨by simp [hf], q + nq, by simp⟩
    · have ht : isSetB l n = true := isSetB_true fun j hj => hm j (by omega)
      go_wp2
      go_ret
      exact ⟨by simp [ht], q, rfl⟩
theorem l1Set_any (v : Value) (l : List Int) (n : Int) (w : World) (hv : Ints w v l) (hn0 : 0 ≤ n) (hn1 : n ≤ 9223372036854775807) :
    Calls Try.prog 101 #[v, .int .i64 n] w fun e w' => e = .returned (.bool (isSetB l n)) ∧ ∃ q, w' = w.drewN q := by
  have hv' := hv
  obtain ⟨A, c, rfl, hlc, hcm, hA⟩ := hv
  clear hA
  by_cases h : (l.length : Int) ≤ n
  · go_enter Try.func101, Try.ntmps101
    go_wp2_with fail
    refine (l1Rises_any _ l n _ hv' hn0 hn1).mono ?_
    rintro e w' ⟨rfl, q, rfl⟩
    go_wp2
    go_ret
    exact ⟨rfl, q, rfl⟩
  · have hf : isSetB l n = false := by
      rw [Bool.eq_false_iff]
      intro h'
      rcases (isSetB_iff.1 h').length with h1 | h1
      · subst h1; simp at h; omega
      · exact h h1
    go_enter Try.func101, Try.ntmps101
    go_wp2
    go_ret
    exact ⟨by simp [hf], 0, rfl⟩

set_option maxHeartbeats 400000 in
theorem l1Has_any (v : Value) (l : List Int) (x : Int) (w : World) (hv : Ints w v l) :
    Calls Try.prog 111 #[v, .int .i64 x] w fun e w' => e = .returned (.bool (hasB l x)) ∧ w' = w := by
  obtain ⟨A, c, rfl, hlc, hcm, hA⟩ := hv
  go_enter Try.func111, Try.ntmps111
  go_wp2
  go_loop [5] (fun i => ∃ k : Nat, k ≤ l.length ∧ i = .int .i64 k ∧ ∀ j, j < k → ix l j ≠ x) (fun i => l.length - (intOf i).toNat)
  case atStart => exact ⟨0, Nat.zero_le _, rfl, fun j hj => by omega⟩
  case round =>
    obtain ⟨k, hk, rfl, hm⟩ := hrel
    by_cases hlt : k < l.length
    · obtain ⟨a1, rfl, h1⟩ := hA k hlt
      by_cases g : ix l k = x
      · have hd : (ix l k == x) = true := by simpa using g
        have ht : hasB l x = true := g ▸ hasB_ix hlt
        clear g
        go_wp2
        go_ret
        exact ⟨by simp [ht], rfl⟩
      · have hd : (ix l k == x) = false := by simpa using g
        go_wp2
        exact ⟨⟨k + 1, by omega, by go_num, fun j hj => by
          by_cases hjk : j = k
          · subst hjk; exact g
          · exact hm j (by omega)⟩, by simp [intOf]; omega⟩
    · have hf : hasB l x = false := hasB_none fun j hj => hm j (by omega)
      go_wp2
      go_ret
      exact ⟨by simp [hf], rfl⟩

set_option maxHeartbeats 400000 in
theorem Index_any (v : Value) (l : List Int) (x : Int) (w : World) (hv : Ints w v l) :
    Calls Try.prog 134 #[v, .int .i64 x] w fun e w' => e = .returned (.int .i64 (idxL l x)) ∧ w' = w := by
  obtain ⟨A, c, rfl, hlc, hcm, hA⟩ := hv
  go_enter Try.func134, Try.ntmps134
  go_wp2
  go_loop [8] (fun i => ∃ k : Nat, k ≤ l.length ∧ i = .int .i64 k ∧ ∀ j, j < k → ix l j ≠ x) (fun i => l.length - (intOf i).toNat)
  case atStart => exact ⟨0, Nat.zero_le _, rfl, fun j hj => by omega⟩
  case round =>
    obtain ⟨k, hk, rfl, hm⟩ := hrel
    by_cases hlt : k < l.length
    · obtain ⟨a1, rfl, h1⟩ := hA k hlt
      by_cases g : ix l k = x
      · have hd : (x == ix l k) = true := by simpa using g.symm
        have ht : idxL l x = k := idxL_at hlt g hm
        clear g
        have Ht := Lib.hid ht
        clear ht
        go_wp2
        go_ret
        exact ⟨by rw [Ht.out]; rfl, rfl⟩
      · have hd : (x == ix l k) = false := by simpa using (fun h : x = ix l k => g h.symm)
        go_wp2
        exact ⟨⟨k + 1, by omega, by go_num, fun j hj => by
          by_cases hjk : j = k
          · subst hjk; exact g
          · exact hm j (by omega)⟩, by simp [intOf]; omega⟩
    · have hf : idxL l x = -1 := idxL_none fun j hj => hm j (by omega)
      have Ht := Lib.hid hf
      clear hf
      go_wp2
      go_ret
      exact ⟨by rw [Ht.out]; rfl, rfl⟩

theorem Contains_any (v : Value) (l : List Int) (x : Int) (w : World) (hv : Ints w v l) :
    Calls Try.prog 81 #[v, .int .i64 x] w fun e w' => e = .returned (.bool (hasB l x)) ∧ w' = w := by
  go_enter Try.func81, Try.ntmps81
  go_wp2_with fail
  refine (Index_any v l x _ hv).mono ?_
  rintro e w' ⟨rfl, rfl⟩
  go_wp2
  go_ret
  exact ⟨by rw [← idxL_geq]; rfl, rfl⟩

set_option maxHeartbeats 400000 in
theorem BinarySearch_any (v : Value) (l : List Int) (x : Int) (w : World) (hv : Ints w v l) (hr : Rising l) (hlen : l.length ≤ 1099511627776) :
    Calls Try.prog 149 #[v, .int .i64 x] w fun e w' => ∃ i : Int, e = .returned (.tuple #[.int .i64 i, .bool (hasB l x)]) ∧ w' = w := by
  obtain ⟨A, c, rfl, hlc, hcm, hA⟩ := hv
  go_enter Try.func149, Try.ntmps149
  go_wp2
  go_loop [7, 8] (fun i j => ∃ a b : Nat, a ≤ b ∧ b ≤ l.length ∧ i = .int .i64 a ∧ j = .int .i64 b ∧ (∀ k, k < a → ix l k < x) ∧ ∀ k, b ≤ k → k < l.length → x ≤ ix l k) (fun i j => (intOf j).toNat - (intOf i).toNat)
  case atStart => exact ⟨0, l.length, Nat.zero_le _, Nat.le_refl _, rfl, rfl, fun j hj => by omega, fun k h1 h2 => by omega⟩
  case round =>
    obtain ⟨a, b, hab, hb, rfl, rfl, h1, h2⟩ := hrel
    by_cases hlt : a < b
    · obtain ⟨a1, rfl, hc⟩ := hA ((a + b) / 2) (by omega)
      have hmid : (((a : Int) + (b : Int)) / 2).toNat = (a + b) / 2 := by omega
      have hm0 : (0 : Int) ≤ ((a : Int) + (b : Int)) / 2 := by omega
      have hm1 : ((a : Int) + (b : Int)) / 2 < (l.length : Int) := by omega
      by_cases g : ix l ((a + b) / 2) < x
      · go_wp2
        refine ⟨⟨(a + b) / 2 + 1, b, by omega, hb, by go_num, rfl, fun k hk => ?_, h2⟩, by simp [intOf]; omega⟩
        by_cases e : k = (a + b) / 2
        · rw [e]; exact g
        · have := hr k ((a + b) / 2) (by omega) (by omega); omega
      · go_wp2
        refine ⟨⟨a, (a + b) / 2, by omega, by omega, rfl, by go_num, h1, fun k hk hk2 => ?_⟩, by simp [intOf]; omega⟩
        by_cases e : k = (a + b) / 2
        · rw [e]; omega
        · have := hr ((a + b) / 2) k (by omega) (by omega); omega
    · obtain rfl : a = b := by omega
      by_cases hal : a < l.length
      · obtain ⟨a1, rfl, hc⟩ := hA a hal
        by_cases g : ix l a = x
        · have hd : (ix l a == x) = true := by simpa using g
          have ht : hasB l x = true := g ▸ hasB_ix hal
          clear g
          go_wp2
          go_ret2
          exact ⟨⟨a, by simp [ht]⟩, rfl⟩
        · have hd : (ix l a == x) = false := by simpa using g
          have hf : hasB l x = false := hasB_none fun k hk he => by
            by_cases hka : k < a
            · have := h1 k hka; omega
            · by_cases e : k = a
              · subst e; exact g he
              · have h3 := h2 a (Nat.le_refl _) hal
                have := hr a k (by omega) hk; omega
          go_wp2
          go_ret2
          exact ⟨⟨a, by simp [hf]⟩, rfl⟩
      · have hf : hasB l x = false := hasB_none fun k hk he => by
          have := h1 k (by omega); omega
        go_wp2
        go_ret2
        exact ⟨⟨a, by simp [hf]⟩, rfl⟩

theorem specSetOk_any (v : Value) (l : List Int) (n : Int) (w : World) (hv : Ints w v l) :
    Calls Try.prog 55 #[v, .int .i64 n] w fun e w' => e = .returned (.bool (setOkB l n)) ∧ ∃ q, w' = w.drewN q := by
  by_cases h : 0 ≤ n ∧ n ≤ 256
  · go_enter Try.func55, Try.ntmps55
    go_wp2_with (first | (go_at_call 110; refine (l1In_any _ _ _ _).mono ?_; rintro e w' ⟨rfl, rfl⟩) | (go_at_call 101; refine (l1Set_any v l n _ hv h.1 (by omega)).mono ?_; rintro e w' ⟨rfl, q, rfl⟩))
    go_ret
    exact ⟨by simp [setOkB, h], q, rfl⟩
  · have hd : decide (0 ≤ n ∧ n ≤ 256) = false := by simpa using h
    go_enter Try.func55, Try.ntmps55
    go_wp2_with (first | (go_at_call 110; refine (l1In_any _ _ _ _).mono ?_; rintro e w' ⟨rfl, rfl⟩))
    go_ret
    exact ⟨by simp [setOkB, hd], 0, rfl⟩

end Go.Proofs.Ytpnophmanpfejaa

/- The walks of ArenaOk and its kin. Printed by gen_arena.py. -/
namespace Go.Proofs.Ytpnophmanpfejaa
set_option linter.unusedSimpArgs false
set_option linter.unusedVariables false
open Go.RowKit

theorem box_arena (w : World) (o n : Value) : Below w.heap.size w (w.alloc (.cells #[o, n] 30)) := (Below.refl _ _).alloc (Nat.le_refl _) _

set_option maxHeartbeats 1000000 in
theorem specArenaOk_any (v : Value) (a : ArenaD) (w : World) (hv : IsArena w v a) :
    Calls Try.prog 100 #[v] w fun e w' => e = .returned (.bool (arenaOkB a)) ∧ Below w.heap.size w w' := by
  obtain ⟨o, n, rfl, ho, hn⟩ := hv
  have hb := box_arena w o n
  replace ho := ho.kept (Kept.of hb)
  replace hn := hn.kept (Kept.of hb)
  obtain ⟨A, c, rfl, hlc, hcm⟩ := ho.form
  obtain ⟨A', c', rfl, hlc', hcm'⟩ := hn.form
  by_cases h1 : 1 ≤ a.owner.length ∧ a.owner.length ≤ 256
  · obtain ⟨h1, h2⟩ := h1
    have hd1 : decide ((1 : Int) ≤ (a.owner.length : Int) ∧ (a.owner.length : Int) ≤ 256) = true := by simp; omega
    by_cases h3 : a.next.length = a.owner.length
    · have hd3 : ((a.next.length : Int) != (a.owner.length : Int)) = false := by simp [h3]
      have H3 := Lib.hid h3
      clear h3
      go_enter Try.func100, Try.ntmps100
      go_wp2_with (go_at_call 110; refine (l1In_any _ _ _ _).mono ?_; rintro e w' ⟨rfl, hw⟩; subst w')
      clear hd1 hd3
      go_loopw [4] (fun i wr => ∃ k q : Nat, k ≤ a.owner.length ∧ i = .int .i64 k ∧ wr = (w.alloc (.cells #[.slice A a.owner.length c, .slice A' a.next.length c'] 30)).drewN q ∧ ∀ j, j < k → vertexOkB a j = true) (fun i _ => a.owner.length - (intOf i).toNat)
      case atStart => exact ⟨0, 0, Nat.zero_le _, rfl, rfl, fun j hj => by omega⟩
      case round =>
        obtain ⟨k, q, hk, rfl, rfl, hm⟩ := hrel
        by_cases hlt : k < a.owner.length
        · obtain ⟨a1, rfl, hc1⟩ := ho.at_ hlt
          obtain ⟨a2, A2, c2, rfl, hc2, hr⟩ := hn.at_ (k := k) (by rw [H3.out]; exact hlt)
          obtain ⟨A2', c2', he, hlc2, hcm2⟩ := hr.form
          simp only [Value.slice.injEq, true_and] at he
          obtain ⟨rfl, rfl⟩ := he
          have hlt' : k < a.next.length := by rw [H3.out]; exact hlt
          by_cases g1 : 0 ≤ ix a.owner k ∧ ix a.owner k ≤ 1
          · have go : decide ((0 : Int) ≤ ix a.owner k ∧ ix a.owner k ≤ 1) = true := by simpa using g1
            by_cases g2 : 1 ≤ (rx a.next k).length
            · by_cases g3 : (rx a.next k).length ≤ 16
              · cases g4 : isSetB (rx a.next k) a.owner.length
                · have hv : vertexOkB a k = false := by unfold vertexOkB; rw [g4]; simp
                  clear g1
                  have hbad : arenaOkB a = false := arenaOkB_bad hlt hv
                  have Hbad := Lib.hid hbad
                  clear hbad hv
                  go_wp2_with (first | (go_at_call 110; refine (l1In_any _ _ _ _).mono ?_; rintro e w' ⟨rfl, hw⟩; subst w') | (go_at_call 101; refine (l1Set_any _ _ _ _ (hr.kept (Kept.drewN _ q)) (by omega) (by omega)).mono ?_; rintro e w' ⟨rfl, q2, rfl⟩))
                  go_ret
                  exact ⟨by rw [Hbad.out]; rfl, below_drewN hb _⟩
                · have hv : vertexOkB a k = true := by unfold vertexOkB; rw [g4]; simp; omega
                  clear g1
                  have Hv := Lib.hid hv
                  clear hv
                  go_wp2_with (first | (go_at_call 110; refine (l1In_any _ _ _ _).mono ?_; rintro e w' ⟨rfl, hw⟩; subst w') | (go_at_call 101; refine (l1Set_any _ _ _ _ (hr.kept (Kept.drewN _ q)) (by omega) (by omega)).mono ?_; rintro e w' ⟨rfl, q2, rfl⟩))
                  exact ⟨⟨k + 1, q + q2, by omega, by go_num, by simp, fun j hj => by
                    by_cases hjk : j = k
                    · rw [hjk]; exact Hv.out
                    · exact hm j (by omega)⟩, by simp [intOf]; omega⟩
              · have hv : vertexOkB a k = false := by unfold vertexOkB; rw [decide_eq_false (p := (rx a.next k).length ≤ 16) (by omega)]; simp
                clear g1
                have hbad : arenaOkB a = false := arenaOkB_bad hlt hv
                have Hbad := Lib.hid hbad
                clear hbad hv
                go_wp2_with (first | (go_at_call 110; refine (l1In_any _ _ _ _).mono ?_; rintro e w' ⟨rfl, hw⟩; subst w') | (go_at_call 101; refine (l1Set_any _ _ _ _ (hr.kept (Kept.drewN _ q)) (by omega) (by omega)).mono ?_; rintro e w' ⟨rfl, q2, rfl⟩))
                go_ret
                exact ⟨by rw [Hbad.out]; rfl, below_drewN hb _⟩
            · have hv : vertexOkB a k = false := by unfold vertexOkB; rw [decide_eq_false (p := 1 ≤ (rx a.next k).length) (by omega)]; simp
              clear g1
              have hbad : arenaOkB a = false := arenaOkB_bad hlt hv
              have Hbad := Lib.hid hbad
              clear hbad hv
              go_wp2_with (first | (go_at_call 110; refine (l1In_any _ _ _ _).mono ?_; rintro e w' ⟨rfl, hw⟩; subst w') | (go_at_call 101; refine (l1Set_any _ _ _ _ (hr.kept (Kept.drewN _ q)) (by omega) (by omega)).mono ?_; rintro e w' ⟨rfl, q2, rfl⟩))
              go_ret
              exact ⟨by rw [Hbad.out]; rfl, below_drewN hb _⟩
          · have go : decide ((0 : Int) ≤ ix a.owner k ∧ ix a.owner k ≤ 1) = false := by simpa using g1
            have hv : vertexOkB a k = false := by unfold vertexOkB; rw [decide_eq_false (fun h => g1 h)]; rfl
            clear g1
            have hbad : arenaOkB a = false := arenaOkB_bad hlt hv
            have Hbad := Lib.hid hbad
            clear hbad hv
            go_wp2_with (first | (go_at_call 110; refine (l1In_any _ _ _ _).mono ?_; rintro e w' ⟨rfl, hw⟩; subst w') | (go_at_call 101; refine (l1Set_any _ _ _ _ (hr.kept (Kept.drewN _ q)) (by omega) (by omega)).mono ?_; rintro e w' ⟨rfl, q2, rfl⟩))
            go_ret
            exact ⟨by rw [Hbad.out]; rfl, below_drewN hb _⟩
        · have ht : arenaOkB a = true := arenaOkB_iff.2 ⟨h1, h2, H3.out, fun j hj => hm j (by omega)⟩
          have Ht := Lib.hid ht
          clear ht
          have hk' : k = a.owner.length := by omega
          have h5 : a.owner.length ≤ a.next.length := by rw [H3.out]; omega
          have h6 : a.next.length ≤ a.owner.length := by rw [H3.out]; omega
          clear hk'
          go_wp2
          go_ret
          exact ⟨by rw [Ht.out]; rfl, below_drewN hb _⟩
    · have hf : arenaOkB a = false := arenaOkB_false fun h => h3 h.len
      have hd3 : ((a.next.length : Int) != (a.owner.length : Int)) = true := by simp; omega
      rw [hf]
      clear hf
      go_enter Try.func100, Try.ntmps100
      go_wp2_with (go_at_call 110; refine (l1In_any _ _ _ _).mono ?_; rintro e w' ⟨rfl, hw⟩; subst w')
      go_ret
      exact ⟨rfl, hb⟩
  · have hf : arenaOkB a = false := arenaOkB_false fun h => h1 ⟨h.pos, h.le⟩
    rw [hf]
    clear hf
    have hd1 : decide ((1 : Int) ≤ (a.owner.length : Int) ∧ (a.owner.length : Int) ≤ 256) = false := by simp; omega
    by_cases h0 : 1 ≤ a.owner.length
    · have h0' : ¬ a.owner.length ≤ 256 := fun h => h1 ⟨h0, h⟩
      clear h1
      go_enter Try.func100, Try.ntmps100
      go_wp2_with (go_at_call 110; refine (l1In_any _ _ _ _).mono ?_; rintro e w' ⟨rfl, hw⟩; subst w')
      go_ret
      exact ⟨rfl, hb⟩
    · clear h1
      go_enter Try.func100, Try.ntmps100
      go_wp2_with (go_at_call 110; refine (l1In_any _ _ _ _).mono ?_; rintro e w' ⟨rfl, hw⟩; subst w')
      go_ret
      exact ⟨rfl, hb⟩

set_option maxHeartbeats 1000000 in
theorem ArenaOk_any (v : Value) (a : ArenaD) (w : World) (hv : IsArena w v a) :
    Calls Try.prog 104 #[v] w fun e w' => e = .returned (.bool (arenaOkB a)) ∧ Below w.heap.size w w' := by
  obtain ⟨o, n, rfl, ho, hn⟩ := hv
  have hb := box_arena w o n
  replace ho := ho.kept (Kept.of hb)
  replace hn := hn.kept (Kept.of hb)
  obtain ⟨A, c, rfl, hlc, hcm⟩ := ho.form
  obtain ⟨A', c', rfl, hlc', hcm'⟩ := hn.form
  by_cases h1 : 1 ≤ a.owner.length ∧ a.owner.length ≤ 256
  · obtain ⟨h1, h2⟩ := h1
    have hd1 : decide ((1 : Int) ≤ (a.owner.length : Int) ∧ (a.owner.length : Int) ≤ 256) = true := by simp; omega
    by_cases h3 : a.next.length = a.owner.length
    · have hd3 : ((a.next.length : Int) != (a.owner.length : Int)) = false := by simp [h3]
      have H3 := Lib.hid h3
      clear h3
      go_enter Try.func104, Try.ntmps104
      go_wp2
      clear hd1 hd3
      go_loopw [25] (fun i wr => ∃ k q : Nat, k ≤ a.owner.length ∧ i = .int .i64 k ∧ wr = (w.alloc (.cells #[.slice A a.owner.length c, .slice A' a.next.length c'] 30)).drewN q ∧ ∀ j, j < k → vertexOkB a j = true) (fun i _ => a.owner.length - (intOf i).toNat)
      case atStart => exact ⟨0, 0, Nat.zero_le _, rfl, rfl, fun j hj => by omega⟩
      case round =>
        obtain ⟨k, q, hk, rfl, rfl, hm⟩ := hrel
        by_cases hlt : k < a.owner.length
        · obtain ⟨a1, rfl, hc1⟩ := ho.at_ hlt
          obtain ⟨a2, A2, c2, rfl, hc2, hr⟩ := hn.at_ (k := k) (by rw [H3.out]; exact hlt)
          obtain ⟨A2', c2', he, hlc2, hcm2⟩ := hr.form
          simp only [Value.slice.injEq, true_and] at he
          obtain ⟨rfl, rfl⟩ := he
          have hlt' : k < a.next.length := by rw [H3.out]; exact hlt
          by_cases g1 : 0 ≤ ix a.owner k ∧ ix a.owner k ≤ 1
          · obtain ⟨go1, go2⟩ := id g1
            by_cases g2 : 1 ≤ (rx a.next k).length
            · by_cases g3 : (rx a.next k).length ≤ 16
              · cases g4 : isSetB (rx a.next k) a.owner.length
                · have hv : vertexOkB a k = false := by unfold vertexOkB; rw [g4]; simp
                  clear g1
                  have hbad : arenaOkB a = false := arenaOkB_bad hlt hv
                  have Hbad := Lib.hid hbad
                  clear hbad hv
                  go_wp2_with (first | (go_at_call 75; refine (isSet_any _ _ _ _ (hr.kept (Kept.drewN _ q))).mono ?_; rintro e w' ⟨rfl, hw⟩; subst w'))
                  go_ret
                  exact ⟨by rw [Hbad.out]; rfl, below_drewN hb _⟩
                · have hv : vertexOkB a k = true := by unfold vertexOkB; rw [g4]; simp; omega
                  clear g1
                  have Hv := Lib.hid hv
                  clear hv
                  go_wp2_with (first | (go_at_call 75; refine (isSet_any _ _ _ _ (hr.kept (Kept.drewN _ q))).mono ?_; rintro e w' ⟨rfl, hw⟩; subst w'))
                  exact ⟨⟨k + 1, q, by omega, by go_num, by simp, fun j hj => by
                    by_cases hjk : j = k
                    · rw [hjk]; exact Hv.out
                    · exact hm j (by omega)⟩, by simp [intOf]; omega⟩
              · have hv : vertexOkB a k = false := by unfold vertexOkB; rw [decide_eq_false (p := (rx a.next k).length ≤ 16) (by omega)]; simp
                clear g1
                have hbad : arenaOkB a = false := arenaOkB_bad hlt hv
                have Hbad := Lib.hid hbad
                clear hbad hv
                go_wp2_with (first | (go_at_call 75; refine (isSet_any _ _ _ _ (hr.kept (Kept.drewN _ q))).mono ?_; rintro e w' ⟨rfl, hw⟩; subst w'))
                go_ret
                exact ⟨by rw [Hbad.out]; rfl, below_drewN hb _⟩
            · have hv : vertexOkB a k = false := by unfold vertexOkB; rw [decide_eq_false (p := 1 ≤ (rx a.next k).length) (by omega)]; simp
              clear g1
              have hbad : arenaOkB a = false := arenaOkB_bad hlt hv
              have Hbad := Lib.hid hbad
              clear hbad hv
              go_wp2_with (first | (go_at_call 75; refine (isSet_any _ _ _ _ (hr.kept (Kept.drewN _ q))).mono ?_; rintro e w' ⟨rfl, hw⟩; subst w'))
              go_ret
              exact ⟨by rw [Hbad.out]; rfl, below_drewN hb _⟩
          · have hv : vertexOkB a k = false := by unfold vertexOkB; rw [decide_eq_false (fun h => g1 h)]; rfl
            by_cases g0 : 0 ≤ ix a.owner k
            · have g1' : ¬ ix a.owner k ≤ 1 := fun h => g1 ⟨g0, h⟩
              clear g1
              have hbad : arenaOkB a = false := arenaOkB_bad hlt hv
              have Hbad := Lib.hid hbad
              clear hbad hv
              go_wp2_with (first | (go_at_call 75; refine (isSet_any _ _ _ _ (hr.kept (Kept.drewN _ q))).mono ?_; rintro e w' ⟨rfl, hw⟩; subst w'))
              go_ret
              exact ⟨by rw [Hbad.out]; rfl, below_drewN hb _⟩
            · clear g1
              have hbad : arenaOkB a = false := arenaOkB_bad hlt hv
              have Hbad := Lib.hid hbad
              clear hbad hv
              go_wp2_with (first | (go_at_call 75; refine (isSet_any _ _ _ _ (hr.kept (Kept.drewN _ q))).mono ?_; rintro e w' ⟨rfl, hw⟩; subst w'))
              go_ret
              exact ⟨by rw [Hbad.out]; rfl, below_drewN hb _⟩
        · have ht : arenaOkB a = true := arenaOkB_iff.2 ⟨h1, h2, H3.out, fun j hj => hm j (by omega)⟩
          have Ht := Lib.hid ht
          clear ht
          have hk' : k = a.owner.length := by omega
          have h5 : a.owner.length ≤ a.next.length := by rw [H3.out]; omega
          have h6 : a.next.length ≤ a.owner.length := by rw [H3.out]; omega
          clear hk'
          go_wp2
          go_ret
          exact ⟨by rw [Ht.out]; rfl, below_drewN hb _⟩
    · have hf : arenaOkB a = false := arenaOkB_false fun h => h3 h.len
      have hd3 : ((a.next.length : Int) != (a.owner.length : Int)) = true := by simp; omega
      rw [hf]
      clear hf
      go_enter Try.func104, Try.ntmps104
      go_wp2
      go_ret
      exact ⟨rfl, hb⟩
  · have hf : arenaOkB a = false := arenaOkB_false fun h => h1 ⟨h.pos, h.le⟩
    rw [hf]
    clear hf
    have hd1 : decide ((1 : Int) ≤ (a.owner.length : Int) ∧ (a.owner.length : Int) ≤ 256) = false := by simp; omega
    by_cases h0 : 1 ≤ a.owner.length
    · have h0' : ¬ a.owner.length ≤ 256 := fun h => h1 ⟨h0, h⟩
      clear h1
      go_enter Try.func104, Try.ntmps104
      go_wp2
      go_ret
      exact ⟨rfl, hb⟩
    · clear h1
      go_enter Try.func104, Try.ntmps104
      go_wp2
      go_ret
      exact ⟨rfl, hb⟩

end Go.Proofs.Ytpnophmanpfejaa

/- The walks of EdgeIn, SameArena and what they call. Printed by gen_arena2.py. -/
namespace Go.Proofs.Ytpnophmanpfejaa
set_option linter.unusedSimpArgs false
set_option linter.unusedVariables false
open Go.RowKit

theorem size_any (v : Value) (a : ArenaD) (w : World) (hv : IsArena w v a) :
    Calls Try.prog 76 #[v] w fun e w' => e = .returned (.int .i64 (a.owner.length : Int)) ∧ Below w.heap.size w w' := by
  obtain ⟨o, n, rfl, ho, hn⟩ := hv
  have hb := box_arena w o n
  obtain ⟨A, c, rfl, hlc, hcm⟩ := ho.form
  go_enter Try.func76, Try.ntmps76
  go_wp2
  go_ret
  exact ⟨rfl, hb⟩



/-- Behind the first box of an arena. -/
theorem arena_box {w : World} {v : Value} {a : ArenaD} (hv : IsArena w v a) : ∃ o n, v = .agg #[o, n] ∧ Below w.heap.size w (w.alloc (.cells #[o, n] 30)) ∧ Arr (w.alloc (.cells #[o, n] 30)) w.heap.size 30 [o, n] ∧ IsArena (w.alloc (.cells #[o, n] 30)) (.agg #[o, n]) a := by
  have hv0 := hv
  obtain ⟨o, n, rfl, ho, hn⟩ := hv
  have hb := box_arena w o n
  exact ⟨o, n, rfl, hb, Arr.new _ _ _, hv0.kept (Kept.of hb)⟩

theorem l1In_player (who : Int) (w : World) : Calls Try.prog 110 #[.int .i64 who, .int .i64 0, .int .i64 1] w fun e w' => e = .returned (.bool (playerB who)) ∧ w' = w := l1In_any who 0 1 w
theorem isPlayer_any (who : Int) (w : World) : Calls Try.prog 137 #[.int .i64 who] w fun e w' => e = .returned (.bool (playerB who)) ∧ w' = w := by
  by_cases h0 : who = 0
  · subst h0
    go_enter Try.func137, Try.ntmps137
    go_wp2
    go_ret
    exact ⟨rfl, rfl⟩
  · have hd : (who == 0) = false := by simpa using h0
    have hres : playerB who = (who == 1) := by unfold playerB; rw [Bool.eq_iff_iff]; simp; omega
    rw [hres]
    clear hres h0
    go_enter Try.func137, Try.ntmps137
    go_wp2
    go_ret
    exact ⟨rfl, rfl⟩

set_option maxHeartbeats 1000000 in
theorem isPlan_any (v : Value) (a : ArenaD) (who : Int) (u : Value) (plan : List Int) (w : World) (hv : IsArena w v a) (hu : Ints w u plan) (hok : ArenaOk a) :
    Calls Try.prog 138 #[v, .int .i64 who, u] w fun e w' => e = .returned (.bool (planB a who plan)) ∧ Below w.heap.size w w' := by
  obtain ⟨o, n, rfl, ho, hn⟩ := hv
  have hb := box_arena w o n
  replace ho := ho.kept (Kept.of hb)
  replace hn := hn.kept (Kept.of hb)
  replace hu := hu.kept (Kept.of hb)
  obtain ⟨A, c, rfl, hlc, hcm⟩ := ho.form
  obtain ⟨A', c', rfl, hlc', hcm'⟩ := hn.form
  obtain ⟨A3, c3, rfl, hlc3, hcm3⟩ := hu.form
  have hle := hok.le
  by_cases h1 : plan.length = a.owner.length
  · have hd1 : ((plan.length : Int) != (a.owner.length : Int)) = false := by simp [h1]
    have H1 := Lib.hid h1
    clear h1
    go_enter Try.func138, Try.ntmps138
    go_wp2
    clear hd1
    go_loopw [17] (fun i wr => ∃ k q : Nat, k ≤ plan.length ∧ i = .int .i64 k ∧ wr = (w.alloc (.cells #[.slice A a.owner.length c, .slice A' a.next.length c'] 30)).drewN q ∧ ∀ j, j < k → planAtB a who j (ix plan j) = true) (fun i _ => plan.length - (intOf i).toNat)
    case atStart => exact ⟨0, 0, Nat.zero_le _, rfl, rfl, fun j hj => by omega⟩
    case round =>
      obtain ⟨k, q, hk, rfl, rfl, hm⟩ := hrel
      by_cases hlt : k < plan.length
      · have hlt2 : k < a.owner.length := by rw [← H1.out]; exact hlt
        have hlt3 : k < a.next.length := by rw [hok.len]; exact hlt2
        obtain ⟨a1, rfl, hc1⟩ := ho.at_ hlt2
        obtain ⟨a2, A2, c2, rfl, hc2, hr⟩ := hn.at_ hlt3
        obtain ⟨a3, rfl, hc3⟩ := hu.at_ hlt
        have H := Lib.hid (fun W (hW : Kept (w.alloc (.cells #[.slice (some a1) a.owner.length c, .slice (some a2) a.next.length c'] 30)) W) => Contains_any (.slice A2 (rx a.next k).length c2) (rx a.next k) (ix plan k) W (hr.kept hW))
        by_cases g1 : ix plan k = -1
        · have hv : planAtB a who k (ix plan k) = true := by unfold planAtB; simp [g1]
          have hd : (ix plan k != -1) = false := by simp [g1]
          clear g1 H
          have Hv := Lib.hid hv
          clear hv
          go_wp2
          exact ⟨⟨k + 1, q, by omega, by go_num, by simp, fun j hj => by
            by_cases hjk : j = k
            · rw [hjk]; exact Hv.out
            · exact hm j (by omega)⟩, by simp [intOf]; omega⟩
        · have hd : (ix plan k != -1) = true := by simpa using g1
          by_cases g2 : ix a.owner k = who
          · have hd2 : (ix a.owner k != who) = false := by simpa using g2
            cases g3 : hasB (rx a.next k) (ix plan k)
            · have hv : planAtB a who k (ix plan k) = false := by unfold planAtB; simp [g1, g3]
              clear g1 g2
              have hbad := planB_bad hlt hv
              have Hbad := Lib.hid hbad
              clear hbad hv
              go_wp2_with (go_at_call 81; refine (H.out _ (Kept.drewN _ _)).mono ?_; rintro e w2 ⟨rfl, hw⟩; subst w2)
              go_ret
              exact ⟨by rw [Hbad.out]; rfl, below_drewN hb q⟩
            · have hv : planAtB a who k (ix plan k) = true := by unfold planAtB; simp [g2, g3]
              clear g1 g2
              have Hv := Lib.hid hv
              clear hv
              go_wp2_with (go_at_call 81; refine (H.out _ (Kept.drewN _ _)).mono ?_; rintro e w2 ⟨rfl, hw⟩; subst w2)
              exact ⟨⟨k + 1, q, by omega, by go_num, by simp, fun j hj => by
                by_cases hjk : j = k
                · rw [hjk]; exact Hv.out
                · exact hm j (by omega)⟩, by simp [intOf]; omega⟩
          · have hd2 : (ix a.owner k != who) = true := by simpa using g2
            have hv : planAtB a who k (ix plan k) = false := by unfold planAtB; simp [g1, g2]
            clear g1 g2 H
            have hbad := planB_bad hlt hv
            have Hbad := Lib.hid hbad
            clear hbad hv
            go_wp2
            go_ret
            exact ⟨by rw [Hbad.out]; rfl, below_drewN hb q⟩
      · have ht : planB a who plan = true := planB_iff.2 ⟨H1.out, fun j hj => hm j (by omega)⟩
        have Ht := Lib.hid ht
        clear ht
        go_wp2
        go_ret
        exact ⟨by rw [Ht.out]; rfl, below_drewN hb q⟩
  · have hf : planB a who plan = false := planB_false fun h => h1 h.len
    have hd1 : ((plan.length : Int) != (a.owner.length : Int)) = true := by simp; omega
    rw [hf]
    clear hf
    go_enter Try.func138, Try.ntmps138
    go_wp2
    go_ret
    exact ⟨rfl, hb⟩

set_option maxHeartbeats 1000000 in
theorem l5Plan_any (v : Value) (a : ArenaD) (who : Int) (u : Value) (plan : List Int) (w : World) (hv : IsArena w v a) (hu : Ints w u plan) (hok : ArenaOk a) :
    Calls Try.prog 158 #[v, .int .i64 who, u] w fun e w' => e = .returned (.bool (planB a who plan)) ∧ Below w.heap.size w w' := by
  obtain ⟨o, n, rfl, ho, hn⟩ := hv
  have hb := box_arena w o n
  replace ho := ho.kept (Kept.of hb)
  replace hn := hn.kept (Kept.of hb)
  replace hu := hu.kept (Kept.of hb)
  obtain ⟨A, c, rfl, hlc, hcm⟩ := ho.form
  obtain ⟨A', c', rfl, hlc', hcm'⟩ := hn.form
  obtain ⟨A3, c3, rfl, hlc3, hcm3⟩ := hu.form
  have hle := hok.le
  by_cases h1 : plan.length = a.owner.length
  · have hd1 : ((plan.length : Int) != (a.owner.length : Int)) = false := by simp [h1]
    have H1 := Lib.hid h1
    clear h1
    go_enter Try.func158, Try.ntmps158
    go_wp2
    clear hd1
    go_loopw [7] (fun i wr => ∃ k q : Nat, k ≤ plan.length ∧ i = .int .i64 k ∧ wr = (w.alloc (.cells #[.slice A a.owner.length c, .slice A' a.next.length c'] 30)).drewN q ∧ ∀ j, j < k → planAtB a who j (ix plan j) = true) (fun i _ => plan.length - (intOf i).toNat)
    case atStart => exact ⟨0, 0, Nat.zero_le _, rfl, rfl, fun j hj => by omega⟩
    case round =>
      obtain ⟨k, q, hk, rfl, rfl, hm⟩ := hrel
      by_cases hlt : k < plan.length
      · have hlt2 : k < a.owner.length := by rw [← H1.out]; exact hlt
        have hlt3 : k < a.next.length := by rw [hok.len]; exact hlt2
        obtain ⟨a1, rfl, hc1⟩ := ho.at_ hlt2
        obtain ⟨a2, A2, c2, rfl, hc2, hr⟩ := hn.at_ hlt3
        obtain ⟨a3, rfl, hc3⟩ := hu.at_ hlt
        have H := Lib.hid (fun W (hW : Kept (w.alloc (.cells #[.slice (some a1) a.owner.length c, .slice (some a2) a.next.length c'] 30)) W) => l1Has_any (.slice A2 (rx a.next k).length c2) (rx a.next k) (ix plan k) W (hr.kept hW))
        by_cases g1 : ix plan k = -1
        · have hv : planAtB a who k (ix plan k) = true := by unfold planAtB; simp [g1]
          have hd : (ix plan k != -1) = false := by simp [g1]
          clear g1 H
          have Hv := Lib.hid hv
          clear hv
          go_wp2
          go_quiet (fail)
          go_wp2
          exact ⟨⟨k + 1, q + nq, by omega, by go_num, by simp, fun j hj => by
            by_cases hjk : j = k
            · rw [hjk]; exact Hv.out
            · exact hm j (by omega)⟩, by simp [intOf]; omega⟩
        · have hd : (ix plan k != -1) = true := by simpa using g1
          by_cases g2 : ix a.owner k = who
          · have hd2 : (ix a.owner k != who) = false := by simpa using g2
            cases g3 : hasB (rx a.next k) (ix plan k)
            · have hv : planAtB a who k (ix plan k) = false := by unfold planAtB; simp [g1, g3]
              clear g1 g2
              have hbad := planB_bad hlt hv
              have Hbad := Lib.hid hbad
              clear hbad hv
              go_wp2
              go_quiet ((go_at_call 111; first | exact Calls.quiet_of_same (H.out _ (Kept.drewN _ _)) | exact quiet_add (quiet_same (H.out _ (Kept.drewN _ _)))))
              go_wp2
              go_ret
              exact ⟨by rw [Hbad.out]; rfl, below_drewN (below_drewN hb q) nq⟩
            · have hv : planAtB a who k (ix plan k) = true := by unfold planAtB; simp [g2, g3]
              clear g1 g2
              have Hv := Lib.hid hv
              clear hv
              go_wp2
              go_quiet ((go_at_call 111; first | exact Calls.quiet_of_same (H.out _ (Kept.drewN _ _)) | exact quiet_add (quiet_same (H.out _ (Kept.drewN _ _)))))
              go_wp2
              exact ⟨⟨k + 1, q + nq, by omega, by go_num, by simp, fun j hj => by
                by_cases hjk : j = k
                · rw [hjk]; exact Hv.out
                · exact hm j (by omega)⟩, by simp [intOf]; omega⟩
          · have hd2 : (ix a.owner k != who) = true := by simpa using g2
            have hv : planAtB a who k (ix plan k) = false := by unfold planAtB; simp [g1, g2]
            clear g1 g2 H
            have hbad := planB_bad hlt hv
            have Hbad := Lib.hid hbad
            clear hbad hv
            go_wp2
            go_quiet (fail)
            go_wp2
            go_ret
            exact ⟨by rw [Hbad.out]; rfl, below_drewN (below_drewN hb q) nq⟩
      · have ht : planB a who plan = true := planB_iff.2 ⟨H1.out, fun j hj => hm j (by omega)⟩
        have Ht := Lib.hid ht
        clear ht
        go_wp2
        go_ret
        exact ⟨by rw [Ht.out]; rfl, below_drewN hb q⟩
  · have hf : planB a who plan = false := planB_false fun h => h1 h.len
    have hd1 : ((plan.length : Int) != (a.owner.length : Int)) = true := by simp; omega
    rw [hf]
    clear hf
    go_enter Try.func158, Try.ntmps158
    go_wp2
    go_ret
    exact ⟨rfl, hb⟩

set_option maxHeartbeats 400000 in
theorem specPlanOk_any (v : Value) (a : ArenaD) (who : Int) (u : Value) (plan : List Int) (w : World) (hv : IsArena w v a) (hu : Ints w u plan) :
    Calls Try.prog 136 #[v, .int .i64 who, u] w fun e w' => e = .returned (.bool (planOkB a who plan)) ∧ Below w.heap.size w w' := by
  obtain ⟨o, n, rfl, hbw, hB, hv⟩ := arena_box hv
  replace hu := hu.kept (Kept.of hbw)
  cases hE0 : arenaOkB a
  · have hres : planOkB a who plan = false := by unfold planOkB; rw [hE0]; rfl
    rw [hres]
    clear hres
    go_enter Try.func136, Try.ntmps136
    have hBc0 := hB.c0
    have hBc1 := hB.c1
    go_wp2_with fail
    refine (specArenaOk_any _ a _ hv).mono ?_
    rintro e w1 ⟨rfl, hb1⟩
    replace hB := hB.below hb1 hB.lt
    clear hBc0
    clear hBc1
    replace hv := hv.kept (Kept.of hb1)
    replace hu := hu.kept (Kept.of hb1)
    replace hbw := Below.up hbw hb1
    have hBc0 := hB.c0
    have hBc1 := hB.c1
    clear hb1
    go_wp2
    go_ret
    exact ⟨rfl, hbw⟩
  · skip
    cases hE1 : playerB who
    · have hres : planOkB a who plan = false := by unfold planOkB; rw [hE0, hE1]; rfl
      rw [hres]
      clear hres
      go_enter Try.func136, Try.ntmps136
      have hBc0 := hB.c0
      have hBc1 := hB.c1
      go_wp2_with fail
      refine (specArenaOk_any _ a _ hv).mono ?_
      rintro e w1 ⟨rfl, hb1⟩
      replace hB := hB.below hb1 hB.lt
      clear hBc0
      clear hBc1
      replace hv := hv.kept (Kept.of hb1)
      replace hu := hu.kept (Kept.of hb1)
      replace hbw := Below.up hbw hb1
      have hBc0 := hB.c0
      have hBc1 := hB.c1
      clear hb1
      go_wp2_with fail
      refine (same_below (l1In_player who _)).mono ?_
      rintro e w2 ⟨rfl, hb2⟩
      replace hB := hB.below hb2 hB.lt
      clear hBc0
      clear hBc1
      replace hv := hv.kept (Kept.of hb2)
      replace hu := hu.kept (Kept.of hb2)
      replace hbw := Below.up hbw hb2
      have hBc0 := hB.c0
      have hBc1 := hB.c1
      clear hb2
      go_wp2
      go_ret
      exact ⟨rfl, hbw⟩
    · skip
      have hres : planOkB a who plan = planB a who plan := by unfold planOkB; rw [hE0, hE1]; rfl
      rw [hres]
      clear hres
      go_enter Try.func136, Try.ntmps136
      have hBc0 := hB.c0
      have hBc1 := hB.c1
      go_wp2_with fail
      refine (specArenaOk_any _ a _ hv).mono ?_
      rintro e w1 ⟨rfl, hb1⟩
      replace hB := hB.below hb1 hB.lt
      clear hBc0
      clear hBc1
      replace hv := hv.kept (Kept.of hb1)
      replace hu := hu.kept (Kept.of hb1)
      replace hbw := Below.up hbw hb1
      have hBc0 := hB.c0
      have hBc1 := hB.c1
      clear hb1
      go_wp2_with fail
      refine (same_below (l1In_player who _)).mono ?_
      rintro e w2 ⟨rfl, hb2⟩
      replace hB := hB.below hb2 hB.lt
      clear hBc0
      clear hBc1
      replace hv := hv.kept (Kept.of hb2)
      replace hu := hu.kept (Kept.of hb2)
      replace hbw := Below.up hbw hb2
      have hBc0 := hB.c0
      have hBc1 := hB.c1
      clear hb2
      go_wp2_with fail
      refine (l5Plan_any _ a _ _ plan _ hv hu (arenaOkB_iff.1 hE0)).mono ?_
      rintro e w3 ⟨rfl, hb3⟩
      replace hB := hB.below hb3 hB.lt
      clear hBc0
      clear hBc1
      replace hv := hv.kept (Kept.of hb3)
      replace hu := hu.kept (Kept.of hb3)
      replace hbw := Below.up hbw hb3
      have hBc0 := hB.c0
      have hBc1 := hB.c1
      clear hb3
      go_wp2
      go_ret
      exact ⟨rfl, hbw⟩

end Go.Proofs.Ytpnophmanpfejaa

/- The walks of l1Same, slices.Equal and slices.EqualFunc at lists of int64s. Printed by gen_eq.py. -/
namespace Go.Proofs.Ytpnophmanpfejaa
set_option linter.unusedSimpArgs false
set_option linter.unusedVariables false
open Go.RowKit

set_option maxHeartbeats 400000 in
theorem l1Same_any (v u : Value) (l m : List Int) (w : World) (hv : Ints w v l) (hu : Ints w u m) :
    Calls Try.prog 123 #[v, u] w fun e w' => e = .returned (.bool (decide (l = m))) ∧ ∃ n, w' = w.drewN n := by
  obtain ⟨A, c, rfl, hlc, hcm, hA⟩ := hv
  obtain ⟨B, d, rfl, hmd, hdm, hB⟩ := hu
  by_cases hne : l.length = m.length
  · go_enter Try.func123, Try.ntmps123
    go_wp2
    go_loopw [5] (fun i wr => ∃ k q : Nat, k ≤ m.length ∧ i = .int .i64 k ∧ wr = w.drewN q ∧ ∀ j, j < k → ix l j = ix m j) (fun i _ => m.length - (intOf i).toNat)
    case atStart => exact ⟨0, 0, Nat.zero_le _, rfl, rfl, fun j hj => absurd hj (Nat.not_lt_zero _)⟩
    case round =>
      obtain ⟨k, q, hk, rfl, rfl, heq⟩ := hrel
      by_cases hlt : k < m.length
      · obtain ⟨a1, rfl, h1⟩ := hA k (by omega)
        obtain ⟨a2, rfl, h2⟩ := hB k hlt
        go_wp2
        go_quiet (fail)
        go_wp2
        · have hd : (ix l k != ix m k) = true := by assumption
          go_ret
          have hlm : ¬ l = m := by rintro rfl; simp at hd
          exact ⟨by simp [hlm], q + nq, by simp⟩
        · have hd : (ix l k != ix m k) = false := by assumption
          refine ⟨⟨k + 1, q + nq, by omega, by go_num, by simp, fun j hj => ?_⟩, by simp [intOf]; omega⟩
          by_cases hjk : j = k
          · subst hjk; simpa using hd
          · exact heq j (by omega)
      · have hkm : k = m.length := by omega
        go_wp2
        go_ret
        refine ⟨?_, _, rfl⟩
        have hlm : l = m := int_range_ext hne fun j hj => heq j (by omega)
        simp [hlm]
  · have hlm : decide (l = m) = false := by rw [decide_eq_false_iff_not]; rintro rfl; exact hne rfl
    have hd : ((l.length : Int) != (m.length : Int)) = true := by simpa using (by omega : ¬ (l.length : Int) = m.length)
    rw [hlm]
    clear hlm
    go_enter Try.func123, Try.ntmps123
    go_wp2
    go_ret
    exact ⟨rfl, 0, rfl⟩


set_option maxHeartbeats 400000 in
theorem likeInts_any (v u : Value) (l m : List Int) (w : World) (hv : Ints w v l) (hu : Ints w u m) :
    Calls Try.prog 59 #[v, u] w fun e w' => e = .returned (.bool (decide (l = m))) ∧ ∃ n, w' = w.drewN n := by
  obtain ⟨A, c, rfl, hlc, hcm, hA⟩ := hv
  obtain ⟨B, d, rfl, hmd, hdm, hB⟩ := hu
  by_cases hne : l.length = m.length
  · go_enter Try.func59, Try.ntmps59
    go_wp2
    go_loopw [5] (fun i wr => ∃ k q : Nat, k ≤ m.length ∧ i = .int .i64 k ∧ wr = w.drewN q ∧ ∀ j, j < k → ix l j = ix m j) (fun i _ => m.length - (intOf i).toNat)
    case atStart => exact ⟨0, 0, Nat.zero_le _, rfl, rfl, fun j hj => absurd hj (Nat.not_lt_zero _)⟩
    case round =>
      obtain ⟨k, q, hk, rfl, rfl, heq⟩ := hrel
      by_cases hlt : k < m.length
      · obtain ⟨a1, rfl, h1⟩ := hA k (by omega)
        obtain ⟨a2, rfl, h2⟩ := hB k hlt
        go_wp2
        go_quiet (fail)
        go_wp2
        · have hd : (ix l k != ix m k) = true := by assumption
          go_ret
          have hlm : ¬ l = m := by rintro rfl; simp at hd
          exact ⟨by simp [hlm], q + nq, by simp⟩
        · have hd : (ix l k != ix m k) = false := by assumption
          refine ⟨⟨k + 1, q + nq, by omega, by go_num, by simp, fun j hj => ?_⟩, by simp [intOf]; omega⟩
          by_cases hjk : j = k
          · subst hjk; simpa using hd
          · exact heq j (by omega)
      · have hkm : k = m.length := by omega
        go_wp2
        go_ret
        refine ⟨?_, _, rfl⟩
        have hlm : l = m := int_range_ext hne fun j hj => heq j (by omega)
        simp [hlm]
  · have hlm : decide (l = m) = false := by rw [decide_eq_false_iff_not]; rintro rfl; exact hne rfl
    have hd : ((l.length : Int) != (m.length : Int)) = true := by simpa using (by omega : ¬ (l.length : Int) = m.length)
    rw [hlm]
    clear hlm
    go_enter Try.func59, Try.ntmps59
    go_wp2
    go_ret
    exact ⟨rfl, 0, rfl⟩

set_option maxHeartbeats 400000 in
theorem Equal_any (v u : Value) (l m : List Int) (w : World) (hv : Ints w v l) (hu : Ints w u m) :
    Calls Try.prog 125 #[v, u] w fun e w' => e = .returned (.bool (decide (l = m))) ∧ ∃ n, w' = w.drewN n := by
  obtain ⟨A, c, rfl, hlc, hcm, hA⟩ := hv
  obtain ⟨B, d, rfl, hmd, hdm, hB⟩ := hu
  by_cases hne : l.length = m.length
  · go_enter Try.func125, Try.ntmps125
    go_wp2
    go_loopw [13] (fun i wr => ∃ k q : Nat, k ≤ m.length ∧ i = .int .i64 k ∧ wr = w.drewN q ∧ ∀ j, j < k → ix l j = ix m j) (fun i _ => m.length - (intOf i).toNat)
    case atStart => exact ⟨0, 0, Nat.zero_le _, rfl, rfl, fun j hj => absurd hj (Nat.not_lt_zero _)⟩
    case round =>
      obtain ⟨k, q, hk, rfl, rfl, heq⟩ := hrel
      by_cases hlt : k < m.length
      · obtain ⟨a1, rfl, h1⟩ := hA k (by omega)
        obtain ⟨a2, rfl, h2⟩ := hB k hlt
        go_wp2
        go_quiet (fail)
        go_wp2
        · have hd : (ix l k != ix m k) = true := by assumption
          go_ret
          have hlm : ¬ l = m := by rintro rfl; simp at hd
          exact ⟨by simp [hlm], q + nq, by simp⟩
        · have hd : (ix l k != ix m k) = false := by assumption
          refine ⟨⟨k + 1, q + nq, by omega, by go_num, by simp, fun j hj => ?_⟩, by simp [intOf]; omega⟩
          by_cases hjk : j = k
          · subst hjk; simpa using hd
          · exact heq j (by omega)
      · have hkm : k = m.length := by omega
        go_wp2
        go_ret
        refine ⟨?_, _, rfl⟩
        have hlm : l = m := int_range_ext hne fun j hj => heq j (by omega)
        simp [hlm]
  · have hlm : decide (l = m) = false := by rw [decide_eq_false_iff_not]; rintro rfl; exact hne rfl
    have hd : ((l.length : Int) != (m.length : Int)) = true := by simpa using (by omega : ¬ (l.length : Int) = m.length)
    rw [hlm]
    clear hlm
    go_enter Try.func125, Try.ntmps125
    go_wp2
    go_ret
    exact ⟨rfl, 0, rfl⟩

set_option maxHeartbeats 400000 in
theorem EqualFunc_any (v u : Value) (l m : List (List Int)) (w : World) (hv : Rows w v l) (hu : Rows w u m) :
    Calls Try.prog 155 #[v, u, .func (.func 125) #[] #[]] w fun e w' => e = .returned (.bool (decide (l = m))) ∧ ∃ n, w' = w.drewN n := by
  obtain ⟨A, c, rfl, hlc, hcm⟩ := hv.form
  obtain ⟨B, d, rfl, hmd, hdm⟩ := hu.form
  by_cases hne : l.length = m.length
  · have Hne := Lib.hid hne
    have hle1 : l.length ≤ m.length := by omega
    have hle2 : m.length ≤ l.length := by omega
    have hd : ((l.length : Int) != (m.length : Int)) = false := by simp [hne]
    clear hne
    go_enter Try.func155, Try.ntmps155
    go_wp2
    clear hd
    go_loopw [17] (fun i wr => ∃ k q : Nat, k ≤ m.length ∧ i = .int .i64 k ∧ wr = w.drewN q ∧ ∀ j, j < k → rx l j = rx m j) (fun i _ => m.length - (intOf i).toNat)
    case atStart => exact ⟨0, 0, Nat.zero_le _, rfl, rfl, fun j hj => absurd hj (Nat.not_lt_zero _)⟩
    case round =>
      obtain ⟨k, q, hk, rfl, rfl, heq⟩ := hrel
      by_cases hlt : k < m.length
      · obtain ⟨a1, A1, c1, rfl, h1, hr1⟩ := hv.at_ (k := k) (by omega)
        obtain ⟨a2, A2, c2, rfl, h2, hr2⟩ := hu.at_ hlt
        have hlk : (rx l k = rx m k) ∨ ¬ (rx l k = rx m k) := Classical.em _
        rcases hlk with he | he
        · have hd : decide (rx l k = rx m k) = true := by simpa using he
          have He := Lib.hid he
          clear he
          go_wp2_with fail
          refine (Equal_any _ _ _ _ _ (hr1.kept (Kept.drewN w q)) (hr2.kept (Kept.drewN w q))).mono ?_
          rintro e w2 ⟨rfl, q2, rfl⟩
          go_wp2
          exact ⟨⟨k + 1, q + q2, by omega, by go_num, by simp, fun j hj => by
            by_cases hjk : j = k
            · rw [hjk]; exact He.out
            · exact heq j (by omega)⟩, by simp [intOf]; omega⟩
        · have hd : decide (rx l k = rx m k) = false := by simpa using he
          have hlm : decide (l = m) = false := by rw [decide_eq_false_iff_not]; rintro rfl; exact he rfl
          have Hlm := Lib.hid hlm
          clear he hlm
          go_wp2_with fail
          refine (Equal_any _ _ _ _ _ (hr1.kept (Kept.drewN w q)) (hr2.kept (Kept.drewN w q))).mono ?_
          rintro e w2 ⟨rfl, q2, rfl⟩
          go_wp2
          go_ret
          exact ⟨by rw [Hlm.out]; rfl, q + q2, by simp⟩
      · have hlm : l = m := rows_ext Hne.out fun j hj => heq j (by omega)
        have hd : decide (l = m) = true := by simpa using hlm
        have Hd := Lib.hid hd
        clear hd
        clear hlm
        go_wp2
        go_ret
        exact ⟨by rw [Hd.out]; rfl, q, rfl⟩
  · have hlm : decide (l = m) = false := by rw [decide_eq_false_iff_not]; rintro rfl; exact hne rfl
    have hd : ((l.length : Int) != (m.length : Int)) = true := by simpa using (by omega : ¬ (l.length : Int) = m.length)
    rw [hlm]
    clear hlm
    go_enter Try.func155, Try.ntmps155
    go_wp2
    go_ret
    exact ⟨rfl, 0, rfl⟩

end Go.Proofs.Ytpnophmanpfejaa

/- The walks of SameArena. Printed by gen_same.py. -/
namespace Go.Proofs.Ytpnophmanpfejaa
set_option linter.unusedSimpArgs false
set_option linter.unusedVariables false
open Go.RowKit

theorem arena_eq (a b : ArenaD) : decide (a = b) = (decide (a.owner = b.owner) && decide (a.next = b.next)) := by
  cases a; cases b; simp
/-- Behind the boxes of two arenas. -/
theorem arena_box2 {w : World} {v u : Value} {a b : ArenaD} (hv : IsArena w v a) (hu : IsArena w u b) : ∃ o n o' n', v = .agg #[o, n] ∧ u = .agg #[o', n'] ∧
    Below w.heap.size w ((w.alloc (.cells #[o, n] 30)).alloc (.cells #[o', n'] 30)) ∧ Arr ((w.alloc (.cells #[o, n] 30)).alloc (.cells #[o', n'] 30)) w.heap.size 30 [o, n] ∧
    Arr ((w.alloc (.cells #[o, n] 30)).alloc (.cells #[o', n'] 30)) (w.heap.size + 1) 30 [o', n'] ∧
    IsArena ((w.alloc (.cells #[o, n] 30)).alloc (.cells #[o', n'] 30)) (.agg #[o, n]) a ∧ IsArena ((w.alloc (.cells #[o, n] 30)).alloc (.cells #[o', n'] 30)) (.agg #[o', n']) b := by
  have hv0 := hv
  have hu0 := hu
  obtain ⟨o, n, rfl, ho, hn⟩ := hv
  obtain ⟨o', n', rfl, ho', hn'⟩ := hu
  have hb : Below w.heap.size w ((w.alloc (.cells #[o, n] 30)).alloc (.cells #[o', n'] 30)) := ((Below.refl _ _).alloc (Nat.le_refl _) _).alloc (by simp) _
  have h2 := Arr.new (w.alloc (.cells #[o, n] 30)) 30 [o', n']
  refine ⟨o, n, o', n', rfl, rfl, hb, (Arr.new _ _ _).alloc _, by simpa using h2, hv0.kept (Kept.of hb), hu0.kept (Kept.of hb)⟩
theorem IsArena.parts {w : World} {o n : Value} {a : ArenaD} (h : IsArena w (.agg #[o, n]) a) : Ints w o a.owner ∧ Rows w n a.next := by
  obtain ⟨o', n', he, h1, h2⟩ := h
  simp only [Value.agg.injEq, Array.mk.injEq, List.cons.injEq, and_true] at he
  obtain ⟨rfl, rfl⟩ := he
  exact ⟨h1, h2⟩
def sameP (a b : ArenaD) : Bool := decide (a.owner = b.owner) && decide (a.next = b.next)

set_option maxHeartbeats 400000 in
theorem sameArena_any (v : Value) (a : ArenaD) (u : Value) (b : ArenaD) (w : World) (hv : IsArena w v a) (hu : IsArena w u b) :
    Calls Try.prog 124 #[v, u] w fun e w' => e = .returned (.bool (sameP a b)) ∧ Below w.heap.size w w' := by
  obtain ⟨o, n, o', n', rfl, rfl, hbw, hB, hD, hv, hu⟩ := arena_box2 hv hu
  cases hE0 : decide (a.owner = b.owner)
  · have hres : sameP a b = false := by unfold sameP; rw [hE0]; rfl
    rw [hres]
    clear hres
    go_enter Try.func124, Try.ntmps124
    have hBc0 := hB.c0
    have hBc1 := hB.c1
    have hDc0 := hD.c0
    have hDc1 := hD.c1
    go_wp2_with fail
    refine (drew_below (Equal_any _ _ _ _ _ hv.parts.1 hu.parts.1)).mono ?_
    rintro e w1 ⟨rfl, hb1⟩
    replace hB := hB.below hb1 hB.lt
    clear hBc0
    clear hBc1
    replace hD := hD.below hb1 hD.lt
    clear hDc0
    clear hDc1
    replace hv := hv.kept (Kept.of hb1)
    replace hu := hu.kept (Kept.of hb1)
    replace hbw := Below.up hbw hb1
    have hBc0 := hB.c0
    have hBc1 := hB.c1
    have hDc0 := hD.c0
    have hDc1 := hD.c1
    clear hb1
    go_wp2
    go_ret
    exact ⟨rfl, hbw⟩
  · skip
    have hres : sameP a b = decide (a.next = b.next) := by unfold sameP; rw [hE0]; rfl
    rw [hres]
    clear hres
    go_enter Try.func124, Try.ntmps124
    have hBc0 := hB.c0
    have hBc1 := hB.c1
    have hDc0 := hD.c0
    have hDc1 := hD.c1
    go_wp2_with fail
    refine (drew_below (Equal_any _ _ _ _ _ hv.parts.1 hu.parts.1)).mono ?_
    rintro e w1 ⟨rfl, hb1⟩
    replace hB := hB.below hb1 hB.lt
    clear hBc0
    clear hBc1
    replace hD := hD.below hb1 hD.lt
    clear hDc0
    clear hDc1
    replace hv := hv.kept (Kept.of hb1)
    replace hu := hu.kept (Kept.of hb1)
    replace hbw := Below.up hbw hb1
    have hBc0 := hB.c0
    have hBc1 := hB.c1
    have hDc0 := hD.c0
    have hDc1 := hD.c1
    clear hb1
    go_wp2_with fail
    refine (drew_below (EqualFunc_any _ _ _ _ _ hv.parts.2 hu.parts.2)).mono ?_
    rintro e w2 ⟨rfl, hb2⟩
    replace hB := hB.below hb2 hB.lt
    clear hBc0
    clear hBc1
    replace hD := hD.below hb2 hD.lt
    clear hDc0
    clear hDc1
    replace hv := hv.kept (Kept.of hb2)
    replace hu := hu.kept (Kept.of hb2)
    replace hbw := Below.up hbw hb2
    have hBc0 := hB.c0
    have hBc1 := hB.c1
    have hDc0 := hD.c0
    have hDc1 := hD.c1
    clear hb2
    go_wp2
    go_ret
    exact ⟨rfl, hbw⟩

theorem sameArena_eq (v : Value) (a : ArenaD) (u : Value) (b : ArenaD) (w : World) (hv : IsArena w v a) (hu : IsArena w u b) :
    Calls Try.prog 124 #[v, u] w fun e w' => e = .returned (.bool (decide (a = b))) ∧ Below w.heap.size w w' := by
  have h := sameArena_any v a u b w hv hu
  unfold sameP at h
  rwa [← arena_eq] at h

set_option maxHeartbeats 1000000 in
theorem specSameArena_any (v : Value) (a : ArenaD) (u : Value) (b : ArenaD) (w : World) (hv : IsArena w v a) (hu : IsArena w u b) :
    Calls Try.prog 122 #[v, u] w fun e w' => e = .returned (.bool (sameB a b)) ∧ Below w.heap.size w w' := by
  obtain ⟨o, n, o', n', rfl, rfl, hbw, hB, hD, hv, hu⟩ := arena_box2 hv hu

  cases hE0 : arenaOkB a
  · have hres : sameB a b = false := by unfold sameB; rw [arena_eq]; simp [hE0]
    rw [hres]
    clear hres
    go_enter Try.func122, Try.ntmps122
    have hBc0 := hB.c0
    have hBc1 := hB.c1
    have hDc0 := hD.c0
    have hDc1 := hD.c1
    go_wp2_with fail
    refine (specArenaOk_any _ a _ hv).mono ?_
    rintro e w1 ⟨rfl, hb1⟩
    replace hB := hB.below hb1 hB.lt
    clear hBc0
    clear hBc1
    replace hD := hD.below hb1 hD.lt
    clear hDc0
    clear hDc1
    replace hv := hv.kept (Kept.of hb1)
    replace hu := hu.kept (Kept.of hb1)
    replace hbw := Below.up hbw hb1
    have hBc0 := hB.c0
    have hBc1 := hB.c1
    have hDc0 := hD.c0
    have hDc1 := hD.c1
    clear hb1
    go_wp2
    go_ret
    exact ⟨rfl, hbw⟩
  · skip
    cases hE1 : arenaOkB b
    · have hres : sameB a b = false := by unfold sameB; rw [arena_eq]; simp [hE0, hE1]
      rw [hres]
      clear hres
      go_enter Try.func122, Try.ntmps122
      have hBc0 := hB.c0
      have hBc1 := hB.c1
      have hDc0 := hD.c0
      have hDc1 := hD.c1
      go_wp2_with fail
      refine (specArenaOk_any _ a _ hv).mono ?_
      rintro e w1 ⟨rfl, hb1⟩
      replace hB := hB.below hb1 hB.lt
      clear hBc0
      clear hBc1
      replace hD := hD.below hb1 hD.lt
      clear hDc0
      clear hDc1
      replace hv := hv.kept (Kept.of hb1)
      replace hu := hu.kept (Kept.of hb1)
      replace hbw := Below.up hbw hb1
      have hBc0 := hB.c0
      have hBc1 := hB.c1
      have hDc0 := hD.c0
      have hDc1 := hD.c1
      clear hb1
      go_wp2_with fail
      refine (specArenaOk_any _ b _ hu).mono ?_
      rintro e w2 ⟨rfl, hb2⟩
      replace hB := hB.below hb2 hB.lt
      clear hBc0
      clear hBc1
      replace hD := hD.below hb2 hD.lt
      clear hDc0
      clear hDc1
      replace hv := hv.kept (Kept.of hb2)
      replace hu := hu.kept (Kept.of hb2)
      replace hbw := Below.up hbw hb2
      have hBc0 := hB.c0
      have hBc1 := hB.c1
      have hDc0 := hD.c0
      have hDc1 := hD.c1
      clear hb2
      go_wp2
      go_ret
      exact ⟨rfl, hbw⟩
    · skip
      cases hE2 : decide (a.owner = b.owner)
      · have hres : sameB a b = false := by unfold sameB; rw [arena_eq]; simp [hE0, hE1, hE2]
        rw [hres]
        clear hres
        go_enter Try.func122, Try.ntmps122
        have hBc0 := hB.c0
        have hBc1 := hB.c1
        have hDc0 := hD.c0
        have hDc1 := hD.c1
        go_wp2_with fail
        refine (specArenaOk_any _ a _ hv).mono ?_
        rintro e w1 ⟨rfl, hb1⟩
        replace hB := hB.below hb1 hB.lt
        clear hBc0
        clear hBc1
        replace hD := hD.below hb1 hD.lt
        clear hDc0
        clear hDc1
        replace hv := hv.kept (Kept.of hb1)
        replace hu := hu.kept (Kept.of hb1)
        replace hbw := Below.up hbw hb1
        have hBc0 := hB.c0
        have hBc1 := hB.c1
        have hDc0 := hD.c0
        have hDc1 := hD.c1
        clear hb1
        go_wp2_with fail
        refine (specArenaOk_any _ b _ hu).mono ?_
        rintro e w2 ⟨rfl, hb2⟩
        replace hB := hB.below hb2 hB.lt
        clear hBc0
        clear hBc1
        replace hD := hD.below hb2 hD.lt
        clear hDc0
        clear hDc1
        replace hv := hv.kept (Kept.of hb2)
        replace hu := hu.kept (Kept.of hb2)
        replace hbw := Below.up hbw hb2
        have hBc0 := hB.c0
        have hBc1 := hB.c1
        have hDc0 := hD.c0
        have hDc1 := hD.c1
        clear hb2
        go_wp2_with fail
        refine (drew_below (l1Same_any _ _ _ _ _ hv.parts.1 hu.parts.1)).mono ?_
        rintro e w3 ⟨rfl, hb3⟩
        replace hB := hB.below hb3 hB.lt
        clear hBc0
        clear hBc1
        replace hD := hD.below hb3 hD.lt
        clear hDc0
        clear hDc1
        replace hv := hv.kept (Kept.of hb3)
        replace hu := hu.kept (Kept.of hb3)
        replace hbw := Below.up hbw hb3
        have hBc0 := hB.c0
        have hBc1 := hB.c1
        have hDc0 := hD.c0
        have hDc1 := hD.c1
        clear hb3
        go_wp2
        go_ret
        exact ⟨rfl, hbw⟩
      · skip
        have hres : sameB a b = decide (a.next = b.next) := by unfold sameB; rw [arena_eq, hE0, hE1, hE2]; rfl
        have hoka := arenaOkB_iff.1 hE0
        have hokb := arenaOkB_iff.1 hE1
        have hlen : a.next.length = b.next.length := by rw [hoka.len, hokb.len, of_decide_eq_true hE2]
        have Hlen := Lib.hid hlen
        have hl1 : a.next.length ≤ b.next.length := by omega
        have hl2 : b.next.length ≤ a.next.length := by omega
        clear hlen hoka hokb
        rw [hres]
        clear hres
        go_enter Try.func122, Try.ntmps122
        have hBc0 := hB.c0
        have hBc1 := hB.c1
        have hDc0 := hD.c0
        have hDc1 := hD.c1
        go_wp2_with fail
        refine (specArenaOk_any _ a _ hv).mono ?_
        rintro e w1 ⟨rfl, hb1⟩
        replace hB := hB.below hb1 hB.lt
        clear hBc0
        clear hBc1
        replace hD := hD.below hb1 hD.lt
        clear hDc0
        clear hDc1
        replace hv := hv.kept (Kept.of hb1)
        replace hu := hu.kept (Kept.of hb1)
        replace hbw := Below.up hbw hb1
        have hBc0 := hB.c0
        have hBc1 := hB.c1
        have hDc0 := hD.c0
        have hDc1 := hD.c1
        clear hb1
        go_wp2_with fail
        refine (specArenaOk_any _ b _ hu).mono ?_
        rintro e w2 ⟨rfl, hb2⟩
        replace hB := hB.below hb2 hB.lt
        clear hBc0
        clear hBc1
        replace hD := hD.below hb2 hD.lt
        clear hDc0
        clear hDc1
        replace hv := hv.kept (Kept.of hb2)
        replace hu := hu.kept (Kept.of hb2)
        replace hbw := Below.up hbw hb2
        have hBc0 := hB.c0
        have hBc1 := hB.c1
        have hDc0 := hD.c0
        have hDc1 := hD.c1
        clear hb2
        go_wp2_with fail
        refine (drew_below (l1Same_any _ _ _ _ _ hv.parts.1 hu.parts.1)).mono ?_
        rintro e w3 ⟨rfl, hb3⟩
        replace hB := hB.below hb3 hB.lt
        clear hBc0
        clear hBc1
        replace hD := hD.below hb3 hD.lt
        clear hDc0
        clear hDc1
        replace hv := hv.kept (Kept.of hb3)
        replace hu := hu.kept (Kept.of hb3)
        replace hbw := Below.up hbw hb3
        have hBc0 := hB.c0
        have hBc1 := hB.c1
        have hDc0 := hD.c0
        have hDc1 := hD.c1
        clear hb3
        go_wp2
        clear hE0 hE1 hE2
        obtain ⟨ho, hn⟩ := hv.parts
        obtain ⟨ho', hn'⟩ := hu.parts
        obtain ⟨A, c, rfl, hlc, hcm⟩ := hn.form
        obtain ⟨B, d, rfl, hmd, hdm⟩ := hn'.form
        go_loopw [5] (fun i wr => ∃ k q : Nat, k ≤ a.next.length ∧ i = .int .i64 k ∧ wr = w3.drewN q ∧ ∀ j, j < k → rx a.next j = rx b.next j) (fun i _ => a.next.length - (intOf i).toNat)
        case atStart => exact ⟨0, 0, Nat.zero_le _, rfl, rfl, fun j hj => by omega⟩
        case round =>
          obtain ⟨k, q, hk, rfl, rfl, heq⟩ := hrel
          by_cases hlt : k < a.next.length
          · obtain ⟨a1, A1, c1, rfl, h1, hr1⟩ := hn.at_ hlt
            obtain ⟨a2, A2, c2, rfl, h2, hr2⟩ := hn'.at_ (k := k) (by omega)
            have hltb : k < b.next.length := by omega
            have H := Lib.hid (fun W (hW : Kept w3 W) => l1Same_any _ _ _ _ W (hr1.kept hW) (hr2.kept hW))
            by_cases he : rx a.next k = rx b.next k
            · have hd : decide (rx a.next k = rx b.next k) = true := by simpa using he
              have He := Lib.hid he
              clear he
              go_wp2
              go_quiet ((go_at_call 123; first | exact Calls.quiet_of_same (H.out _ (Kept.drewN _ _)) | exact Calls.quiet_of (H.out _ (Kept.drewN _ _)) | exact quiet_add (quiet_same (H.out _ (Kept.drewN _ _))) | exact quiet_add (H.out _ (Kept.drewN _ _))))
              go_wp2
              exact ⟨⟨k + 1, q + nq, by omega, by go_num, by simp, fun j hj => by
                by_cases hjk : j = k
                · rw [hjk]; exact He.out
                · exact heq j (by omega)⟩, by simp [intOf]; omega⟩
            · have hd : decide (rx a.next k = rx b.next k) = false := by simpa using he
              have hlm : decide (a.next = b.next) = false := by rw [decide_eq_false_iff_not]; intro h; exact he (by rw [h])
              have Hlm := Lib.hid hlm
              clear he hlm
              go_wp2
              go_quiet ((go_at_call 123; first | exact Calls.quiet_of_same (H.out _ (Kept.drewN _ _)) | exact Calls.quiet_of (H.out _ (Kept.drewN _ _)) | exact quiet_add (quiet_same (H.out _ (Kept.drewN _ _))) | exact quiet_add (H.out _ (Kept.drewN _ _))))
              go_wp2
              go_ret
              exact ⟨by rw [Hlm.out]; rfl, below_drewN (below_drewN hbw q) nq⟩
          · have hlm : decide (a.next = b.next) = true := by rw [decide_eq_true_eq]; exact rows_ext Hlen.out fun j hj => heq j (by omega)
            have Hd := Lib.hid hlm
            clear hlm
            go_wp2
            go_ret
            exact ⟨by rw [Hd.out]; rfl, below_drewN hbw q⟩
end Go.Proofs.Ytpnophmanpfejaa

/- The walks of markOf and l1Marks. Conditions: the elements are vertices, the arena is not too large. -/
namespace Go.Proofs.Ytpnophmanpfejaa
set_option linter.unusedSimpArgs false
set_option linter.unusedVariables false
open Go.RowKit

set_option maxHeartbeats 1000000 in
theorem markOf_any (v : Value) (a : ArenaD) (u : Value) (s : List Int) (w : World) (hv : IsArena w v a) (hu : Ints w u s) (hr : Vert s a.owner.length) (hn : a.owner.length ≤ 1048576) :
    Calls Try.prog 118 #[v, u] w (RetBools w (marksL a.owner.length s)) := by
  obtain ⟨o, n, rfl, hbw, hB, hv1⟩ := arena_box hv
  obtain ⟨ho, hn1⟩ := hv.parts
  obtain ⟨A, c, rfl, hlc, hcm⟩ := ho.form
  obtain ⟨A', c', rfl, hlc', hcm'⟩ := hu.form
  have hmk := make_one elem_bool a.owner.length (by omega)
  have hBc0 := hB.c0
  go_enter Try.func118, Try.ntmps118
  go_wp2
  clear hmk
  have hM := BArr.new (w.alloc (.cells #[.slice A a.owner.length c, n] 30)) a.owner.length
  rw [← marksL_nil] at hM
  have hb2 := hbw.alloc hbw.size (.cells (zeros (.bool false) a.owner.length).toArray 4)
  have hsz : (w.alloc (.cells #[.slice A a.owner.length c, n] 30)).heap.size = w.heap.size + 1 := by simp
  rw [hsz] at hM
  clear hsz hBc0 hB hv1 hbw
  generalize (w.alloc (.cells #[.slice A a.owner.length c, n] 30)).alloc (.cells (zeros (.bool false) a.owner.length).toArray 4) = w0 at *
  have Hall := Lib.hid (show marksL a.owner.length (s.take s.length) = marksL a.owner.length s by rw [List.take_length])
  go_loopw [14] (fun i wr => ∃ k : Nat, k ≤ s.length ∧ i = .int .i64 k ∧ BArr wr (w.heap.size + 1) (marksL a.owner.length (s.take k)) ∧ Below w.heap.size w wr) (fun i _ => s.length - (intOf i).toNat)
  case atStart => exact ⟨0, Nat.zero_le _, rfl, hM, hb2⟩
  case round =>
    obtain ⟨k, hk, rfl, hM, hbw⟩ := hrel
    by_cases hlt : k < s.length
    · have hu1 := (hu.kept (Kept.of hbw))
      obtain ⟨a1, rfl, hc1⟩ := hu1.at_ hlt
      obtain ⟨j, hj, hjn⟩ := hr k hlt
      have hc2 := hM.cell (k := j) (by simpa using hjn)
      have hf2 := hM.frozen j
      have hset := hM.set_ j true
      rw [marksL_set hlt hj hjn] at hset
      rw [hj] at hc1
      clear hj
      have hjn' : (j : Int) < a.owner.length := by omega
      go_wp2
      exact ⟨⟨k + 1, by omega, by go_num, hset, hbw.setCell (by simp) _⟩, by simp [intOf]; omega⟩
    · obtain rfl : k = s.length := by omega
      rw [Hall.out] at hM
      have hown := hM.own (B := w.heap.size) (by omega) (by simpa using (by omega : a.owner.length ≤ 4611686018427387904))
      rw [length_marksL] at hown
      go_wp2
      go_ret
      exact .mk' hown hbw

set_option maxHeartbeats 1000000 in
theorem l1Marks_any (u : Value) (s : List Int) (n : Nat) (w : World) (hu : Ints w u s) (hr : Vert s n) (hn : n ≤ 1048576) :
    Calls Try.prog 141 #[u, .int .i64 (n : Int)] w (RetBools w (marksL n s)) := by
  obtain ⟨A', c', rfl, hlc', hcm'⟩ := hu.form
  have hmk := make_one elem_bool n (by omega)
  go_enter Try.func141, Try.ntmps141
  go_wp2
  clear hmk
  have hM := BArr.new w n
  rw [← marksL_nil] at hM
  have hb2 := (Below.refl w.heap.size w).alloc (Nat.le_refl _) (.cells (zeros (.bool false) n).toArray 4)
  generalize w.alloc (.cells (zeros (.bool false) n).toArray 4) = w0 at *
  have Hall := Lib.hid (show marksL n (s.take s.length) = marksL n s by rw [List.take_length])
  go_loopw [6] (fun i wr => ∃ k : Nat, k ≤ s.length ∧ i = .int .i64 k ∧ BArr wr w.heap.size (marksL n (s.take k)) ∧ Below w.heap.size w wr) (fun i _ => s.length - (intOf i).toNat)
  case atStart => exact ⟨0, Nat.zero_le _, rfl, hM, hb2⟩
  case round =>
    obtain ⟨k, hk, rfl, hM, hbw⟩ := hrel
    by_cases hlt : k < s.length
    · have hu1 := (hu.kept (Kept.of hbw))
      obtain ⟨a1, rfl, hc1⟩ := hu1.at_ hlt
      obtain ⟨j, hj, hjn⟩ := hr k hlt
      have hc2 := hM.cell (k := j) (by simpa using hjn)
      have hf2 := hM.frozen j
      have hset := hM.set_ j true
      rw [marksL_set hlt hj hjn] at hset
      rw [hj] at hc1
      clear hj
      have hjn' : (j : Int) < n := by omega
      have hlt' : (k : Int) < s.length := by omega
      go_wp2
      exact ⟨⟨k + 1, by omega, by go_num, hset, hbw.setCell (by simp) _⟩, by simp [intOf]; omega⟩
    · obtain rfl : k = s.length := by omega
      rw [Hall.out] at hM
      have hown := hM.own (B := w.heap.size) (by omega) (by simpa using (by omega : n ≤ 4611686018427387904))
      rw [length_marksL] at hown
      go_wp2
      go_ret
      exact .mk' hown hbw
end Go.Proofs.Ytpnophmanpfejaa

/- The walks of the functions that make sets: AllOf, MeetOf, LessOf, and of those that call them. Printed by gen_sets.py. -/
namespace Go.Proofs.Ytpnophmanpfejaa
set_option linter.unusedSimpArgs false
set_option linter.unusedVariables false
open Go.RowKit

/-- A function that makes a row of int64s, and writes nothing that was there. -/
def RetInts (w : World) (l : List Int) (e : Ending) (w' : World) : Prop := ∃ u, e = .returned u ∧ OwnInts w' w.heap.size u l ∧ Below w.heap.size w w'
theorem RetInts.mk' {w w' : World} {l : List Int} {u : Value} (h1 : OwnInts w' w.heap.size u l) (h2 : Below w.heap.size w w') : RetInts w l (.returned u) w' := ⟨u, rfl, h1, h2⟩

theorem new_ints (w : World) : OwnInts (w.alloc (.cells #[] 2)) w.heap.size (.slice (some ⟨w.heap.size, 0, none⟩) 0 0) [] ∧ Below w.heap.size w (w.alloc (.cells #[] 2)) :=
  ⟨OwnInts.empty w _ (Nat.le_refl _), (Below.refl _ _).alloc (Nat.le_refl _) _⟩
theorem new_ints_drewN (w : World) (q : Nat) : OwnInts ((w.alloc (.cells #[] 2)).drewN q) w.heap.size (.slice (some ⟨w.heap.size, 0, none⟩) 0 0) [] ∧ Below w.heap.size w ((w.alloc (.cells #[] 2)).drewN q) :=
  ⟨(new_ints w).1, below_drewN (new_ints w).2 q⟩

set_option maxHeartbeats 400000 in
theorem specAllOf_any (n : Int) (w : World) : Calls Try.prog 126 #[.int .i64 n] w (RetInts w (allL n)) := by
  obtain ⟨ho, hb⟩ := new_ints w
  by_cases h : 0 ≤ n ∧ n ≤ 256
  · obtain ⟨h0, h1⟩ := h
    obtain ⟨m, rfl⟩ := Int.eq_ofNat_of_zero_le h0
    rw [allL_nat (by omega)]
    go_enter Try.func126, Try.ntmps126
    go_wp2
    generalize w.alloc (.cells #[] 2) = w0 at *
    go_loopw [3, 4] (fun v i wr => ∃ k : Nat, k ≤ m ∧ i = .int .i64 k ∧ OwnInts wr w.heap.size v (upFrom 0 k) ∧ Below w.heap.size w wr) (fun _ i _ => m - (intOf i).toNat)
    case atStart => exact ⟨0, Nat.zero_le _, rfl, ho, hb⟩
    case round =>
      obtain ⟨k, hk, rfl, hown, hbw⟩ := hrel
      by_cases hlt : k < m
      · go_wp2_with (at_builtin; refine append_int _ rfl (.tmp 15) (.tmp 17) rfl w.heap.size u3 (upFrom 0 k) rfl hown _ rfl (by simp; omega) hbw.size ?_; intro v1 w1 ho1 hb1 hg1 hl1)
        exact ⟨⟨k + 1, by omega, by go_num, by rw [upFrom_snoc]; simpa using ho1, hbw.trans (hb1.mono (Nat.le_refl _))⟩, by simp [intOf]; omega⟩
      · obtain rfl : k = m := by omega
        go_wp2
        go_ret
        exact .mk' hown hbw
  · rw [allL_out h]
    by_cases h0 : 0 ≤ n
    all_goals
      go_enter Try.func126, Try.ntmps126
      go_wp2
      generalize w.alloc (.cells #[] 2) = w0 at *
      refine wp_loop_rounds 1 ?_
      rw [rounds_succ]
      go_wp2
      go_ret
      exact .mk' ho hb

set_option maxHeartbeats 400000 in
theorem implAllOf_any (n : Int) (w : World) : Calls Try.prog 60 #[.int .i64 n] w (RetInts w (allL n)) := by
  obtain ⟨ho, hb⟩ := new_ints w
  by_cases h : 0 ≤ n ∧ n ≤ 256
  · obtain ⟨h0, h1⟩ := h
    obtain ⟨m, rfl⟩ := Int.eq_ofNat_of_zero_le h0
    rw [allL_nat (by omega)]
    go_enter Try.func60, Try.ntmps60
    go_wp2
    generalize w.alloc (.cells #[] 2) = w0 at *
    go_loopw [3, 4] (fun v i wr => ∃ k : Nat, k ≤ m ∧ i = .int .i64 k ∧ OwnInts wr w.heap.size v (upFrom 0 k) ∧ Below w.heap.size w wr) (fun _ i _ => m - (intOf i).toNat)
    case atStart => exact ⟨0, Nat.zero_le _, rfl, ho, hb⟩
    case round =>
      obtain ⟨k, hk, rfl, hown, hbw⟩ := hrel
      by_cases hlt : k < m
      · go_wp2_with (at_builtin; refine append_int _ rfl (.tmp 17) (.tmp 19) rfl w.heap.size u3 (upFrom 0 k) rfl hown _ rfl (by simp; omega) hbw.size ?_; intro v1 w1 ho1 hb1 hg1 hl1)
        exact ⟨⟨k + 1, by omega, by go_num, by rw [upFrom_snoc]; simpa using ho1, hbw.trans (hb1.mono (Nat.le_refl _))⟩, by simp [intOf]; omega⟩
      · obtain rfl : k = m := by omega
        go_wp2
        go_ret
        exact .mk' hown hbw
  · rw [allL_out h]
    by_cases h0 : 0 ≤ n
    all_goals
      go_enter Try.func60, Try.ntmps60
      go_wp2
      go_ret
      exact .mk' (OwnInts.nil _ _) (Below.refl _ _)

theorem l2Both_any (v u : Value) (a b : List Int) (w : World) (hv : Ints w v a) (hu : Ints w u b) :
    Calls Try.prog 127 #[v, u] w fun e w' => e = .returned (.bool (bothOkB a b)) ∧ ∃ q, w' = w.drewN q := by
  by_cases h : isSetB a 256 = true
  · have h256 : setOkB a 256 = true := by rw [setOk256, h]
    have hb : bothOkB a b = setOkB b 256 := by simp [bothOkB, h, setOk256]
    rw [hb]
    clear hb h
    go_enter Try.func127, Try.ntmps127
    go_wp2_with fail
    refine (specSetOk_any v a 256 _ hv).mono ?_
    rintro e w' ⟨rfl, q, rfl⟩
    go_wp2_with fail
    refine (specSetOk_any u b 256 _ (hu.kept (Kept.drewN _ _))).mono ?_
    rintro e w' ⟨rfl, q2, rfl⟩
    go_wp2
    go_ret
    exact ⟨rfl, q + q2, by simp⟩
  · have h256 : setOkB a 256 = false := by rw [setOk256]; simpa using h
    have hb : bothOkB a b = false := by simp [bothOkB, h]
    rw [hb]
    clear hb h
    go_enter Try.func127, Try.ntmps127
    go_wp2_with fail
    refine (specSetOk_any v a 256 _ hv).mono ?_
    rintro e w' ⟨rfl, q, rfl⟩
    go_wp2
    go_ret
    exact ⟨rfl, q, rfl⟩

def MeetOf (a b : List Int) : List Int := if bothOkB a b = true then meetL a b else []
set_option maxHeartbeats 800000 in
theorem specMeetOf_any (v u : Value) (a b : List Int) (w : World) (hv : Ints w v a) (hu : Ints w u b) (hla : a.length ≤ 1099511627776) : Calls Try.prog 70 #[v, u] w (RetInts w (MeetOf a b)) := by
  obtain ⟨ho, hb⟩ := new_ints w
  have hv0 := hv.kept (Kept.of hb)
  have hu0 := hu.kept (Kept.of hb)
  by_cases h : bothOkB a b = true
  · have he : MeetOf a b = meetL a b := if_pos h
    rw [he]
    clear he
    go_enter Try.func70, Try.ntmps70
    go_wp2_with fail
    refine (l2Both_any v u a b _ hv0 hu0).mono ?_
    rintro e w' ⟨rfl, q, rfl⟩
    obtain ⟨ho, hb⟩ := new_ints_drewN w q
    generalize (w.alloc (.cells #[] 2)).drewN q = w0 at *
    clear hv0 hu0
    have hv1 := hv
    obtain ⟨A, c, rfl, hlc, hcm, hA⟩ := hv
    clear hA
    go_wp2
    go_loopw [5, 6] (fun v i wr => ∃ k : Nat, k ≤ a.length ∧ i = .int .i64 k ∧ OwnInts wr w.heap.size v ((a.take k).filter fun x => hasB b x) ∧ Below w.heap.size w wr) (fun _ i _ => a.length - (intOf i).toNat)
    case atStart => exact ⟨0, Nat.zero_le _, rfl, ho, hb⟩
    case round =>
      obtain ⟨k, hk, rfl, hown, hbw⟩ := hrel
      by_cases hlt : k < a.length
      · obtain ⟨a1, rfl, hc⟩ := (SlF.kept hv1 (Kept.of hbw)).at_ hlt
        have hln : ((a.take k).filter fun x => hasB b x).length ≤ 1099511627776 := Nat.le_trans length_filter_take hla
        have hft := filter_take hlt (fun x => hasB b x)
        have Hft := Lib.hid hft
        clear hft
        by_cases g : hasB b (ix a k) = true
        all_goals
          try rw [Bool.not_eq_true] at g
          go_wp2_with (first | (go_at_call 111; refine (l1Has_any u b (ix a k) _ (hu.kept (Kept.of hbw))).mono ?_; rintro e w' ⟨rfl, hw⟩; subst w') | (at_builtin; refine append_int _ rfl (.tmp 25) (.tmp 30) rfl w.heap.size u5 ((a.take k).filter fun x => hasB b x) rfl hown _ rfl (hln) hbw.size ?_; intro v1 w1 ho1 hb1 hg1 hl1))
          have hft := Hft.out
          simp only [g, Bool.not_true, Bool.not_false, if_true, if_false, Bool.false_eq_true, List.append_nil] at hft
          first
            | exact ⟨⟨k + 1, by omega, by go_num, by rw [hft]; exact ho1, hbw.trans hb1⟩, by simp [intOf]; omega⟩
            | exact ⟨⟨k + 1, by omega, by go_num, by rw [hft]; exact hown, hbw⟩, by simp [intOf]; omega⟩
      · obtain rfl : k = a.length := by omega
        go_wp2
        go_ret
        rw [List.take_length] at hown
        exact .mk' hown hbw
  · have he : MeetOf a b = [] := if_neg h
    rw [he]
    clear he
    rw [Bool.not_eq_true] at h
    go_enter Try.func70, Try.ntmps70
    go_wp2_with fail
    refine (l2Both_any v u a b _ hv0 hu0).mono ?_
    rintro e w' ⟨rfl, q, rfl⟩
    go_wp2
    go_ret
    exact .mk' (new_ints_drewN w q).1 (new_ints_drewN w q).2

def LessOf (a b : List Int) : List Int := if bothOkB a b = true then lessL a b else []
set_option maxHeartbeats 800000 in
theorem specLessOf_any (v u : Value) (a b : List Int) (w : World) (hv : Ints w v a) (hu : Ints w u b) (hla : a.length ≤ 1099511627776) : Calls Try.prog 128 #[v, u] w (RetInts w (LessOf a b)) := by
  obtain ⟨ho, hb⟩ := new_ints w
  have hv0 := hv.kept (Kept.of hb)
  have hu0 := hu.kept (Kept.of hb)
  by_cases h : bothOkB a b = true
  · have he : LessOf a b = lessL a b := if_pos h
    rw [he]
    clear he
    go_enter Try.func128, Try.ntmps128
    go_wp2_with fail
    refine (l2Both_any v u a b _ hv0 hu0).mono ?_
    rintro e w' ⟨rfl, q, rfl⟩
    obtain ⟨ho, hb⟩ := new_ints_drewN w q
    generalize (w.alloc (.cells #[] 2)).drewN q = w0 at *
    clear hv0 hu0
    have hv1 := hv
    obtain ⟨A, c, rfl, hlc, hcm, hA⟩ := hv
    clear hA
    go_wp2
    go_loopw [5, 6] (fun v i wr => ∃ k : Nat, k ≤ a.length ∧ i = .int .i64 k ∧ OwnInts wr w.heap.size v ((a.take k).filter fun x => !hasB b x) ∧ Below w.heap.size w wr) (fun _ i _ => a.length - (intOf i).toNat)
    case atStart => exact ⟨0, Nat.zero_le _, rfl, ho, hb⟩
    case round =>
      obtain ⟨k, hk, rfl, hown, hbw⟩ := hrel
      by_cases hlt : k < a.length
      · obtain ⟨a1, rfl, hc⟩ := (SlF.kept hv1 (Kept.of hbw)).at_ hlt
        have hln : ((a.take k).filter fun x => !hasB b x).length ≤ 1099511627776 := Nat.le_trans length_filter_take hla
        have hft := filter_take hlt (fun x => !hasB b x)
        have Hft := Lib.hid hft
        clear hft
        by_cases g : hasB b (ix a k) = true
        all_goals
          try rw [Bool.not_eq_true] at g
          go_wp2_with (first | (go_at_call 111; refine (l1Has_any u b (ix a k) _ (hu.kept (Kept.of hbw))).mono ?_; rintro e w' ⟨rfl, hw⟩; subst w') | (at_builtin; refine append_int _ rfl (.tmp 26) (.tmp 31) rfl w.heap.size u5 ((a.take k).filter fun x => !hasB b x) rfl hown _ rfl (hln) hbw.size ?_; intro v1 w1 ho1 hb1 hg1 hl1))
          have hft := Hft.out
          simp only [g, Bool.not_true, Bool.not_false, if_true, if_false, Bool.false_eq_true, List.append_nil] at hft
          first
            | exact ⟨⟨k + 1, by omega, by go_num, by rw [hft]; exact ho1, hbw.trans hb1⟩, by simp [intOf]; omega⟩
            | exact ⟨⟨k + 1, by omega, by go_num, by rw [hft]; exact hown, hbw⟩, by simp [intOf]; omega⟩
      · obtain rfl : k = a.length := by omega
        go_wp2
        go_ret
        rw [List.take_length] at hown
        exact .mk' hown hbw
  · have he : LessOf a b = [] := if_neg h
    rw [he]
    clear he
    rw [Bool.not_eq_true] at h
    go_enter Try.func128, Try.ntmps128
    go_wp2_with fail
    refine (l2Both_any v u a b _ hv0 hu0).mono ?_
    rintro e w' ⟨rfl, q, rfl⟩
    go_wp2
    go_ret
    exact .mk' (new_ints_drewN w q).1 (new_ints_drewN w q).2

set_option maxHeartbeats 800000 in
theorem lessOf_any (v u : Value) (a b : List Int) (w : World) (hv : Ints w v a) (hu : Ints w u b) (hr : Rising b) (hlb : b.length ≤ 1099511627776) (hla : a.length ≤ 1099511627776) : Calls Try.prog 109 #[v, u] w (RetInts w (lessL a b)) := by
  obtain ⟨ho, hb⟩ := new_ints w
  have hv1 := hv
  obtain ⟨A, c, rfl, hlc, hcm, hA⟩ := hv
  clear hA
  · go_enter Try.func109, Try.ntmps109
    go_wp2
    generalize w.alloc (.cells #[] 2) = w0 at *
    go_loopw [5, 13] (fun v i wr => ∃ k : Nat, k ≤ a.length ∧ i = .int .i64 k ∧ OwnInts wr w.heap.size v ((a.take k).filter fun x => !hasB b x) ∧ Below w.heap.size w wr) (fun _ i _ => a.length - (intOf i).toNat)
    case atStart => exact ⟨0, Nat.zero_le _, rfl, ho, hb⟩
    case round =>
      obtain ⟨k, hk, rfl, hown, hbw⟩ := hrel
      by_cases hlt : k < a.length
      · obtain ⟨a1, rfl, hc⟩ := (SlF.kept hv1 (Kept.of hbw)).at_ hlt
        have hln : ((a.take k).filter fun x => !hasB b x).length ≤ 1099511627776 := Nat.le_trans length_filter_take hla
        have hft := filter_take hlt (fun x => !hasB b x)
        have Hft := Lib.hid hft
        clear hft
        by_cases g : hasB b (ix a k) = true
        all_goals
          try rw [Bool.not_eq_true] at g
          go_wp2_with (first | (go_at_call 149; refine (BinarySearch_any u b (ix a k) _ (hu.kept (Kept.of hbw)) hr hlb).mono ?_; rintro e w2 ⟨i, rfl, hw⟩; subst w2) | (at_builtin; refine append_int _ rfl (.tmp 25) (.tmp 27) rfl w.heap.size u5 ((a.take k).filter fun x => !hasB b x) rfl hown _ rfl (hln) hbw.size ?_; intro v1 w1 ho1 hb1 hg1 hl1))
          have hft := Hft.out
          simp only [g, Bool.not_true, Bool.not_false, if_true, if_false, Bool.false_eq_true, List.append_nil] at hft
          first
            | exact ⟨⟨k + 1, by omega, by go_num, by rw [hft]; exact ho1, hbw.trans hb1⟩, by simp [intOf]; omega⟩
            | exact ⟨⟨k + 1, by omega, by go_num, by rw [hft]; exact hown, hbw⟩, by simp [intOf]; omega⟩
      · obtain rfl : k = a.length := by omega
        go_wp2
        go_ret
        rw [List.take_length] at hown
        exact .mk' hown hbw

set_option maxHeartbeats 800000 in
theorem implMeetOf_any (v u : Value) (a b : List Int) (w : World) (hv : Ints w v a) (hu : Ints w u b) (hla : a.length ≤ 1099511627776) : Calls Try.prog 53 #[v, u] w (RetInts w (MeetOf a b)) := by
  obtain ⟨ho, hb⟩ := new_ints w
  have hv1 := hv
  obtain ⟨A, c, rfl, hlc, hcm, hA⟩ := hv
  clear hA
  by_cases h : bothOkB a b = true
  · have he : MeetOf a b = meetL a b := if_pos h
    rw [he]
    clear he
    have h1 : isSetB a 256 = true := by simp [bothOkB] at h; exact h.1
    have h2 : isSetB b 256 = true := by simp [bothOkB] at h; exact h.2
    clear h
    go_enter Try.func53, Try.ntmps53
    go_wp2_with fail
    refine (isSet_any _ a 256 _ hv1).mono ?_
    rintro e w' ⟨rfl, hw⟩
    subst w'
    go_wp2_with fail
    refine (isSet_any _ b 256 _ hu).mono ?_
    rintro e w' ⟨rfl, hw⟩
    subst w'
    go_wp2
    clear h1 h2
    generalize w.alloc (.cells #[] 2) = w0 at *
    go_loopw [5, 19] (fun v i wr => ∃ k : Nat, k ≤ a.length ∧ i = .int .i64 k ∧ OwnInts wr w.heap.size v ((a.take k).filter fun x => hasB b x) ∧ Below w.heap.size w wr) (fun _ i _ => a.length - (intOf i).toNat)
    case atStart => exact ⟨0, Nat.zero_le _, rfl, ho, hb⟩
    case round =>
      obtain ⟨k, hk, rfl, hown, hbw⟩ := hrel
      by_cases hlt : k < a.length
      · obtain ⟨a1, rfl, hc⟩ := (SlF.kept hv1 (Kept.of hbw)).at_ hlt
        have hln : ((a.take k).filter fun x => hasB b x).length ≤ 1099511627776 := Nat.le_trans length_filter_take hla
        have hft := filter_take hlt (fun x => hasB b x)
        have Hft := Lib.hid hft
        clear hft
        by_cases g : hasB b (ix a k) = true
        all_goals
          try rw [Bool.not_eq_true] at g
          go_wp2_with (first | (go_at_call 81; refine (Contains_any u b (ix a k) _ (hu.kept (Kept.of hbw))).mono ?_; rintro e w2 ⟨rfl, hw⟩; subst w2) | (at_builtin; refine append_int _ rfl (.tmp 26) (.tmp 28) rfl w.heap.size u5 ((a.take k).filter fun x => hasB b x) rfl hown _ rfl (hln) hbw.size ?_; intro v1 w1 ho1 hb1 hg1 hl1))
          have hft := Hft.out
          simp only [g, Bool.not_true, Bool.not_false, if_true, if_false, Bool.false_eq_true, List.append_nil] at hft
          first
            | exact ⟨⟨k + 1, by omega, by go_num, by rw [hft]; exact ho1, hbw.trans hb1⟩, by simp [intOf]; omega⟩
            | exact ⟨⟨k + 1, by omega, by go_num, by rw [hft]; exact hown, hbw⟩, by simp [intOf]; omega⟩
      · obtain rfl : k = a.length := by omega
        go_wp2
        go_ret
        rw [List.take_length] at hown
        exact .mk' hown hbw
  · have he : MeetOf a b = [] := if_neg h
    rw [he]
    clear he
    by_cases h1 : isSetB a 256 = true
    · have h2 : isSetB b 256 = false := by simpa [bothOkB, h1] using h
      clear h
      go_enter Try.func53, Try.ntmps53
      go_wp2_with fail
      refine (isSet_any _ a 256 _ hv1).mono ?_
      rintro e w' ⟨rfl, hw⟩
      subst w'
      go_wp2_with fail
      refine (isSet_any _ b 256 _ hu).mono ?_
      rintro e w' ⟨rfl, hw⟩
      subst w'
      go_wp2
      go_ret
      exact .mk' (OwnInts.nil _ _) (Below.refl _ _)
    · rw [Bool.not_eq_true] at h1
      clear h
      go_enter Try.func53, Try.ntmps53
      go_wp2_with fail
      refine (isSet_any _ a 256 _ hv1).mono ?_
      rintro e w' ⟨rfl, hw⟩
      subst w'
      go_wp2
      go_ret
      exact .mk' (OwnInts.nil _ _) (Below.refl _ _)

theorem MeetOf_len (a b : List Int) : (MeetOf a b).length ≤ a.length := by
  unfold MeetOf meetL; split
  · exact List.length_filter_le _ _
  · simp
theorem LessOf_len (a b : List Int) : (LessOf a b).length ≤ a.length := by
  unfold LessOf lessL; split
  · exact List.length_filter_le _ _
  · simp
theorem allL_len (n : Int) : (allL n).length ≤ 256 := by
  unfold allL; split
  · rw [length_upFrom]; omega
  · simp

end Go.Proofs.Ytpnophmanpfejaa

/- The walks of EscapesIn, TrapIn and what they call. Conditions: those of the callers. -/
namespace Go.Proofs.Ytpnophmanpfejaa
set_option linter.unusedSimpArgs false
set_option linter.unusedVariables false
open Go.RowKit

theorem arena_open {w : World} {v : Value} {a : ArenaD} (hv : IsArena w v a) : ∃ o n, v = .agg #[o, n] ∧ Below w.heap.size w (w.alloc (.cells #[o, n] 30)) ∧ Arr (w.alloc (.cells #[o, n] 30)) w.heap.size 30 [o, n] := by
  obtain ⟨o, n, h, h1, h2, _⟩ := arena_box hv
  exact ⟨o, n, h, h1, h2⟩
theorem filter_whole (l : List Int) (f : Int → Bool) : (l.take l.length).filter f = l.filter f := by rw [List.take_length]

end Go.Proofs.Ytpnophmanpfejaa

/- Small lemmas for the laws' own walks. -/
namespace Go.Proofs.Ytpnophmanpfejaa
set_option linter.unusedSimpArgs false
set_option linter.unusedVariables false
open Go.RowKit

theorem toArena_B (v : Value) (a : ArenaD) (w : World) (hv : IsArena w v a) (h1 : bulkA a ≤ 4194304) :
    Calls Try.prog 43 #[v] w fun e w' => ∃ u, e = .returned u ∧ OA w' w.heap.size w'.heap.size u a ∧ Below w.heap.size w w' := toArena_any v a w hv h1
theorem eqArena_B (v u : Value) (a b : ArenaD) (w : World) (hv : IsArena w v a) (hu : IsArena w u b) :
    Calls Try.prog 46 #[v, u] w fun e w' => e = .returned (.bool (decide (a = b))) ∧ Below w.heap.size w w' := eqArena_any v u a b w hv hu
theorem OA.form {w : World} {B C : Nat} {v : Value} {a : ArenaD} (h : OA w B C v a) : ∃ A c A' c', v = .agg #[.slice A a.owner.length c, .slice A' a.next.length c'] := by
  obtain ⟨o, n, vs, rfl, h1, h2, _⟩ := h
  obtain ⟨A, c, rfl, _⟩ := h1.ints.form
  obtain ⟨A', c', rfl⟩ := h2.form
  exact ⟨A, c, A', c', rfl⟩
theorem IsArena.open {w : World} {v : Value} {a : ArenaD} (h : IsArena w v a) : ∃ o n, v = .agg #[o, n] := by
  obtain ⟨o, n, h, _⟩ := h; exact ⟨o, n, h⟩
theorem IsTwo.open {w : World} {v : Value} {a : TwoD} (h : IsTwo w v a) : ∃ o n, v = .agg #[o, n] := by
  obtain ⟨o, n, h, _⟩ := h; exact ⟨o, n, h⟩
theorem Arr.only {w w' : World} {B C g : Nat} {e : TypeId} {xs : List Value} (h : Arr w g e xs) (ho : Only B C w w') (hd : g < B ∨ C ≤ g) : Arr w' g e xs := (ho.block g h.lt hd).trans h
end Go.Proofs.Ytpnophmanpfejaa

/- Parity games: read, and made by a call of its own; the walks of the laws' helpers on arenas and games that write or ask. Conditions: the lengths. -/
namespace Go.Proofs.Ytpnophmanpfejaa
set_option linter.unusedSimpArgs false
set_option linter.unusedVariables false
open Go.RowKit

def markA (k0 : Int) (a : ArenaD) : ArenaD := ⟨upFrom k0 a.owner.length, markR (k0 + (a.owner.length : Nat)) a.next⟩

theorem Chg.trans {S : Nat → Prop} {a b c : World} (h : Chg S a b) (k : Chg S b c) : Chg S a c :=
  ⟨k.os.trans h.os, k.tape.trans h.tape, k.output.trans h.output, Nat.le_trans h.size k.size, fun i hi hne => (k.block i (Nat.lt_of_lt_of_le hi h.size) hne).trans (h.block i hi hne)⟩
theorem Chg.mono {S T : Nat → Prop} {a b : World} (h : Chg S a b) (hST : ∀ k, S k → T k) : Chg T a b := ⟨h.os, h.tape, h.output, h.size, fun k hk hT => h.block k hk fun hS => hT (hST k hS)⟩
theorem Chg.drew {S : Nat → Prop} {a b : World} (h : Chg S a b) : Chg S a b.drew := ⟨h.os, h.tape, h.output, h.size, h.block⟩
theorem Chg.of_grown {a b : World} {row : Option Nat} (h : a.grownBy b row) : Chg (fun k => row = some k) a b :=
  ⟨h.os, h.tape, h.output, h.size, fun k hk hne => h.block k hk fun e => hne e.symm⟩
theorem Chg.of_below {S : Nat → Prop} {a b : World} (h : Below a.heap.size a b) : Chg S a b := ⟨h.os, h.tape, h.output, h.size, fun k hk _ => h.block k hk⟩

theorem RowsV.chg {w w' : World} {B C : Nat} {v : Value} {vs : List Value} {ll : List (List Int)} (h : RowsV w B C v vs ll) {S : Nat → Prop} (hc : Chg S w w') (h1 : ∀ b, v.ownBlock = some b → ¬ S b) (h2 : ∀ k, k < ll.length → ∀ b, (vx vs k).ownBlock = some b → ¬ S b) : RowsV w' B C v vs ll :=
  h.heap (fun b hb => hc.block b (h.own.lt b hb).2 (h1 b hb)) fun k hk b hb => hc.block b ((h.row k hk).1.lt b hb).2 (h2 k hk b hb)
theorem OI.chg {w w' : World} {B C : Nat} {v : Value} {l : List Int} (h : OI w B C v l) {S : Nat → Prop} (hc : Chg S w w') (h1 : ∀ b, v.ownBlock = some b → ¬ S b) : OI w' B C v l :=
  h.heap' fun b hb => hc.block b (h.1.lt b hb).2 (h1 b hb)

/-- .. of bools. -/
theorem OB.chg {w w' : World} {B C : Nat} {v : Value} {l : List Bool} (h : OB w B C v l) {S : Nat → Prop} (hc : Chg S w w') (h1 : ∀ b, v.ownBlock = some b → ¬ S b) : OB w' B C v l := by
  refine ⟨⟨h.1.1, ?_⟩, h.2⟩
  rcases h.1.2 with hn | ⟨g, cap, cur, rfl, hg, hh, rest⟩
  · exact .inl hn
  · exact .inr ⟨g, cap, cur, rfl, hg, (hc.block g (Array.getElem?_eq_some_iff.1 hh).1 (h1 g rfl)).trans hh, rest⟩
/-- The blocks of an arena's numbers. -/
def footA (o : Value) (vs : List Value) (n : Nat) (b : Nat) : Prop := o.ownBlock = some b ∨ ∃ j, j < n ∧ (vx vs j).ownBlock = some b
set_option maxHeartbeats 400000 in
theorem markArena_any (o n : Value) (vs : List Value) (a : ArenaD) (k0 : Int) (B C : Nat) (w : World) (ho : OI w B C o a.owner) (hn : RowsV w B C n vs a.next) (hne : ∀ b, o.ownBlock = some b → ∀ k, k < a.next.length → (vx vs k).ownBlock ≠ some b) (h0 : 0 ≤ k0) (h1 : k0 + sizeA a ≤ 4611686018427387904) :
    Calls Try.prog 47 #[.agg #[o, n], .int .i64 k0] w fun e w' => e = .returned (.int .i64 (k0 + sizeA a)) ∧ OI w' B C o (upFrom k0 a.owner.length) ∧ RowsV w' B C n vs (markR (k0 + (a.owner.length : Nat)) a.next) ∧ Chg (footA o vs a.next.length) w w' := by
  unfold sizeA at *
  have hb : Below w.heap.size w (w.alloc (.cells #[o, n] 30)) := (Below.refl _ _).alloc (Nat.le_refl _) _
  have hX := Arr.new w 30 [o, n]
  have hol := fun b hb => (ho.1.lt b hb).2
  have hnl := fun k hk b hb => ((hn.row k hk).1.lt b hb).2
  replace ho := ho.below hb
  replace hn := hn.kept (Only.of_below (B := C) (C := B) hb) (.inl (Nat.le_refl _))
  have hxl := hX.lt
  go_enter Try.func47, Try.ntmps47
  go_wp2_with fail
  have hch0 : Chg (footA o vs a.next.length) w (w.alloc (.cells #[o, n] 30)) := Chg.of_below hb
  generalize w.alloc (.cells #[o, n] 30) = W at *
  clear hb
  refine (markInt64S_any o a.owner k0 B _ ho.1 h0 (by omega)).mono ?_
  rintro e w1 ⟨rfl, ho1, hg1⟩
  have hc1 := Chg.of_grown hg1
  have hX1 : Arr w1 w.heap.size 30 [o, n] := (hc1.block _ hxl fun e => by have := hol _ e; omega).trans hX
  have hx1 := hX1.c1
  have hn1 := hn.chg hc1 (fun b hb e => by exact absurd hb (owns_ne ho.1 hn.own (by decide) e)) (fun k hk b hb e => hne b e k hk hb)
  have hsum : k0 + (a.owner.length : Nat) + (sizeR a.next : Nat) = k0 + ((a.owner.length + sizeR a.next : Nat) : Int) := by omega
  have Hs := Lib.hid hsum
  clear hsum
  go_wp2_with fail
  refine (markInt64SS_any n vs a.next (k0 + (a.owner.length : Nat)) B C _ hn1 (by omega) (by omega)).mono ?_
  rintro e w2 ⟨rfl, hn2, hc2⟩
  go_wp2
  go_ret
  refine ⟨by rw [← Hs.out]; rfl, ?_, hn2, ?_⟩
  · exact OI.chg ⟨ho1, ho.2⟩ hc2 fun b hb ⟨j, hj, e⟩ => hne b hb j hj e
  · exact (hch0.trans (hc1.mono fun k hk => .inl hk)).trans (hc2.mono fun k hk => .inr hk)
theorem markArena_O (v : Value) (a : ArenaD) (k0 : Int) (B C : Nat) (w : World) (hv : OA w B C v a) (h0 : 0 ≤ k0) (h1 : k0 + sizeA a ≤ 4611686018427387904) :
    Calls Try.prog 47 #[v, .int .i64 k0] w fun e w' => e = .returned (.int .i64 (k0 + sizeA a)) ∧ OA w' B C v (markA k0 a) ∧ Only B C w w' := by
  obtain ⟨o, n, vs, rfl, ho, hn, hne⟩ := hv
  refine (markArena_any o n vs a k0 B C w ho hn hne h0 h1).mono fun e w' ⟨h2, h3, h4, h5⟩ => ⟨h2, ⟨o, n, vs, rfl, h3, h4, fun b hb k hk => hne b hb k (by simpa [markA] using hk)⟩, h5.only fun k hk => ?_⟩
  rcases hk with hk | ⟨j, hj, hk⟩
  · exact ⟨(ho.1.lt k hk).1, ho.2 k hk⟩
  · exact ⟨((hn.row j hj).1.lt k hk).1, (hn.row j hj).2 k hk⟩
set_option maxHeartbeats 400000 in
theorem heldArena_B (v : Value) (a : ArenaD) (k0 : Int) (w : World) (hv : IsArena w v (markA k0 a)) (h0 : 0 ≤ k0) (h1 : k0 + sizeA a ≤ 4611686018427387904) :
    Calls Try.prog 83 #[v, .int .i64 k0] w fun e w' => e = .returned (.int .i64 (k0 + sizeA a)) ∧ Below w.heap.size w w' := by
  obtain ⟨o, n, rfl, ho, hn⟩ := hv
  unfold sizeA at *
  have hb : Below w.heap.size w (w.alloc (.cells #[o, n] 30)) := (Below.refl _ _).alloc (Nat.le_refl _) _
  have hX := Arr.new w 30 [o, n]
  have hc1 := heldInt64S_any o a.owner.length k0 _ (ho.kept (Kept.of hb)) h0 (by omega)
  have hc2 := fun q => heldInt64SS_any n a.next (k0 + (a.owner.length : Nat)) ((w.alloc (.cells #[o, n] 30)).drewN q) ((hn.kept (Kept.of hb)).kept (Kept.drewN _ _)) (by omega) (by omega)
  have hp1 : ¬ k0 + ((a.owner.length : Nat) : Int) < 0 := by omega
  have hp2 : ¬ k0 + ((a.owner.length : Nat) : Int) + ((sizeR a.next : Nat) : Int) < 0 := by omega
  have hsum : k0 + (a.owner.length : Nat) + (sizeR a.next : Nat) = k0 + ((a.owner.length + sizeR a.next : Nat) : Int) := by omega
  have Hs := Lib.hid hsum
  have H1 := Lib.hid hc1
  have H2 := Lib.hid hc2
  clear hsum hc1 hc2
  go_enter Try.func83, Try.ntmps83
  go_wp2_with fail
  refine H1.out.mono ?_
  rintro e w' ⟨rfl, q, rfl⟩
  go_wp2_with fail
  refine (H2.out q).mono ?_
  rintro e w' ⟨rfl, q2, rfl⟩
  go_wp2
  go_ret
  exact ⟨by rw [← Hs.out]; rfl, by simpa using below_drewN hb _⟩

/-- An arena whose blocks have not turned. -/
theorem OA.heapFrom {w w' : World} {B C : Nat} {v : Value} {a : ArenaD} (h : OA w B C v a) (hh : ∀ b, B ≤ b → w'.heap[b]? = w.heap[b]?) : OA w' B C v a := by
  obtain ⟨o, n, vs, rfl, h1, h2, h3⟩ := h
  exact ⟨o, n, vs, rfl, h1.heap' fun b hb => hh b (h1.1.lt b hb).1, h2.heap (fun b hb => hh b (h2.own.lt b hb).1) (fun k hk b hb => hh b ((h2.row k hk).1.lt b hb).1), h3⟩

structure ParityD where
  arena : ArenaD
  prio : List Int
  deriving DecidableEq
/-- v is a game that reads as g. -/
def IsParity (w : World) (v : Value) (g : ParityD) : Prop := ∃ o n p, v = .agg #[o, n, p] ∧ Ints w o g.arena.owner ∧ Rows w n g.arena.next ∧ Ints w p g.prio
theorem IsParity.kept {w w' : World} {v : Value} {g : ParityD} (h : IsParity w v g) (hk : Kept w w') : IsParity w' v g := by
  obtain ⟨o, n, p, rfl, h1, h2, h3⟩ := h
  exact ⟨o, n, p, rfl, h1.kept hk, h2.kept hk, h3.kept hk⟩
theorem IsParity.open {w : World} {v : Value} {g : ParityD} (h : IsParity w v g) : ∃ o n p, v = .agg #[o, n, p] := by
  obtain ⟨o, n, p, h, _⟩ := h; exact ⟨o, n, p, h⟩
theorem IsParity.parts {w : World} {o n p : Value} {g : ParityD} (h : IsParity w (.agg #[o, n, p]) g) : IsArena w (.agg #[o, n]) g.arena ∧ Ints w p g.prio := by
  obtain ⟨o', n', p', he, h1, h2, h3⟩ := h
  simp only [Value.agg.injEq, Array.mk.injEq, List.cons.injEq, and_true] at he
  obtain ⟨rfl, rfl, rfl⟩ := he
  exact ⟨⟨_, _, rfl, h1, h2⟩, h3⟩
theorem IsParity.mk' {w : World} {o n p : Value} {g : ParityD} (h1 : IsArena w (.agg #[o, n]) g.arena) (h2 : Ints w p g.prio) : IsParity w (.agg #[o, n, p]) g := by
  obtain ⟨h3, h4⟩ := h1.parts
  exact ⟨o, n, p, rfl, h3, h4, h2⟩
/-- .. of a call's own, from block B on and below C. -/
def OP (w : World) (B C : Nat) (v : Value) (g : ParityD) : Prop :=
  ∃ o n p vs, v = .agg #[o, n, p] ∧ OI w B C o g.arena.owner ∧ RowsV w B C n vs g.arena.next ∧ OI w B C p g.prio ∧ (∀ b, o.ownBlock = some b → ∀ k, k < g.arena.next.length → (vx vs k).ownBlock ≠ some b) ∧ (∀ b, p.ownBlock = some b → o.ownBlock ≠ some b) ∧ (∀ b, p.ownBlock = some b → ∀ k, k < g.arena.next.length → (vx vs k).ownBlock ≠ some b)
theorem OP.parity {w : World} {B C : Nat} {v : Value} {g : ParityD} (h : OP w B C v g) : IsParity w v g := by
  obtain ⟨o, n, p, vs, rfl, h1, h2, h3, _⟩ := h
  exact ⟨o, n, p, rfl, h1.ints, h2.rows, h3.ints⟩
theorem OP.kept {w w' : World} {B C B' C' : Nat} {v : Value} {g : ParityD} (h : OP w B C v g) (ho : Only B' C' w w') (hd : C ≤ B' ∨ C' ≤ B) : OP w' B C v g := by
  obtain ⟨o, n, p, vs, rfl, h1, h2, h3, h4, h5, h6⟩ := h
  exact ⟨o, n, p, vs, rfl, h1.kept ho hd, h2.kept ho hd, h3.kept ho hd, h4, h5, h6⟩
theorem OP.below {w w' : World} {B C : Nat} {v : Value} {g : ParityD} (h : OP w B C v g) (hb : Below w.heap.size w w') : OP w' B C v g := h.kept (Only.of_below (B := C) (C := B) hb) (.inl (Nat.le_refl _))
theorem OP.mono {w : World} {B C B' C' : Nat} {v : Value} {g : ParityD} (h : OP w B C v g) (hB : B' ≤ B) (hC : C ≤ C') : OP w B' C' v g := by
  obtain ⟨o, n, p, vs, rfl, h1, h2, h3, h4, h5, h6⟩ := h
  exact ⟨o, n, p, vs, rfl, h1.mono hB hC, h2.mono hB hC, h3.mono hB hC, h4, h5, h6⟩
theorem OP.form {w : World} {B C : Nat} {v : Value} {g : ParityD} (h : OP w B C v g) : ∃ A c A' c' D d, v = .agg #[.slice A g.arena.owner.length c, .slice A' g.arena.next.length c', .slice D g.prio.length d] := by
  obtain ⟨o, n, p, vs, rfl, h1, h2, h3, _⟩ := h
  obtain ⟨A, c, rfl, _⟩ := h1.ints.form
  obtain ⟨A', c', rfl⟩ := h2.form
  obtain ⟨D, d, rfl, _⟩ := h3.ints.form
  exact ⟨A, c, A', c', D, d, rfl⟩
/-- An arena of one call and a row of a later one make a game. -/
theorem OP.join {w : World} {B C M : Nat} {o n p : Value} {g : ParityD} (h1 : OA w B M (.agg #[o, n]) g.arena) (h2 : OI w M C p g.prio) (hB : B ≤ M) (hC : M ≤ C) : OP w B C (.agg #[o, n, p]) g := by
  obtain ⟨o', n', vs, he, h3, h4, h5⟩ := h1
  simp only [Value.agg.injEq, Array.mk.injEq, List.cons.injEq, and_true] at he
  obtain ⟨rfl, rfl⟩ := he
  refine ⟨o, n, p, vs, rfl, h3.mono (Nat.le_refl _) hC, h4.mono (Nat.le_refl _) hC, h2.mono hB (Nat.le_refl _), h5, fun b hb e => ?_, fun b hb k hk e => ?_⟩
  · have := (h2.1.lt b hb).1; have := h3.2 b e; omega
  · have := (h2.1.lt b hb).1; have := (h4.row k hk).2 b e; omega
def sizeP (g : ParityD) : Nat := sizeA g.arena + g.prio.length
def bulkP (g : ParityD) : Nat := bulkA g.arena + g.prio.length
def markP (k0 : Int) (g : ParityD) : ParityD := ⟨markA k0 g.arena, upFrom (k0 + (sizeA g.arena : Nat)) g.prio.length⟩

theorem sizeA_le (a : ArenaD) : sizeA a ≤ bulkA a := by unfold sizeA bulkA; omega
theorem sizeP_le (g : ParityD) : sizeP g ≤ bulkP g := by have := sizeA_le g.arena; unfold sizeP bulkP; omega
set_option maxHeartbeats 400000 in
theorem szParity_any (v : Value) (g : ParityD) (left : Int) (w : World) (hv : IsParity w v g) (h0 : 0 ≤ left) (h1 : left ≤ 1048576) :
    Calls Try.prog 15 #[v, .int .i64 left] w fun e w' => e = .returned (.int .i64 (szLeft (bulkP g) left)) ∧ Below w.heap.size w w' := by
  obtain ⟨o, n, p, rfl⟩ := hv.open
  obtain ⟨ha, hp⟩ := hv.parts
  have hb : Below w.heap.size w (w.alloc (.cells #[o, n, p] 27)) := (Below.refl _ _).alloc (Nat.le_refl _) _
  have hX := Arr.new w 27 [o, n, p]
  have hc1 := szArena_any (.agg #[o, n]) g.arena left _ (ha.kept (Kept.of hb)) h0 h1
  have hxl := hX.lt
  by_cases g1 : (bulkA g.arena : Int) ≤ left
  · rw [szLeft_pos g1] at hc1
    rw [show bulkP g = bulkA g.arena + g.prio.length from rfl, szLeft_add g1]
    have hpos1 : ¬ left - ((bulkA g.arena : Nat) : Int) < 0 := by omega
    have hc2 := fun W hW => szInt64S_any p g.prio (left - (bulkA g.arena : Nat)) W (hp.kept hW) (by omega) (by omega)
    have H1 := Lib.hid hc1
    have H2 := Lib.hid hc2
    clear hc1 hc2
    have hpos2 : ∃ r2 : Int, szLeft g.prio.length (left - ((bulkA g.arena : Nat) : Int)) = r2 := ⟨_, rfl⟩
    obtain ⟨r2, hr2⟩ := hpos2
    rw [hr2]
    have hneg : r2 < 0 → r2 = -1 := fun h => by
      rw [← hr2] at h ⊢
      unfold szLeft at h ⊢
      split
      · rename_i hh; rw [if_pos hh] at h; omega
      · rfl
    have Hneg := Lib.hid hneg
    have Hr2 := Lib.hid hr2
    clear hr2 hneg
    have H2' : Hid (∀ W, Kept w W → Calls Try.prog 71 #[p, .int .i64 (left - (bulkA g.arena : Nat))] W fun e w' => e = .returned (.int .i64 r2) ∧ w' = W) := by
      refine Lib.hid fun W hW => ?_
      have := H2.out W hW
      rwa [Hr2.out] at this
    clear H2 g1
    generalize left - ((bulkA g.arena : Nat) : Int) = r1 at *
    go_enter Try.func15, Try.ntmps15
    go_wp2_with fail
    generalize w.alloc (.cells #[o, n, p] 27) = W at *
    refine H1.out.mono ?_
    rintro e w1 ⟨rfl, hb1⟩
    have hX1 := hX.below hb1 hxl
    have hx2 := hX1.c2
    have hbw := Below.up hb hb1
    go_wp2_with fail
    refine (H2'.out _ (Kept.of hbw)).mono ?_
    rintro e w2 ⟨rfl, hw2⟩
    subst w2
    by_cases g2 : r2 < 0
    · go_wp2
      go_ret
      exact ⟨by rw [Hneg.out g2]; rfl, hbw⟩
    · go_wp2
      go_ret
      exact ⟨rfl, hbw⟩
  · rw [szLeft_neg g1] at hc1
    rw [show bulkP g = bulkA g.arena + g.prio.length from rfl, szLeft_none g1]
    have H1 := Lib.hid hc1
    clear hc1 g1
    go_enter Try.func15, Try.ntmps15
    go_wp2_with fail
    refine H1.out.mono ?_
    rintro e w' ⟨rfl, hb1⟩
    go_wp2
    go_ret
    exact ⟨rfl, Below.up hb hb1⟩
set_option maxHeartbeats 800000 in
theorem toParity_B (v : Value) (g : ParityD) (w : World) (hv : IsParity w v g) (h1 : bulkP g ≤ 4194304) :
    Calls Try.prog 17 #[v] w fun e w' => ∃ u, e = .returned u ∧ OP w' w.heap.size w'.heap.size u g ∧ Below w.heap.size w w' := by
  obtain ⟨o, n, p, rfl⟩ := hv.open
  obtain ⟨ha, hp⟩ := hv.parts
  unfold bulkP at h1
  go_enter Try.func17, Try.ntmps17
  go_wp2_with fail
  have hb : Below w.heap.size w (((w.alloc (.cells #[o, n, p] 27)).alloc (.cells #[.slice none 0 0, .slice none 0 0, .slice none 0 0] 32)).alloc (.cells #[.slice none 0 0, .slice none 0 0, .slice none 0 0] 32)) :=
    (((Below.refl _ _).alloc (Nat.le_refl _) _).alloc (by simp) _).alloc (by simp; omega) _
  have hA : Arr (((w.alloc (.cells #[o, n, p] 27)).alloc (.cells #[.slice none 0 0, .slice none 0 0, .slice none 0 0] 32)).alloc (.cells #[.slice none 0 0, .slice none 0 0, .slice none 0 0] 32)) w.heap.size 27 [o, n, p] :=
    ((Arr.new w _ [o, n, p]).alloc _).alloc _
  have hO : Arr (((w.alloc (.cells #[o, n, p] 27)).alloc (.cells #[.slice none 0 0, .slice none 0 0, .slice none 0 0] 32)).alloc (.cells #[.slice none 0 0, .slice none 0 0, .slice none 0 0] 32)) (w.heap.size + 1) 32 [.slice none 0 0, .slice none 0 0, .slice none 0 0] := by
    have := (Arr.new (w.alloc (.cells #[o, n, p] 27)) 32 [.slice none 0 0, .slice none 0 0, .slice none 0 0]).alloc (.cells #[.slice none 0 0, .slice none 0 0, .slice none 0 0] 32)
    simpa using this
  have hX : Arr (((w.alloc (.cells #[o, n, p] 27)).alloc (.cells #[.slice none 0 0, .slice none 0 0, .slice none 0 0] 32)).alloc (.cells #[.slice none 0 0, .slice none 0 0, .slice none 0 0] 32)) (w.heap.size + 1 + 1) 32 [.slice none 0 0, .slice none 0 0, .slice none 0 0] := by
    have := Arr.new ((w.alloc (.cells #[o, n, p] 27)).alloc (.cells #[.slice none 0 0, .slice none 0 0, .slice none 0 0] 32)) 32 [.slice none 0 0, .slice none 0 0, .slice none 0 0]
    simpa using this
  generalize ((w.alloc (.cells #[o, n, p] 27)).alloc (.cells #[.slice none 0 0, .slice none 0 0, .slice none 0 0] 32)).alloc (.cells #[.slice none 0 0, .slice none 0 0, .slice none 0 0] 32) = W at *
  refine (toArena_any (.agg #[o, n]) g.arena _ (ha.kept (Kept.of hb)) (by omega)).mono ?_
  rintro e w1 ⟨u1, rfl, ho1, hb1⟩
  obtain ⟨A1, c1, A2, c2, hu1⟩ := ho1.form
  subst hu1
  replace hA := hA.below hb1 hA.lt
  replace hO := hO.below hb1 hO.lt
  have hXl := hX.lt
  replace hX := hX.below hb1 hX.lt
  have hx0 := hX.c0
  have hx1 := hX.c1
  have hxf0 := hX.frozen 0
  have hxf1 := hX.frozen 1
  have ha2 := hA.c2
  have hs1 := hb1.size
  have hbw1 : Below w.heap.size w w1 := hb.trans (hb1.mono hb.size)
  go_wp2_with fail
  have hX2 := (hX.set_ 0 (.slice A1 g.arena.owner.length c1)).set_ 1 (.slice A2 g.arena.next.length c2)
  have hO2 := (hO.far (p := ⟨w.heap.size + 1 + 1, 0, none⟩) (by simp) (.slice A1 g.arena.owner.length c1)).far (p := ⟨w.heap.size + 1 + 1, 1, none⟩) (by simp) (.slice A2 g.arena.next.length c2)
  have hb2 := (hbw1.setCell (p := ⟨w.heap.size + 1 + 1, 0, none⟩) (by simp; omega) (.slice A1 g.arena.owner.length c1)).setCell (p := ⟨w.heap.size + 1 + 1, 1, none⟩) (by simp; omega) (.slice A2 g.arena.next.length c2)
  have hx2' : ∀ b, W.heap.size ≤ b → (((w1.setCell ⟨w.heap.size + 1 + 1, 0, none⟩ (.slice A1 g.arena.owner.length c1)).setCell ⟨w.heap.size + 1 + 1, 1, none⟩ (.slice A2 g.arena.next.length c2))).heap[b]? = w1.heap[b]? := fun b hb => by
    rw [Below.heap_setCell _ _ _ _ (by simp; omega), Below.heap_setCell _ _ _ _ (by simp; omega)]
  have ho2 := OA.heapFrom ho1 hx2'
  have hs2 : ((w1.setCell ⟨w.heap.size + 1 + 1, 0, none⟩ (.slice A1 g.arena.owner.length c1)).setCell ⟨w.heap.size + 1 + 1, 1, none⟩ (.slice A2 g.arena.next.length c2)).heap.size = w1.heap.size := by simp
  clear hX hO ho1 hx0 hx1 hxf0 hxf1 ha2 hA hx2'
  generalize (w1.setCell ⟨w.heap.size + 1 + 1, 0, none⟩ (.slice A1 g.arena.owner.length c1)).setCell ⟨w.heap.size + 1 + 1, 1, none⟩ (.slice A2 g.arena.next.length c2) = W2 at *
  refine (toInt64S_any p g.prio _ (hp.kept (Kept.of hb2)) (by omega)).mono ?_
  rintro e w3 ⟨u2, rfl, ho3, hb3⟩
  obtain ⟨A3, c3, rfl⟩ := ints_of_ret ho3
  replace hX2 := hX2.below hb3 hX2.lt
  replace hO2 := hO2.below hb3 hO2.lt
  have ha3 := ho2.below hb3
  have hbw3 := hb2.trans (hb3.mono hb2.size)
  have hs3 := hb3.size
  have hx0 := hX2.c0
  have hx1 := hX2.c1
  have hx2 := hX2.c2
  have hx2f := hX2.frozen 2
  have ho0 := hO2.c0
  have ho1 := hO2.c1
  have ho2 := hO2.c2
  have ho0f := hO2.frozen 0
  have ho1f := hO2.frozen 1
  have ho2f := hO2.frozen 2
  have Hs2 := Lib.hid hs2
  clear hs2
  go_wp2_with fail
  clear hx0 hx1 hx2 hx2f ho0 ho1 ho2 ho0f ho1f ho2f
  have hO5 := (((hO2.far (p := ⟨w.heap.size + 1 + 1, 2, none⟩) (by simp) (.slice A3 g.prio.length c3)).set_ 0 (.slice A1 g.arena.owner.length c1)).set_ 1 (.slice A2 g.arena.next.length c2)).set_ 2 (.slice A3 g.prio.length c3)
  have hbw5 := (((hbw3.setCell (p := ⟨w.heap.size + 1 + 1, 2, none⟩) (by simp; omega) (.slice A3 g.prio.length c3)).setCell (p := ⟨w.heap.size + 1, 0, none⟩) (by simp) (.slice A1 g.arena.owner.length c1)).setCell (p := ⟨w.heap.size + 1, 1, none⟩) (by simp) (.slice A2 g.arena.next.length c2)).setCell (p := ⟨w.heap.size + 1, 2, none⟩) (by simp) (.slice A3 g.prio.length c3)
  have hch : ∀ b, W.heap.size ≤ b → ((((w3.setCell ⟨w.heap.size + 1 + 1, 2, none⟩ (.slice A3 g.prio.length c3)).setCell ⟨w.heap.size + 1, 0, none⟩ (.slice A1 g.arena.owner.length c1)).setCell ⟨w.heap.size + 1, 1, none⟩ (.slice A2 g.arena.next.length c2)).setCell ⟨w.heap.size + 1, 2, none⟩ (.slice A3 g.prio.length c3)).heap[b]? = w3.heap[b]? := fun b hb => by
    rw [Below.heap_setCell _ _ _ _ (by simp; omega), Below.heap_setCell _ _ _ _ (by simp; omega), Below.heap_setCell _ _ _ _ (by simp; omega), Below.heap_setCell _ _ _ _ (by simp; omega)]
  have hsz : ((((w3.setCell ⟨w.heap.size + 1 + 1, 2, none⟩ (.slice A3 g.prio.length c3)).setCell ⟨w.heap.size + 1, 0, none⟩ (.slice A1 g.arena.owner.length c1)).setCell ⟨w.heap.size + 1, 1, none⟩ (.slice A2 g.arena.next.length c2)).setCell ⟨w.heap.size + 1, 2, none⟩ (.slice A3 g.prio.length c3)).heap.size = w3.heap.size := by simp
  generalize (((w3.setCell ⟨w.heap.size + 1 + 1, 2, none⟩ (.slice A3 g.prio.length c3)).setCell ⟨w.heap.size + 1, 0, none⟩ (.slice A1 g.arena.owner.length c1)).setCell ⟨w.heap.size + 1, 1, none⟩ (.slice A2 g.arena.next.length c2)).setCell ⟨w.heap.size + 1, 2, none⟩ (.slice A3 g.prio.length c3) = W5 at *
  have q0 := hO5.c0
  have q1 := hO5.c1
  have q2 := hO5.c2
  have hs2 := Hs2.out
  refine bodyPost_ret (v := .agg #[.slice A1 g.arena.owner.length c1, .slice A2 g.arena.next.length c2, .slice A3 g.prio.length c3]) (by simp [results, Try.results17, go_sem, q0, q1, q2]) rfl ⟨_, rfl, ?_, hbw5⟩
  refine OP.join (M := W2.heap.size) (((ha3.heapFrom hch).mono (by omega) (by omega))) (OI.heap' (w := w3) ⟨ho3, fun b hb => by have := (ho3.lt b hb).2; omega⟩ fun b hb => hch b (by have := (ho3.lt b hb).1; omega)) (by omega) (by omega)
set_option maxHeartbeats 400000 in
theorem eqParity_B (v u : Value) (a b : ParityD) (w : World) (hv : IsParity w v a) (hu : IsParity w u b) :
    Calls Try.prog 21 #[v, u] w fun e w' => e = .returned (.bool (decide (a = b))) ∧ Below w.heap.size w w' := by
  obtain ⟨o, n, p, rfl⟩ := hv.open
  obtain ⟨o', n', p', rfl⟩ := hu.open
  obtain ⟨ha, hp⟩ := hv.parts
  obtain ⟨ha', hp'⟩ := hu.parts
  have hab : decide (a = b) = (decide (a.arena = b.arena) && decide (a.prio = b.prio)) := by
    cases a; cases b; simp
  rw [hab]
  clear hab
  have hb : Below w.heap.size w ((w.alloc (.cells #[o, n, p] 32)).alloc (.cells #[o', n', p'] 32)) := ((Below.refl _ _).alloc (Nat.le_refl _) _).alloc (by simp) _
  have hX : Arr ((w.alloc (.cells #[o, n, p] 32)).alloc (.cells #[o', n', p'] 32)) w.heap.size 32 [o, n, p] := (Arr.new w _ [o, n, p]).alloc _
  have hY : Arr ((w.alloc (.cells #[o, n, p] 32)).alloc (.cells #[o', n', p'] 32)) (w.heap.size + 1) 32 [o', n', p'] := by
    simpa using Arr.new (w.alloc (.cells #[o, n, p] 32)) 32 [o', n', p']
  have hd1 : ∃ d1, decide (a.arena = b.arena) = d1 := ⟨_, rfl⟩
  obtain ⟨d1, hd1⟩ := hd1
  have hd2 : ∃ d2, decide (a.prio = b.prio) = d2 := ⟨_, rfl⟩
  obtain ⟨d2, hd2⟩ := hd2
  have hc1 := eqArena_any (.agg #[o, n]) (.agg #[o', n']) a.arena b.arena _ (ha.kept (Kept.of hb)) (ha'.kept (Kept.of hb))
  have hc2 := fun W (hW : Kept w W) => eqInt64S_B p p' a.prio b.prio W (hp.kept hW) (hp'.kept hW)
  rw [hd1] at hc1
  rw [hd2] at hc2
  rw [hd1, hd2]
  clear hd1 hd2
  have H1 := Lib.hid hc1
  have H2 := Lib.hid hc2
  clear hc1 hc2
  have hxl := hX.lt
  have hyl := hY.lt
  cases d1
  · go_enter Try.func21, Try.ntmps21
    go_wp2_with fail
    refine H1.out.mono ?_
    rintro e w1 ⟨rfl, hb1⟩
    go_wp2
    go_ret
    exact ⟨rfl, Below.up hb hb1⟩
  · cases d2
    all_goals
      go_enter Try.func21, Try.ntmps21
      go_wp2_with fail
      refine H1.out.mono ?_
      rintro e w1 ⟨rfl, hb1⟩
      have hX1 := (hX.below hb1 hxl).c2
      have hY1 := (hY.below hb1 hyl).c2
      have hbw := Below.up hb hb1
      clear hb1 hb
      go_wp2_with fail
      refine (H2.out _ (Kept.of hbw)).mono ?_
      rintro e w2 ⟨rfl, hb2⟩
      go_wp2
      go_ret
      exact ⟨rfl, Below.up hbw hb2⟩
set_option maxHeartbeats 400000 in
theorem markParity_O (v : Value) (g : ParityD) (k0 : Int) (B C : Nat) (w : World) (hv : OP w B C v g) (h0 : 0 ≤ k0) (h1 : k0 + sizeP g ≤ 4611686018427387904) :
    Calls Try.prog 22 #[v, .int .i64 k0] w fun e w' => e = .returned (.int .i64 (k0 + sizeP g)) ∧ OP w' B C v (markP k0 g) ∧ Only B C w w' := by
  obtain ⟨o, n, p, vs, rfl, ho, hn, hp, hne, hpo, hpn⟩ := hv
  unfold sizeP at *
  have hb : Below w.heap.size w (w.alloc (.cells #[o, n, p] 32)) := (Below.refl _ _).alloc (Nat.le_refl _) _
  have hX := Arr.new w 32 [o, n, p]
  have hxl := hX.lt
  have hfl : ∀ b, footA o vs g.arena.next.length b → B ≤ b ∧ b < C ∧ b < w.heap.size := fun b h => by
    rcases h with h | ⟨j, hj, h⟩
    · exact ⟨(ho.1.lt b h).1, ho.2 b h, (ho.1.lt b h).2⟩
    · exact ⟨((hn.row j hj).1.lt b h).1, (hn.row j hj).2 b h, ((hn.row j hj).1.lt b h).2⟩
  have hpl := fun b hb => hp.1.lt b hb
  replace ho := ho.below hb
  replace hp := hp.below hb
  replace hn := hn.kept (Only.of_below (B := C) (C := B) hb) (.inl (Nat.le_refl _))
  have hsum : k0 + (sizeA g.arena : Nat) + (g.prio.length : Nat) = k0 + ((sizeA g.arena + g.prio.length : Nat) : Int) := by omega
  have Hs := Lib.hid hsum
  clear hsum
  go_enter Try.func22, Try.ntmps22
  go_wp2_with fail
  have o1 : Only B C w (w.alloc (.cells #[o, n, p] 32)) := Only.of_below hb
  generalize w.alloc (.cells #[o, n, p] 32) = W at *
  clear hb
  refine (markArena_any o n vs g.arena k0 B C _ ho hn hne h0 (by omega)).mono ?_
  rintro e w1 ⟨rfl, ho1, hn1, hc1⟩
  have hX1 : Arr w1 w.heap.size 32 [o, n, p] := (hc1.block _ hxl fun e => by have := hfl _ e; omega).trans hX
  have hx2 := hX1.c2
  have hp1 := hp.chg hc1 fun b hb e => by
    rcases e with e | ⟨j, hj, e⟩
    · exact hpo b hb e
    · exact hpn b hb j hj e
  go_wp2_with fail
  refine (markInt64S_any p g.prio (k0 + (sizeA g.arena : Nat)) B _ hp1.1 (by omega) (by omega)).mono ?_
  rintro e w2 ⟨rfl, hp2, hg2⟩
  have hc2 := Chg.of_grown hg2
  go_wp2
  go_ret
  refine ⟨by rw [← Hs.out]; rfl, ⟨o, n, p, vs, rfl, ?_, ?_, ⟨hp2, hp.2⟩, ?_, hpo, ?_⟩, ?_⟩
  · exact ho1.chg hc2 fun b hb e => hpo b e hb
  · exact hn1.chg hc2 (fun b hb e => by exact absurd hb (owns_ne hp.1 hn.own (by decide) e)) (fun k hk b hb e => hpn b e k (by simpa using hk) hb)
  · exact fun b hb k hk => hne b hb k (by simpa [markP, markA] using hk)
  · exact fun b hb k hk => hpn b hb k (by simpa [markP, markA] using hk)
  · have o2 : Only B C W w1 := hc1.only fun k hk => ⟨(hfl k hk).1, (hfl k hk).2.1⟩
    have o3 : Only B C w1 w2 := hc2.only fun k hk => ⟨(hpl k hk).1, hp.2 k hk⟩
    exact (o1.trans o2).trans o3
set_option maxHeartbeats 400000 in
theorem heldParity_B (v : Value) (g : ParityD) (k0 : Int) (w : World) (hv : IsParity w v (markP k0 g)) (h0 : 0 ≤ k0) (h1 : k0 + sizeP g ≤ 4611686018427387904) :
    Calls Try.prog 27 #[v, .int .i64 k0] w fun e w' => e = .returned (.int .i64 (k0 + sizeP g)) ∧ Below w.heap.size w w' := by
  obtain ⟨o, n, p, rfl⟩ := hv.open
  obtain ⟨ha, hp⟩ := hv.parts
  unfold sizeP at *
  have hb : Below w.heap.size w (w.alloc (.cells #[o, n, p] 32)) := (Below.refl _ _).alloc (Nat.le_refl _) _
  have hX := Arr.new w 32 [o, n, p]
  have hxl := hX.lt
  have hc1 := heldArena_B (.agg #[o, n]) g.arena k0 _ (ha.kept (Kept.of hb)) h0 (by omega)
  have hc2 := fun W (hW : Kept w W) => heldInt64S_any p g.prio.length (k0 + (sizeA g.arena : Nat)) W (hp.kept hW) (by omega) (by omega)
  have hp1 : ¬ k0 + ((sizeA g.arena : Nat) : Int) < 0 := by omega
  have hp2 : ¬ k0 + ((sizeA g.arena : Nat) : Int) + ((g.prio.length : Nat) : Int) < 0 := by omega
  have hsum : k0 + (sizeA g.arena : Nat) + (g.prio.length : Nat) = k0 + ((sizeA g.arena + g.prio.length : Nat) : Int) := by omega
  have Hs := Lib.hid hsum
  have H1 := Lib.hid hc1
  have H2 := Lib.hid hc2
  clear hsum hc1 hc2
  go_enter Try.func27, Try.ntmps27
  go_wp2_with fail
  refine H1.out.mono ?_
  rintro e w1 ⟨rfl, hb1⟩
  have hx2 := (hX.below hb1 hxl).c2
  have hbw := Below.up hb hb1
  clear hb hb1
  go_wp2_with fail
  refine (H2.out _ (Kept.of hbw)).mono ?_
  rintro e w2 ⟨rfl, q2, rfl⟩
  go_wp2
  go_ret
  exact ⟨by rw [← Hs.out]; rfl, below_drewN hbw _⟩
end Go.Proofs.Ytpnophmanpfejaa

/- When a game is valid, and the functions of a game's priorities. No program in sight. -/
namespace Go.Proofs.Ytpnophmanpfejaa
set_option linter.unusedSimpArgs false
set_option linter.unusedVariables false

def prioOkB (l : List Int) : Bool := decide (∀ v, v < l.length → 0 ≤ ix l v ∧ ix l v ≤ 40)
def parityOkB (g : ParityD) : Bool := arenaOkB g.arena && (decide (g.prio.length = g.arena.owner.length) && prioOkB g.prio)
theorem prioOkB_iff {l : List Int} : prioOkB l = true ↔ ∀ v, v < l.length → 0 ≤ ix l v ∧ ix l v ≤ 40 := by simp [prioOkB]
theorem prioOkB_bad {l : List Int} {k : Nat} (hk : k < l.length) (h : ¬ (0 ≤ ix l k ∧ ix l k ≤ 40)) : prioOkB l = false := by
  rw [Bool.eq_false_iff]; exact fun h' => h (prioOkB_iff.1 h' k hk)
structure ParityOk (g : ParityD) : Prop where
  arena : ArenaOk g.arena
  len : g.prio.length = g.arena.owner.length
  prio : ∀ v, v < g.prio.length → 0 ≤ ix g.prio v ∧ ix g.prio v ≤ 40
theorem parityOkB_iff {g : ParityD} : parityOkB g = true ↔ ParityOk g := by
  unfold parityOkB
  simp only [Bool.and_eq_true, arenaOkB_iff, prioOkB_iff, decide_eq_true_eq]
  exact ⟨fun ⟨h1, h2, h3⟩ => ⟨h1, h2, h3⟩, fun ⟨h1, h2, h3⟩ => ⟨h1, h2, h3⟩⟩
def sameParityB (a b : ParityD) : Bool := parityOkB a && (parityOkB b && decide (a = b))

/-- The greatest priority of vertices, -1 of none. -/
def topL (p : List Int) (l : List Int) : Int := l.foldl (fun t v => max t (ix p v.toNat)) (-1)
def topTo (p : List Int) (l : List Int) (k : Nat) : Int := topL p (l.take k)
theorem topTo_zero (p l : List Int) : topTo p l 0 = -1 := rfl
theorem topTo_succ {p l : List Int} {k : Nat} (hk : k < l.length) : topTo p l (k + 1) = max (topTo p l k) (ix p (ix l k).toNat) := by
  unfold topTo topL
  rw [take_ix hk, List.foldl_append]
  rfl
theorem topTo_all (p l : List Int) : topTo p l l.length = topL p l := by unfold topTo; rw [List.take_length]
def topG (g : ParityD) (l : List Int) : Int := if parityOkB g && isSetB l g.arena.owner.length then topL g.prio l else -1
def withL (p : List Int) (l : List Int) (x : Int) : List Int := l.filter fun v => decide (ix p v.toNat = x)
def withG (g : ParityD) (l : List Int) (x : Int) : List Int := if parityOkB g && isSetB l g.arena.owner.length then withL g.prio l x else []
theorem topL_bounds {p l : List Int} (hp : ∀ v, v < p.length → 0 ≤ ix p v ∧ ix p v ≤ 40) : -1 ≤ topL p l ∧ topL p l ≤ 40 := by
  unfold topL
  suffices h : ∀ (l : List Int) (t : Int), -1 ≤ t ∧ t ≤ 40 → -1 ≤ l.foldl (fun t v => max t (ix p v.toNat)) t ∧ l.foldl (fun t v => max t (ix p v.toNat)) t ≤ 40 from h l _ (by omega)
  intro l
  induction l with
  | nil => intro t h; exact h
  | cons x l ih =>
    intro t h
    apply ih
    show -1 ≤ max t (ix p x.toNat) ∧ max t (ix p x.toNat) ≤ 40
    by_cases hx : x.toNat < p.length
    · have := hp _ hx; omega
    · have : ix p x.toNat = 0 := by simp [ix, Nat.not_lt.1 hx]
      omega
theorem topTo_bounds {p l : List Int} (hp : ∀ v, v < p.length → 0 ≤ ix p v ∧ ix p v ≤ 40) (k : Nat) : -1 ≤ topTo p l k ∧ topTo p l k ≤ 40 := topL_bounds hp
theorem withG_len {g : ParityD} {l : List Int} {x : Int} {n : Nat} (h : l.length ≤ n) : (withG g l x).length ≤ n := by
  unfold withG
  split
  · exact Nat.le_trans (List.length_filter_le _ _) h
  · simp
end Go.Proofs.Ytpnophmanpfejaa

/- The walks of ParityOk, SameParity, TopIn, WithPrio and what they call. No condition. -/
namespace Go.Proofs.Ytpnophmanpfejaa
set_option linter.unusedSimpArgs false
set_option linter.unusedVariables false
open Go.RowKit

theorem box_parity (w : World) (o n p : Value) : Below w.heap.size w (w.alloc (.cells #[o, n, p] 32)) := (Below.refl _ _).alloc (Nat.le_refl _) _
/-- Behind the first box of a game. -/
theorem parity_box {w : World} {v : Value} {g : ParityD} (hv : IsParity w v g) : ∃ o n p, v = .agg #[o, n, p] ∧ Below w.heap.size w (w.alloc (.cells #[o, n, p] 32)) ∧ Arr (w.alloc (.cells #[o, n, p] 32)) w.heap.size 32 [o, n, p] := by
  obtain ⟨o, n, p, rfl⟩ := hv.open
  exact ⟨o, n, p, rfl, box_parity w o n p, Arr.new _ _ _⟩

set_option maxHeartbeats 1000000 in
theorem ParityOk_any (v : Value) (g : ParityD) (w : World) (hv : IsParity w v g) :
    Calls Try.prog 74 #[v] w fun e w' => e = .returned (.bool (parityOkB g)) ∧ Below w.heap.size w w' := by
  obtain ⟨o, n, p, rfl, hbw, hB⟩ := parity_box hv
  obtain ⟨ha, hp⟩ := hv.parts
  obtain ⟨ho, hn⟩ := ha.parts
  obtain ⟨A, c, rfl, hlc, hcm⟩ := hp.form
  obtain ⟨A', c', rfl, hlc', hcm'⟩ := ho.form
  cases hE : arenaOkB g.arena
  · have hres : parityOkB g = false := by unfold parityOkB; rw [hE]; rfl
    rw [hres]; clear hres
    go_enter Try.func74, Try.ntmps74
    have hBz := hB.lt
    have hBc0 := hB.c0
    have hBc1 := hB.c1
    have hBc2 := hB.c2
    go_wp2_with fail
    refine (ArenaOk_any _ g.arena _ (ha.kept (Kept.of hbw))).mono ?_
    rintro e w1 ⟨rfl, hb1⟩
    clear hBc0 hBc1 hBc2 hBz
    replace hB := hB.below hb1 hB.lt
    replace hbw := Below.up hbw hb1
    have hb1s := hb1.size
    clear hb1
    have hBz := hB.lt
    have hBc0 := hB.c0
    have hBc1 := hB.c1
    have hBc2 := hB.c2
    go_wp2
    go_ret
    exact ⟨rfl, hbw⟩
  · by_cases h3 : g.prio.length = g.arena.owner.length
    · have hd3 : ((g.prio.length : Int) != (g.arena.owner.length : Int)) = false := by simp [h3]
      have hres : parityOkB g = prioOkB g.prio := by unfold parityOkB; rw [hE, decide_eq_true h3]; rfl
      rw [hres]; clear hres
      have H3 := Lib.hid h3
      clear h3
      go_enter Try.func74, Try.ntmps74
      have hBz := hB.lt
      have hBc0 := hB.c0
      have hBc1 := hB.c1
      have hBc2 := hB.c2
      go_wp2_with fail
      refine (ArenaOk_any _ g.arena _ (ha.kept (Kept.of hbw))).mono ?_
      rintro e w1 ⟨rfl, hb1⟩
      clear hBc0 hBc1 hBc2 hBz
      replace hB := hB.below hb1 hB.lt
      replace hbw := Below.up hbw hb1
      have hb1s := hb1.size
      clear hb1
      have hBz := hB.lt
      have hBc0 := hB.c0
      have hBc1 := hB.c1
      have hBc2 := hB.c2
      go_wp2
      clear hd3
      have hp1 := (hp.kept (Kept.of hbw))
      go_loop [22] (fun i => ∃ k : Nat, k ≤ g.prio.length ∧ i = .int .i64 k ∧ ∀ j, j < k → 0 ≤ ix g.prio j ∧ ix g.prio j ≤ 40) (fun i => g.prio.length - (intOf i).toNat)
      case atStart => exact ⟨0, Nat.zero_le _, rfl, fun j hj => by omega⟩
      case round =>
        obtain ⟨k, hk, rfl, hm⟩ := hrel
        by_cases hlt : k < g.prio.length
        · obtain ⟨a1, rfl, hc1⟩ := hp1.at_ hlt
          have hbad : ¬ (0 ≤ ix g.prio k ∧ ix g.prio k ≤ 40) → prioOkB g.prio = false := prioOkB_bad hlt
          by_cases g1 : 0 ≤ ix g.prio k
          · by_cases g2 : ix g.prio k ≤ 40
            · go_wp2
              exact ⟨⟨k + 1, by omega, by go_num, fun j hj => by
                by_cases hjk : j = k
                · rw [hjk]; exact ⟨g1, g2⟩
                · exact hm j (by omega)⟩, by simp [intOf]; omega⟩
            · have Hb := Lib.hid (hbad fun h => g2 h.2)
              clear hbad
              go_wp2
              go_ret
              exact ⟨by rw [Hb.out]; rfl, hbw⟩
          · have Hb := Lib.hid (hbad fun h => g1 h.1)
            clear hbad
            go_wp2
            go_ret
            exact ⟨by rw [Hb.out]; rfl, hbw⟩
        · have ht : prioOkB g.prio = true := prioOkB_iff.2 fun j hj => hm j (by omega)
          have Ht := Lib.hid ht
          clear ht
          go_wp2
          go_ret
          exact ⟨by rw [Ht.out]; rfl, hbw⟩
    · have hd3 : ((g.prio.length : Int) != (g.arena.owner.length : Int)) = true := by simp; omega
      have hres : parityOkB g = false := by unfold parityOkB; rw [decide_eq_false h3]; simp
      rw [hres]; clear hres
      go_enter Try.func74, Try.ntmps74
      have hBz := hB.lt
      have hBc0 := hB.c0
      have hBc1 := hB.c1
      have hBc2 := hB.c2
      go_wp2_with fail
      refine (ArenaOk_any _ g.arena _ (ha.kept (Kept.of hbw))).mono ?_
      rintro e w1 ⟨rfl, hb1⟩
      clear hBc0 hBc1 hBc2 hBz
      replace hB := hB.below hb1 hB.lt
      replace hbw := Below.up hbw hb1
      have hb1s := hb1.size
      clear hb1
      have hBz := hB.lt
      have hBc0 := hB.c0
      have hBc1 := hB.c1
      have hBc2 := hB.c2
      go_wp2
      go_ret
      exact ⟨rfl, hbw⟩

set_option maxHeartbeats 1000000 in
theorem specParityOk_any (v : Value) (g : ParityD) (w : World) (hv : IsParity w v g) :
    Calls Try.prog 65 #[v] w fun e w' => e = .returned (.bool (parityOkB g)) ∧ Below w.heap.size w w' := by
  obtain ⟨o, n, p, rfl, hbw, hB⟩ := parity_box hv
  obtain ⟨ha, hp⟩ := hv.parts
  obtain ⟨ho, hn⟩ := ha.parts
  obtain ⟨A, c, rfl, hlc, hcm⟩ := hp.form
  obtain ⟨A', c', rfl, hlc', hcm'⟩ := ho.form
  cases hE : arenaOkB g.arena
  · have hres : parityOkB g = false := by unfold parityOkB; rw [hE]; rfl
    rw [hres]; clear hres
    go_enter Try.func65, Try.ntmps65
    have hBz := hB.lt
    have hBc0 := hB.c0
    have hBc1 := hB.c1
    have hBc2 := hB.c2
    go_wp2_with fail
    refine (specArenaOk_any _ g.arena _ (ha.kept (Kept.of hbw))).mono ?_
    rintro e w1 ⟨rfl, hb1⟩
    clear hBc0 hBc1 hBc2 hBz
    replace hB := hB.below hb1 hB.lt
    replace hbw := Below.up hbw hb1
    have hb1s := hb1.size
    clear hb1
    have hBz := hB.lt
    have hBc0 := hB.c0
    have hBc1 := hB.c1
    have hBc2 := hB.c2
    go_wp2
    go_ret
    exact ⟨rfl, hbw⟩
  · by_cases h3 : g.prio.length = g.arena.owner.length
    · have hd3 : ((g.prio.length : Int) != (g.arena.owner.length : Int)) = false := by simp [h3]
      have hres : parityOkB g = prioOkB g.prio := by unfold parityOkB; rw [hE, decide_eq_true h3]; rfl
      rw [hres]; clear hres
      have H3 := Lib.hid h3
      clear h3
      go_enter Try.func65, Try.ntmps65
      have hBz := hB.lt
      have hBc0 := hB.c0
      have hBc1 := hB.c1
      have hBc2 := hB.c2
      go_wp2_with fail
      refine (specArenaOk_any _ g.arena _ (ha.kept (Kept.of hbw))).mono ?_
      rintro e w1 ⟨rfl, hb1⟩
      clear hBc0 hBc1 hBc2 hBz
      replace hB := hB.below hb1 hB.lt
      replace hbw := Below.up hbw hb1
      have hb1s := hb1.size
      clear hb1
      have hBz := hB.lt
      have hBc0 := hB.c0
      have hBc1 := hB.c1
      have hBc2 := hB.c2
      go_wp2
      clear hd3
      have hp1 := (hp.kept (Kept.of hbw))
      go_loop [3] (fun i => ∃ k : Nat, k ≤ g.prio.length ∧ i = .int .i64 k ∧ ∀ j, j < k → 0 ≤ ix g.prio j ∧ ix g.prio j ≤ 40) (fun i => g.prio.length - (intOf i).toNat)
      case atStart => exact ⟨0, Nat.zero_le _, rfl, fun j hj => by omega⟩
      case round =>
        obtain ⟨k, hk, rfl, hm⟩ := hrel
        by_cases hlt : k < g.prio.length
        · obtain ⟨a1, rfl, hc1⟩ := hp1.at_ hlt
          by_cases g1 : 0 ≤ ix g.prio k ∧ ix g.prio k ≤ 40
          · have hd : decide (0 ≤ ix g.prio k ∧ ix g.prio k ≤ 40) = true := by simpa using g1
            have G1 := Lib.hid g1
            clear g1
            go_wp2_with (go_at_call 110; refine (l1In_any _ _ _ _).mono ?_; rintro e w' ⟨rfl, hw⟩; subst w')
            exact ⟨⟨k + 1, by omega, by go_num, fun j hj => by
              by_cases hjk : j = k
              · rw [hjk]; exact G1.out
              · exact hm j (by omega)⟩, by simp [intOf]; omega⟩
          · have hd : decide (0 ≤ ix g.prio k ∧ ix g.prio k ≤ 40) = false := by simpa using g1
            have Hb := Lib.hid (prioOkB_bad hlt g1)
            clear g1
            go_wp2_with (go_at_call 110; refine (l1In_any _ _ _ _).mono ?_; rintro e w' ⟨rfl, hw⟩; subst w')
            go_ret
            exact ⟨by rw [Hb.out]; rfl, hbw⟩
        · have ht : prioOkB g.prio = true := prioOkB_iff.2 fun j hj => hm j (by omega)
          have Ht := Lib.hid ht
          clear ht
          go_wp2
          go_ret
          exact ⟨by rw [Ht.out]; rfl, hbw⟩
    · have hd3 : ((g.prio.length : Int) != (g.arena.owner.length : Int)) = true := by simp; omega
      have hres : parityOkB g = false := by unfold parityOkB; rw [decide_eq_false h3]; simp
      rw [hres]; clear hres
      go_enter Try.func65, Try.ntmps65
      have hBz := hB.lt
      have hBc0 := hB.c0
      have hBc1 := hB.c1
      have hBc2 := hB.c2
      go_wp2_with fail
      refine (specArenaOk_any _ g.arena _ (ha.kept (Kept.of hbw))).mono ?_
      rintro e w1 ⟨rfl, hb1⟩
      clear hBc0 hBc1 hBc2 hBz
      replace hB := hB.below hb1 hB.lt
      replace hbw := Below.up hbw hb1
      have hb1s := hb1.size
      clear hb1
      have hBz := hB.lt
      have hBc0 := hB.c0
      have hBc1 := hB.c1
      have hBc2 := hB.c2
      go_wp2
      go_ret
      exact ⟨rfl, hbw⟩

/-- Behind the boxes of two games. -/
theorem parity_box2 {w : World} {v u : Value} {a b : ParityD} (hv : IsParity w v a) (hu : IsParity w u b) : ∃ o n p o' n' p', v = .agg #[o, n, p] ∧ u = .agg #[o', n', p'] ∧
    Below w.heap.size w ((w.alloc (.cells #[o, n, p] 32)).alloc (.cells #[o', n', p'] 32)) ∧ Arr ((w.alloc (.cells #[o, n, p] 32)).alloc (.cells #[o', n', p'] 32)) w.heap.size 32 [o, n, p] ∧
    Arr ((w.alloc (.cells #[o, n, p] 32)).alloc (.cells #[o', n', p'] 32)) (w.heap.size + 1) 32 [o', n', p'] := by
  obtain ⟨o, n, p, rfl⟩ := hv.open
  obtain ⟨o', n', p', rfl⟩ := hu.open
  have hb : Below w.heap.size w ((w.alloc (.cells #[o, n, p] 32)).alloc (.cells #[o', n', p'] 32)) := ((Below.refl _ _).alloc (Nat.le_refl _) _).alloc (by simp) _
  have h2 := Arr.new (w.alloc (.cells #[o, n, p] 32)) 32 [o', n', p']
  exact ⟨o, n, p, o', n', p', rfl, rfl, hb, (Arr.new _ _ _).alloc _, by simpa using h2⟩
theorem parity_eq (a b : ParityD) : decide (a = b) = (decide (a.arena = b.arena) && decide (a.prio = b.prio)) := by
  cases a; cases b; simp

set_option maxHeartbeats 1000000 in
theorem SameParity_any (v : Value) (a : ParityD) (u : Value) (b : ParityD) (w : World) (hv : IsParity w v a) (hu : IsParity w u b) :
    Calls Try.prog 67 #[v, u] w fun e w' => e = .returned (.bool (sameParityB a b)) ∧ Below w.heap.size w w' := by
  obtain ⟨o, n, p, o', n', p', rfl, rfl, hbw, hB, hD⟩ := parity_box2 hv hu
  obtain ⟨ha, hp⟩ := hv.parts
  obtain ⟨ha', hp'⟩ := hu.parts
  cases hE : parityOkB a
  · have hres : sameParityB a b = false := by unfold sameParityB; rw [hE]; rfl
    rw [hres]; clear hres
    go_enter Try.func67, Try.ntmps67
    have hBz := hB.lt
    have hBc0 := hB.c0
    have hBc1 := hB.c1
    have hBc2 := hB.c2
    have hDz := hD.lt
    have hDc0 := hD.c0
    have hDc1 := hD.c1
    have hDc2 := hD.c2
    go_wp2_with fail
    refine (ParityOk_any _ a _ (hv.kept (Kept.of hbw))).mono ?_
    rintro e w1 ⟨rfl, hb1⟩
    clear hBc0 hBc1 hBc2 hDc0 hDc1 hDc2 hBz hDz
    replace hB := hB.below hb1 hB.lt
    replace hD := hD.below hb1 hD.lt
    replace hbw := Below.up hbw hb1
    have hb1s := hb1.size
    clear hb1
    have hBz := hB.lt
    have hBc0 := hB.c0
    have hBc1 := hB.c1
    have hBc2 := hB.c2
    have hDz := hD.lt
    have hDc0 := hD.c0
    have hDc1 := hD.c1
    have hDc2 := hD.c2
    go_wp2
    go_ret
    exact ⟨rfl, hbw⟩
  · cases hE2 : parityOkB b
    · have hres : sameParityB a b = false := by unfold sameParityB; rw [hE, hE2]; rfl
      rw [hres]; clear hres
      go_enter Try.func67, Try.ntmps67
      have hBz := hB.lt
      have hBc0 := hB.c0
      have hBc1 := hB.c1
      have hBc2 := hB.c2
      have hDz := hD.lt
      have hDc0 := hD.c0
      have hDc1 := hD.c1
      have hDc2 := hD.c2
      go_wp2_with fail
      refine (ParityOk_any _ a _ (hv.kept (Kept.of hbw))).mono ?_
      rintro e w1 ⟨rfl, hb1⟩
      clear hBc0 hBc1 hBc2 hDc0 hDc1 hDc2 hBz hDz
      replace hB := hB.below hb1 hB.lt
      replace hD := hD.below hb1 hD.lt
      replace hbw := Below.up hbw hb1
      have hb1s := hb1.size
      clear hb1
      have hBz := hB.lt
      have hBc0 := hB.c0
      have hBc1 := hB.c1
      have hBc2 := hB.c2
      have hDz := hD.lt
      have hDc0 := hD.c0
      have hDc1 := hD.c1
      have hDc2 := hD.c2
      go_wp2_with fail
      refine (ParityOk_any _ b _ (hu.kept (Kept.of hbw))).mono ?_
      rintro e w2 ⟨rfl, hb2⟩
      clear hBc0 hBc1 hBc2 hDc0 hDc1 hDc2 hBz hDz
      replace hB := hB.below hb2 hB.lt
      replace hD := hD.below hb2 hD.lt
      replace hbw := Below.up hbw hb2
      have hb2s := hb2.size
      clear hb2
      have hBz := hB.lt
      have hBc0 := hB.c0
      have hBc1 := hB.c1
      have hBc2 := hB.c2
      have hDz := hD.lt
      have hDc0 := hD.c0
      have hDc1 := hD.c1
      have hDc2 := hD.c2
      go_wp2
      go_ret
      exact ⟨rfl, hbw⟩
    · cases hE3 : decide (a.arena = b.arena)
      · have hres : sameParityB a b = false := by unfold sameParityB; rw [hE, hE2, parity_eq, hE3]; rfl
        rw [hres]; clear hres
        go_enter Try.func67, Try.ntmps67
        have hBz := hB.lt
        have hBc0 := hB.c0
        have hBc1 := hB.c1
        have hBc2 := hB.c2
        have hDz := hD.lt
        have hDc0 := hD.c0
        have hDc1 := hD.c1
        have hDc2 := hD.c2
        go_wp2_with fail
        refine (ParityOk_any _ a _ (hv.kept (Kept.of hbw))).mono ?_
        rintro e w1 ⟨rfl, hb1⟩
        clear hBc0 hBc1 hBc2 hDc0 hDc1 hDc2 hBz hDz
        replace hB := hB.below hb1 hB.lt
        replace hD := hD.below hb1 hD.lt
        replace hbw := Below.up hbw hb1
        have hb1s := hb1.size
        clear hb1
        have hBz := hB.lt
        have hBc0 := hB.c0
        have hBc1 := hB.c1
        have hBc2 := hB.c2
        have hDz := hD.lt
        have hDc0 := hD.c0
        have hDc1 := hD.c1
        have hDc2 := hD.c2
        go_wp2_with fail
        refine (ParityOk_any _ b _ (hu.kept (Kept.of hbw))).mono ?_
        rintro e w2 ⟨rfl, hb2⟩
        clear hBc0 hBc1 hBc2 hDc0 hDc1 hDc2 hBz hDz
        replace hB := hB.below hb2 hB.lt
        replace hD := hD.below hb2 hD.lt
        replace hbw := Below.up hbw hb2
        have hb2s := hb2.size
        clear hb2
        have hBz := hB.lt
        have hBc0 := hB.c0
        have hBc1 := hB.c1
        have hBc2 := hB.c2
        have hDz := hD.lt
        have hDc0 := hD.c0
        have hDc1 := hD.c1
        have hDc2 := hD.c2
        go_wp2_with fail
        refine (sameArena_eq _ a.arena _ b.arena _ (ha.kept (Kept.of hbw)) (ha'.kept (Kept.of hbw))).mono ?_
        rintro e w3 ⟨rfl, hb3⟩
        clear hBc0 hBc1 hBc2 hDc0 hDc1 hDc2 hBz hDz
        replace hB := hB.below hb3 hB.lt
        replace hD := hD.below hb3 hD.lt
        replace hbw := Below.up hbw hb3
        have hb3s := hb3.size
        clear hb3
        have hBz := hB.lt
        have hBc0 := hB.c0
        have hBc1 := hB.c1
        have hBc2 := hB.c2
        have hDz := hD.lt
        have hDc0 := hD.c0
        have hDc1 := hD.c1
        have hDc2 := hD.c2
        go_wp2
        go_ret
        exact ⟨rfl, hbw⟩
      · have hres : sameParityB a b = decide (a.prio = b.prio) := by unfold sameParityB; rw [hE, hE2, parity_eq, hE3]; rfl
        rw [hres]; clear hres
        go_enter Try.func67, Try.ntmps67
        have hBz := hB.lt
        have hBc0 := hB.c0
        have hBc1 := hB.c1
        have hBc2 := hB.c2
        have hDz := hD.lt
        have hDc0 := hD.c0
        have hDc1 := hD.c1
        have hDc2 := hD.c2
        go_wp2_with fail
        refine (ParityOk_any _ a _ (hv.kept (Kept.of hbw))).mono ?_
        rintro e w1 ⟨rfl, hb1⟩
        clear hBc0 hBc1 hBc2 hDc0 hDc1 hDc2 hBz hDz
        replace hB := hB.below hb1 hB.lt
        replace hD := hD.below hb1 hD.lt
        replace hbw := Below.up hbw hb1
        have hb1s := hb1.size
        clear hb1
        have hBz := hB.lt
        have hBc0 := hB.c0
        have hBc1 := hB.c1
        have hBc2 := hB.c2
        have hDz := hD.lt
        have hDc0 := hD.c0
        have hDc1 := hD.c1
        have hDc2 := hD.c2
        go_wp2_with fail
        refine (ParityOk_any _ b _ (hu.kept (Kept.of hbw))).mono ?_
        rintro e w2 ⟨rfl, hb2⟩
        clear hBc0 hBc1 hBc2 hDc0 hDc1 hDc2 hBz hDz
        replace hB := hB.below hb2 hB.lt
        replace hD := hD.below hb2 hD.lt
        replace hbw := Below.up hbw hb2
        have hb2s := hb2.size
        clear hb2
        have hBz := hB.lt
        have hBc0 := hB.c0
        have hBc1 := hB.c1
        have hBc2 := hB.c2
        have hDz := hD.lt
        have hDc0 := hD.c0
        have hDc1 := hD.c1
        have hDc2 := hD.c2
        go_wp2_with fail
        refine (sameArena_eq _ a.arena _ b.arena _ (ha.kept (Kept.of hbw)) (ha'.kept (Kept.of hbw))).mono ?_
        rintro e w3 ⟨rfl, hb3⟩
        clear hBc0 hBc1 hBc2 hDc0 hDc1 hDc2 hBz hDz
        replace hB := hB.below hb3 hB.lt
        replace hD := hD.below hb3 hD.lt
        replace hbw := Below.up hbw hb3
        have hb3s := hb3.size
        clear hb3
        have hBz := hB.lt
        have hBc0 := hB.c0
        have hBc1 := hB.c1
        have hBc2 := hB.c2
        have hDz := hD.lt
        have hDc0 := hD.c0
        have hDc1 := hD.c1
        have hDc2 := hD.c2
        go_wp2_with fail
        refine (drew_below (Equal_any _ _ a.prio b.prio _ (hp.kept (Kept.of hbw)) (hp'.kept (Kept.of hbw)))).mono ?_
        rintro e w4 ⟨rfl, hb4⟩
        clear hBc0 hBc1 hBc2 hDc0 hDc1 hDc2 hBz hDz
        replace hB := hB.below hb4 hB.lt
        replace hD := hD.below hb4 hD.lt
        replace hbw := Below.up hbw hb4
        have hb4s := hb4.size
        clear hb4
        have hBz := hB.lt
        have hBc0 := hB.c0
        have hBc1 := hB.c1
        have hBc2 := hB.c2
        have hDz := hD.lt
        have hDc0 := hD.c0
        have hDc1 := hD.c1
        have hDc2 := hD.c2
        go_wp2
        go_ret
        exact ⟨rfl, hbw⟩

set_option maxHeartbeats 1000000 in
theorem specSameParity_any (v : Value) (a : ParityD) (u : Value) (b : ParityD) (w : World) (hv : IsParity w v a) (hu : IsParity w u b) :
    Calls Try.prog 66 #[v, u] w fun e w' => e = .returned (.bool (sameParityB a b)) ∧ Below w.heap.size w w' := by
  obtain ⟨o, n, p, o', n', p', rfl, rfl, hbw, hB, hD⟩ := parity_box2 hv hu
  obtain ⟨ha, hp⟩ := hv.parts
  obtain ⟨ha', hp'⟩ := hu.parts
  cases hE : parityOkB a
  · have hres : sameParityB a b = false := by unfold sameParityB; rw [hE]; rfl
    rw [hres]; clear hres
    go_enter Try.func66, Try.ntmps66
    have hBz := hB.lt
    have hBc0 := hB.c0
    have hBc1 := hB.c1
    have hBc2 := hB.c2
    have hDz := hD.lt
    have hDc0 := hD.c0
    have hDc1 := hD.c1
    have hDc2 := hD.c2
    go_wp2_with fail
    refine (specParityOk_any _ a _ (hv.kept (Kept.of hbw))).mono ?_
    rintro e w1 ⟨rfl, hb1⟩
    clear hBc0 hBc1 hBc2 hDc0 hDc1 hDc2 hBz hDz
    replace hB := hB.below hb1 hB.lt
    replace hD := hD.below hb1 hD.lt
    replace hbw := Below.up hbw hb1
    have hb1s := hb1.size
    clear hb1
    have hBz := hB.lt
    have hBc0 := hB.c0
    have hBc1 := hB.c1
    have hBc2 := hB.c2
    have hDz := hD.lt
    have hDc0 := hD.c0
    have hDc1 := hD.c1
    have hDc2 := hD.c2
    go_wp2
    go_ret
    exact ⟨rfl, hbw⟩
  · cases hE2 : parityOkB b
    · have hres : sameParityB a b = false := by unfold sameParityB; rw [hE, hE2]; rfl
      rw [hres]; clear hres
      go_enter Try.func66, Try.ntmps66
      have hBz := hB.lt
      have hBc0 := hB.c0
      have hBc1 := hB.c1
      have hBc2 := hB.c2
      have hDz := hD.lt
      have hDc0 := hD.c0
      have hDc1 := hD.c1
      have hDc2 := hD.c2
      go_wp2_with fail
      refine (specParityOk_any _ a _ (hv.kept (Kept.of hbw))).mono ?_
      rintro e w1 ⟨rfl, hb1⟩
      clear hBc0 hBc1 hBc2 hDc0 hDc1 hDc2 hBz hDz
      replace hB := hB.below hb1 hB.lt
      replace hD := hD.below hb1 hD.lt
      replace hbw := Below.up hbw hb1
      have hb1s := hb1.size
      clear hb1
      have hBz := hB.lt
      have hBc0 := hB.c0
      have hBc1 := hB.c1
      have hBc2 := hB.c2
      have hDz := hD.lt
      have hDc0 := hD.c0
      have hDc1 := hD.c1
      have hDc2 := hD.c2
      go_wp2_with fail
      refine (specParityOk_any _ b _ (hu.kept (Kept.of hbw))).mono ?_
      rintro e w2 ⟨rfl, hb2⟩
      clear hBc0 hBc1 hBc2 hDc0 hDc1 hDc2 hBz hDz
      replace hB := hB.below hb2 hB.lt
      replace hD := hD.below hb2 hD.lt
      replace hbw := Below.up hbw hb2
      have hb2s := hb2.size
      clear hb2
      have hBz := hB.lt
      have hBc0 := hB.c0
      have hBc1 := hB.c1
      have hBc2 := hB.c2
      have hDz := hD.lt
      have hDc0 := hD.c0
      have hDc1 := hD.c1
      have hDc2 := hD.c2
      go_wp2
      go_ret
      exact ⟨rfl, hbw⟩
    · have hs : sameB a.arena b.arena = decide (a.arena = b.arena) := by
        unfold sameB; rw [arenaOkB_iff.2 (parityOkB_iff.1 hE).arena, arenaOkB_iff.2 (parityOkB_iff.1 hE2).arena]; rfl
      cases hE3 : decide (a.arena = b.arena)
      · have hres : sameParityB a b = false := by unfold sameParityB; rw [hE, hE2, parity_eq, hE3]; rfl
        rw [hres]; clear hres
        rw [hE3] at hs
        go_enter Try.func66, Try.ntmps66
        have hBz := hB.lt
        have hBc0 := hB.c0
        have hBc1 := hB.c1
        have hBc2 := hB.c2
        have hDz := hD.lt
        have hDc0 := hD.c0
        have hDc1 := hD.c1
        have hDc2 := hD.c2
        go_wp2_with fail
        refine (specParityOk_any _ a _ (hv.kept (Kept.of hbw))).mono ?_
        rintro e w1 ⟨rfl, hb1⟩
        clear hBc0 hBc1 hBc2 hDc0 hDc1 hDc2 hBz hDz
        replace hB := hB.below hb1 hB.lt
        replace hD := hD.below hb1 hD.lt
        replace hbw := Below.up hbw hb1
        have hb1s := hb1.size
        clear hb1
        have hBz := hB.lt
        have hBc0 := hB.c0
        have hBc1 := hB.c1
        have hBc2 := hB.c2
        have hDz := hD.lt
        have hDc0 := hD.c0
        have hDc1 := hD.c1
        have hDc2 := hD.c2
        go_wp2_with fail
        refine (specParityOk_any _ b _ (hu.kept (Kept.of hbw))).mono ?_
        rintro e w2 ⟨rfl, hb2⟩
        clear hBc0 hBc1 hBc2 hDc0 hDc1 hDc2 hBz hDz
        replace hB := hB.below hb2 hB.lt
        replace hD := hD.below hb2 hD.lt
        replace hbw := Below.up hbw hb2
        have hb2s := hb2.size
        clear hb2
        have hBz := hB.lt
        have hBc0 := hB.c0
        have hBc1 := hB.c1
        have hBc2 := hB.c2
        have hDz := hD.lt
        have hDc0 := hD.c0
        have hDc1 := hD.c1
        have hDc2 := hD.c2
        go_wp2_with fail
        refine (specSameArena_any _ a.arena _ b.arena _ (ha.kept (Kept.of hbw)) (ha'.kept (Kept.of hbw))).mono ?_
        rintro e w3 ⟨rfl, hb3⟩
        clear hBc0 hBc1 hBc2 hDc0 hDc1 hDc2 hBz hDz
        replace hB := hB.below hb3 hB.lt
        replace hD := hD.below hb3 hD.lt
        replace hbw := Below.up hbw hb3
        have hb3s := hb3.size
        clear hb3
        have hBz := hB.lt
        have hBc0 := hB.c0
        have hBc1 := hB.c1
        have hBc2 := hB.c2
        have hDz := hD.lt
        have hDc0 := hD.c0
        have hDc1 := hD.c1
        have hDc2 := hD.c2
        go_wp2
        go_ret
        exact ⟨rfl, hbw⟩
      · have hres : sameParityB a b = decide (a.prio = b.prio) := by unfold sameParityB; rw [hE, hE2, parity_eq, hE3]; rfl
        rw [hres]; clear hres
        rw [hE3] at hs
        go_enter Try.func66, Try.ntmps66
        have hBz := hB.lt
        have hBc0 := hB.c0
        have hBc1 := hB.c1
        have hBc2 := hB.c2
        have hDz := hD.lt
        have hDc0 := hD.c0
        have hDc1 := hD.c1
        have hDc2 := hD.c2
        go_wp2_with fail
        refine (specParityOk_any _ a _ (hv.kept (Kept.of hbw))).mono ?_
        rintro e w1 ⟨rfl, hb1⟩
        clear hBc0 hBc1 hBc2 hDc0 hDc1 hDc2 hBz hDz
        replace hB := hB.below hb1 hB.lt
        replace hD := hD.below hb1 hD.lt
        replace hbw := Below.up hbw hb1
        have hb1s := hb1.size
        clear hb1
        have hBz := hB.lt
        have hBc0 := hB.c0
        have hBc1 := hB.c1
        have hBc2 := hB.c2
        have hDz := hD.lt
        have hDc0 := hD.c0
        have hDc1 := hD.c1
        have hDc2 := hD.c2
        go_wp2_with fail
        refine (specParityOk_any _ b _ (hu.kept (Kept.of hbw))).mono ?_
        rintro e w2 ⟨rfl, hb2⟩
        clear hBc0 hBc1 hBc2 hDc0 hDc1 hDc2 hBz hDz
        replace hB := hB.below hb2 hB.lt
        replace hD := hD.below hb2 hD.lt
        replace hbw := Below.up hbw hb2
        have hb2s := hb2.size
        clear hb2
        have hBz := hB.lt
        have hBc0 := hB.c0
        have hBc1 := hB.c1
        have hBc2 := hB.c2
        have hDz := hD.lt
        have hDc0 := hD.c0
        have hDc1 := hD.c1
        have hDc2 := hD.c2
        go_wp2_with fail
        refine (specSameArena_any _ a.arena _ b.arena _ (ha.kept (Kept.of hbw)) (ha'.kept (Kept.of hbw))).mono ?_
        rintro e w3 ⟨rfl, hb3⟩
        clear hBc0 hBc1 hBc2 hDc0 hDc1 hDc2 hBz hDz
        replace hB := hB.below hb3 hB.lt
        replace hD := hD.below hb3 hD.lt
        replace hbw := Below.up hbw hb3
        have hb3s := hb3.size
        clear hb3
        have hBz := hB.lt
        have hBc0 := hB.c0
        have hBc1 := hB.c1
        have hBc2 := hB.c2
        have hDz := hD.lt
        have hDc0 := hD.c0
        have hDc1 := hD.c1
        have hDc2 := hD.c2
        go_wp2_with fail
        refine (drew_below (l1Same_any _ _ a.prio b.prio _ (hp.kept (Kept.of hbw)) (hp'.kept (Kept.of hbw)))).mono ?_
        rintro e w4 ⟨rfl, hb4⟩
        clear hBc0 hBc1 hBc2 hDc0 hDc1 hDc2 hBz hDz
        replace hB := hB.below hb4 hB.lt
        replace hD := hD.below hb4 hD.lt
        replace hbw := Below.up hbw hb4
        have hb4s := hb4.size
        clear hb4
        have hBz := hB.lt
        have hBc0 := hB.c0
        have hBc1 := hB.c1
        have hBc2 := hB.c2
        have hDz := hD.lt
        have hDc0 := hD.c0
        have hDc1 := hD.c1
        have hDc2 := hD.c2
        go_wp2
        go_ret
        exact ⟨rfl, hbw⟩

theorem l1Max_any (a b : Int) (w : World) : Calls Try.prog 132 #[.int .i64 a, .int .i64 b] w fun e w' => e = .returned (.int .i64 (max a b)) ∧ w' = w := by
  by_cases h : b < a
  · have hm : max a b = a := by omega
    rw [hm]; clear hm
    go_enter Try.func132, Try.ntmps132
    go_wp2
    go_ret
    exact ⟨rfl, rfl⟩
  · have hm : max a b = b := by omega
    rw [hm]; clear hm
    go_enter Try.func132, Try.ntmps132
    go_wp2
    go_ret
    exact ⟨rfl, rfl⟩

/-- A set of vertices, as places. -/
theorem IsSet.at_ {s : List Int} {n : Nat} (h : IsSet s n) {k : Nat} (hk : k < s.length) : ∃ j : Nat, ix s k = (j : Int) ∧ j < n := by
  obtain ⟨h1, h2, _⟩ := h k hk
  exact ⟨(ix s k).toNat, by omega, by omega⟩

set_option maxHeartbeats 1000000 in
theorem l4Top_any (v : Value) (g : ParityD) (u : Value) (l : List Int) (w : World) (hv : IsParity w v g) (hu : Ints w u l) (hr : ∀ k, k < l.length → ∃ j : Nat, ix l k = (j : Int) ∧ j < g.prio.length) :
    Calls Try.prog 78 #[v, u] w fun e w' => e = .returned (.int .i64 (topL g.prio l)) ∧ Below w.heap.size w w' := by
  obtain ⟨o, n, p, rfl, hbw, hB⟩ := parity_box hv
  obtain ⟨ha, hp⟩ := hv.parts
  obtain ⟨A, c, rfl, hlc, hcm⟩ := hp.form
  obtain ⟨A', c', rfl, hlc', hcm'⟩ := hu.form
  have hB2 := hB.c2
  have hp1 := (hp.kept (Kept.of hbw))
  have hu1 := (hu.kept (Kept.of hbw))
  have hall := topTo_all g.prio l
  have Hall := Lib.hid hall
  clear hall
  go_enter Try.func78, Try.ntmps78
  go_wp2
  generalize w.alloc (.cells #[o, n, .slice A g.prio.length c] 32) = w0 at *
  go_loopw [5, 6] (fun t i wr => ∃ k q : Nat, k ≤ l.length ∧ i = .int .i64 k ∧ t = .int .i64 (topTo g.prio l k) ∧ wr = w0.drewN q) (fun _ i _ => l.length - (intOf i).toNat)
  case atStart => exact ⟨0, 0, Nat.zero_le _, rfl, rfl, rfl⟩
  case round =>
    obtain ⟨k, q, hk, rfl, rfl, rfl⟩ := hrel
    by_cases hlt : k < l.length
    · obtain ⟨a1, rfl, hc1⟩ := hu1.at_ hlt
      obtain ⟨j, hj, hjl⟩ := hr k hlt
      obtain ⟨a2, rfl, hc2⟩ := hp1.at_ hjl
      have Hs := Lib.hid (topTo_succ (p := g.prio) hlt)
      rw [hj] at hc1
      have Hj := Lib.hid hj
      clear hj
      have hjl' : (j : Int) < g.prio.length := by omega
      go_wp2
      go_quiet ((go_at_call 132; first | exact Calls.quiet_of_same (l1Max_any _ _ _) | exact Calls.quiet_of (l1Max_any _ _ _) | exact quiet_add (quiet_same (l1Max_any _ _ _)) | exact quiet_add (l1Max_any _ _ _)))
      go_wp2
      exact ⟨⟨k + 1, q + nq, by omega, by go_num, by rw [Hs.out, Hj.out, Int.toNat_natCast], by simp⟩, by simp [intOf]; omega⟩
    · obtain rfl : k = l.length := by omega
      go_wp2
      go_ret
      exact ⟨by rw [← Hall.out]; rfl, below_drewN hbw q⟩

theorem l4Set_any (v : Value) (g : ParityD) (u : Value) (l : List Int) (w : World) (hv : IsParity w v g) (hu : Ints w u l) :
    Calls Try.prog 72 #[v, u] w fun e w' => e = .returned (.bool (isSetB l g.prio.length)) ∧ Below w.heap.size w w' := by
  obtain ⟨o, n, p, rfl, hbw, hB⟩ := parity_box hv
  obtain ⟨ha, hp⟩ := hv.parts
  obtain ⟨A, c, rfl, hlc, hcm⟩ := hp.form
  go_enter Try.func72, Try.ntmps72
  have hBz := hB.lt
  have hBc0 := hB.c0
  have hBc1 := hB.c1
  have hBc2 := hB.c2
  go_wp2_with fail
  refine (drew_below (l1Set_any _ l _ _ (hu.kept (Kept.of hbw)) (by omega) (by omega))).mono ?_
  rintro e w1 ⟨rfl, hb1⟩
  clear hBc0 hBc1 hBc2 hBz
  replace hB := hB.below hb1 hB.lt
  replace hbw := Below.up hbw hb1
  have hb1s := hb1.size
  clear hb1
  have hBz := hB.lt
  have hBc0 := hB.c0
  have hBc1 := hB.c1
  have hBc2 := hB.c2
  go_wp2
  go_ret
  exact ⟨rfl, hbw⟩

theorem filter_all (l : List Int) (f : Int → Bool) : (l.take l.length).filter f = l.filter f := by rw [List.take_length]
end Go.Proofs.Ytpnophmanpfejaa

/- The walks of WithPrio. No condition but the lists' lengths. -/
namespace Go.Proofs.Ytpnophmanpfejaa
set_option linter.unusedSimpArgs false
set_option linter.unusedVariables false
open Go.RowKit

theorem OwnInts.drewN {w : World} {B : Nat} {v : Value} {l : List Int} (h : OwnInts w B v l) (q : Nat) : OwnInts (w.drewN q) B v l := h

theorem RetInts.at_ {w W w' : World} {l : List Int} {u : Value} (hb : Below w.heap.size w W) (h1 : OwnInts w' W.heap.size u l) (h2 : Below W.heap.size W w') : RetInts w l (.returned u) w' := .mk' (h1.more hb.size) (Below.up hb h2)

end Go.Proofs.Ytpnophmanpfejaa

/- The walks of the functions that copy rows and arenas. Conditions: the lengths. -/
namespace Go.Proofs.Ytpnophmanpfejaa
set_option linter.unusedSimpArgs false
set_option linter.unusedVariables false
open Go.RowKit

set_option maxHeartbeats 400000 in
theorem l1Copy_any (v : Value) (l : List Int) (w : World) (hv : Ints w v l) (hl : l.length ≤ 1048576) :
    Calls Try.prog 140 #[v] w (RetInts w l) := by
  obtain ⟨A, c, rfl, hlc, hcm⟩ := hv.form
  obtain ⟨hown, hbn⟩ := new_ints w
  have hv1 := hv.kept (Kept.of hbn)
  have hs : w.heap.size ≤ (w.alloc (.cells #[] 2)).heap.size := by simp
  go_enter Try.func140, Try.ntmps140
  go_wp2_with (at_builtin; refine append_ints _ rfl (.tmp 3) (.tmp 4) rfl w.heap.size _ [] rfl hown _ l rfl hv1 (by simp; omega) hs ?_; intro v1 w1 ho1 hb1 hg1 hl1)
  go_ret
  exact .mk' (by simpa using ho1) (hbn.trans hb1)

theorem ORw.form' {w : World} {B C : Nat} {v : Value} {ll : List (List Int)} (h : ORw w B C v ll) : ∃ A c, v = .slice A ll.length c := by
  obtain ⟨vs, h⟩ := h
  obtain ⟨A, c, h1, _⟩ := h.rows.form
  exact ⟨A, c, h1⟩
theorem rx_snoc {ll : List (List Int)} {k : Nat} (hk : k < ll.length) : ll.take (k + 1) = ll.take k ++ [rx ll k] := by
  rw [rx_lt hk, List.take_succ_eq_append_getElem hk]
set_option maxHeartbeats 1000000 in
theorem copyLists_any (v : Value) (ll : List (List Int)) (w : World) (hv : Rows w v ll) (h1 : ll.length ≤ 1048576) (h2 : ∀ k, k < ll.length → (rx ll k).length ≤ 1048576) :
    Calls Try.prog 159 #[v] w (RetRows w ll) := by
  obtain ⟨A, c, rfl, hlc, hcm⟩ := hv.form
  obtain ⟨hown, hbn⟩ := new_rows w
  have Hall := Lib.hid (show ll.take ll.length = ll from List.take_length)
  go_enter Try.func159, Try.ntmps159
  go_wp2
  generalize w.alloc (.cells #[] 22) = w0 at *
  go_loopw [3, 9] (fun v i wr => ∃ (k : Nat) (vs : List Value), k ≤ ll.length ∧ i = .int .i64 k ∧ RowsV wr w.heap.size wr.heap.size v vs (ll.take k) ∧ Below w.heap.size w wr) (fun _ i _ => ll.length - (intOf i).toNat)
  case atStart => exact ⟨0, [], Nat.zero_le _, rfl, hown, hbn⟩
  case round =>
    obtain ⟨k, vs, hk, rfl, hown, hbw⟩ := hrel
    have hbs := hbw.size
    by_cases hlt : k < ll.length
    · obtain ⟨a2, R, r, rfl, hc2, hrow⟩ := ((hv.kept (Kept.of hbw))).at_ hlt
      have hl2 := h2 k hlt
      have Hs := Lib.hid (rx_snoc hlt)
      obtain ⟨hn0, hbn1⟩ := new_ints wr
      have hrow1 := hrow.kept (Kept.of hbn1)
      have hs1 : wr.heap.size ≤ (wr.alloc (.cells #[] 2)).heap.size := by simp
      have hlen : (ll.take k).length ≤ ll.length := by simp; omega
      go_wp2_with (first | (at_builtin; refine append_ints _ rfl (.tmp 14) (.tmp 15) rfl wr.heap.size (.slice (some ⟨wr.heap.size, 0, none⟩) 0 0) [] rfl hn0 (.slice R (rx ll k).length r) (rx ll k) rfl hrow1 (by simp; omega) hs1 ?_; intro v1 w1 ho1 hb1 hg1 hl1; rw [List.nil_append] at ho1; obtain ⟨A1, c1, e1, _⟩ := ho1.ints.form; subst e1; have hbW := hbn1.trans hb1; have hR1 := hown.kept (Only.of_below (B := wr.heap.size) (C := wr.heap.size) hbW) (.inl (Nat.le_refl _)); have hbs1 := Nat.le_trans hbs hbW.size) | (at_builtin; refine append_one elem_rows w1 rfl (.tmp 13) (.tmp 17) rfl w.heap.size u3 (ll.take k).length vs rfl hR1.own (.slice A1 (rx ll k).length c1) rfl rfl (by omega) hbs1 ?_; intro v2 w2 ho2 hg2 hl2))
      have hR2 := hR1.mono (Nat.le_refl _) (C' := w1.heap.size) hbW.size
      have hnew : OI w1 w.heap.size w1.heap.size (.slice A1 (rx ll k).length c1) (rx ll k) := ⟨ho1.more hbs, fun b hb => (ho1.lt b hb).2⟩
      have hne : ∀ j, j < (ll.take k).length → ∀ b, (vx vs j).ownBlock = some b → (Value.slice A1 (rx ll k).length c1).ownBlock ≠ some b := fun j hj b hb e => by
        have h3 := (hR1.row j hj).2 b hb
        have h4 := (ho1.lt b e).1
        omega
      exact ⟨⟨k + 1, _, by omega, by go_num, by rw [Hs.out]; exact RowsV.snoc hR2 hnew hne ho2 hg2 hg2.size (Nat.le_refl _), (hbw.trans (hbW.mono hbs)).grown hg2 hbs1 fun b hb => (hown.own.lt b hb).1⟩, by simp [intOf]; omega⟩
    · obtain rfl : k = ll.length := by omega
      rw [Hall.out] at hown
      go_wp2
      go_ret
      exact .mk' ⟨vs, hown⟩ hbw

def RetArena (w : World) (a : ArenaD) (e : Ending) (w' : World) : Prop := ∃ u, e = .returned u ∧ OA w' w.heap.size w'.heap.size u a ∧ Below w.heap.size w w'
theorem RetArena.mk' {w w' : World} {a : ArenaD} {u : Value} (h1 : OA w' w.heap.size w'.heap.size u a) (h2 : Below w.heap.size w w') : RetArena w a (.returned u) w' := ⟨u, rfl, h1, h2⟩

set_option maxRecDepth 100000 in
set_option maxHeartbeats 2000000 in
theorem copyArena_any (v : Value) (a : ArenaD) (w : World) (hv : IsArena w v a) (h0 : a.owner.length ≤ 1048576) (h1 : a.next.length ≤ 1048576) (h2 : ∀ k, k < a.next.length → (rx a.next k).length ≤ 1048576) :
    Calls Try.prog 145 #[v] w (RetArena w a) := by
  obtain ⟨o, n, rfl, hbw, hB, _⟩ := arena_box hv
  obtain ⟨ho, hn⟩ := hv.parts
  obtain ⟨A, c, rfl, hlc, hcm⟩ := ho.form
  obtain ⟨A', c', rfl, hlc', hcm'⟩ := hn.form
  have hR : Arr ((w.alloc (.cells #[.slice A a.owner.length c, .slice A' a.next.length c'] 30)).alloc (.cells #[.slice none 0 0, .slice none 0 0] 30)) (w.heap.size + 1) 30 [.slice none 0 0, .slice none 0 0] := by
    simpa using Arr.new (w.alloc (.cells #[.slice A a.owner.length c, .slice A' a.next.length c'] 30)) 30 [.slice none 0 0, .slice none 0 0]
  replace hB := hB.alloc (.cells #[.slice none 0 0, .slice none 0 0] 30)
  replace hbw := hbw.alloc hbw.size (.cells #[.slice none 0 0, .slice none 0 0] 30)
  have hBc0 := hB.c0
  have hBc1 := hB.c1
  go_enter Try.func145, Try.ntmps145
  go_wp2_with fail
  generalize (w.alloc (.cells #[.slice A a.owner.length c, .slice A' a.next.length c'] 30)).alloc (.cells #[.slice none 0 0, .slice none 0 0] 30) = w0 at *
  obtain ⟨hn0', hbn'⟩ := new_ints w0
  have hn0 : OwnInts (w0.alloc (.cells #[] 2)).drew w0.heap.size (.slice (some ⟨w0.heap.size, 0, none⟩) 0 0) [] := hn0'
  have hbn : Below w0.heap.size w0 (w0.alloc (.cells #[] 2)).drew := ⟨hbn'.os, hbn'.tape, hbn'.output, hbn'.size, hbn'.block⟩
  clear hn0' hbn'
  have hbs0 : w0.heap.size ≤ (w0.alloc (.cells #[] 2)).drew.heap.size := hbn.size
  have ho1 : Ints (w0.alloc (.cells #[] 2)).drew (.slice A a.owner.length c) a.owner := ((ho.kept (Kept.of hbw))).kept (Kept.of hbn)
  have hcall := fun W (hW : Kept w0 W) => copyLists_any _ a.next W (((hn.kept (Kept.of hbw))).kept hW) h1 h2
  have Hc := Lib.hid hcall
  clear hcall
  go_region_held3 (fun W => W.cell? ⟨w.heap.size, 0, none⟩ = some (.slice A a.owner.length c) ∧ W.cell? ⟨w.heap.size, 1, none⟩ = some (.slice A' a.next.length c'))
    (first | exact ⟨hB.c0, hB.c1⟩ | exact ⟨(hB.below hbn hB.lt).c0, (hB.below hbn hB.lt).c1⟩ | exact ⟨((hB.below hbn hB.lt).below hb1 hB.lt).c0, ((hB.below hbn hB.lt).below hb1 hB.lt).c1⟩ | exact ⟨hB5.c0, hB5.c1⟩ | exact ⟨((hB5.far (p := ⟨w.heap.size + 1, 0, none⟩) (by simp) _).far (p := ⟨w.heap.size + 1, 1, none⟩) (by simp) _).c0, ((hB5.far (p := ⟨w.heap.size + 1, 0, none⟩) (by simp) _).far (p := ⟨w.heap.size + 1, 1, none⟩) (by simp) _).c1⟩)
    (first | (refine step_append_ints _ rfl (.tmp 3) (.tmp 5) rfl w0.heap.size (.slice (some ⟨w0.heap.size, 0, none⟩) 0 0) [] rfl hn0 _ a.owner rfl ho1 (by simp; omega) hbs0 ?_; intro v1 w1 ho2 hb1 hg1 hl1; rw [List.nil_append] at ho2; obtain ⟨A2, c2, e2, _⟩ := ho2.ints.form; subst e2) | (go_at_call 159; refine (Hc.out _ (Kept.of (hbn.trans hb1))).mono ?_; rintro e w5 ⟨u5, rfl, hr5, hb5⟩; obtain ⟨A5, c5, e5⟩ := hr5.form'; subst e5; have hB5 := ((hB.below hbn hB.lt).below hb1 hB.lt).below hb5 (Nat.lt_of_lt_of_le hB.lt (hbn.trans hb1).size); have hR5 := ((hR.below hbn hR.lt).below hb1 hR.lt).below hb5 (Nat.lt_of_lt_of_le hR.lt (hbn.trans hb1).size); have q0 := hR5.c0; have q1 := hR5.c1; have q2 := hR5.frozen 0; have q3 := hR5.frozen 1))
  clear q0 q1 q2 q3
  have hbs1 := (hbn.trans hb1).size
  have hbs5 := hb5.size
  have hw0 := hR.lt
  have hR6 := (hR5.set_ 0 (.slice A2 a.owner.length c2)).set_ 1 (.slice A5 a.next.length c5)
  have hbw6 : Below w.heap.size w ((w5.setCell ⟨w.heap.size + 1, 0, none⟩ (.slice A2 a.owner.length c2)).setCell ⟨w.heap.size + 1, 1, none⟩ (.slice A5 a.next.length c5)) :=
    ((Below.up (Below.up hbw (hbn.trans hb1)) hb5).setCell (by simp) _).setCell (by simp) _
  have hch : ∀ b, w0.heap.size ≤ b → ((w5.setCell ⟨w.heap.size + 1, 0, none⟩ (.slice A2 a.owner.length c2)).setCell ⟨w.heap.size + 1, 1, none⟩ (.slice A5 a.next.length c5)).heap[b]? = w5.heap[b]? := fun b hb => by
    rw [Below.heap_setCell _ _ _ _ (by simp; omega), Below.heap_setCell _ _ _ _ (by simp; omega)]
  have hsz : ((w5.setCell ⟨w.heap.size + 1, 0, none⟩ (.slice A2 a.owner.length c2)).setCell ⟨w.heap.size + 1, 1, none⟩ (.slice A5 a.next.length c5)).heap.size = w5.heap.size := by simp
  generalize (w5.setCell ⟨w.heap.size + 1, 0, none⟩ (.slice A2 a.owner.length c2)).setCell ⟨w.heap.size + 1, 1, none⟩ (.slice A5 a.next.length c5) = w6 at *
  have q0 := hR6.c0
  have q1 := hR6.c1
  obtain ⟨vs, hr5⟩ := hr5
  have ho6 : OI w6 w.heap.size w6.heap.size (.slice A2 a.owner.length c2) a.owner := ((OI.of ho2).below hb5).mono (by have := hbw.size; omega) (by omega) |>.heap fun b hb => hch b (ho2.lt b hb).1
  have hr6 : RowsV w6 w.heap.size w6.heap.size (.slice A5 a.next.length c5) vs a.next := (hr5.mono (by have := hbw.size; omega) (by omega)).heap (fun b hb => hch b (by have := (hr5.own.lt b hb).1; omega)) fun k hk b hb => hch b (by have := ((hr5.row k hk).1.lt b hb).1; omega)
  go_wp2
  refine bodyPost_ret (v := .agg #[.slice A2 a.owner.length c2, .slice A5 a.next.length c5]) (by simp [results, Try.results145, go_sem, q0, q1]) rfl ?_
  exact .mk' ⟨_, _, vs, rfl, ho6, hr6, fun b hb k hk e => by have h3 := (ho2.lt b hb).2; have h4 := ((hr5.row k hk).1.lt b e).1; omega⟩ hbw6

set_option maxRecDepth 100000 in
set_option maxHeartbeats 2000000 in
theorem l1CopyArena_any (v : Value) (a : ArenaD) (w : World) (hv : IsArena w v a) (h0 : a.owner.length ≤ 1048576) (h1 : a.next.length ≤ 1048576) (h2 : ∀ k, k < a.next.length → (rx a.next k).length ≤ 1048576) :
    Calls Try.prog 133 #[v] w (RetArena w a) := by
  obtain ⟨o, n, rfl, hbw, hB, _⟩ := arena_box hv
  obtain ⟨ho, hn⟩ := hv.parts
  obtain ⟨A, c, rfl, hlc, hcm⟩ := ho.form
  obtain ⟨A', c', rfl, hlc', hcm'⟩ := hn.form
  have hR : Arr ((w.alloc (.cells #[.slice A a.owner.length c, .slice A' a.next.length c'] 30)).alloc (.cells #[.slice none 0 0, .slice none 0 0] 30)) (w.heap.size + 1) 30 [.slice none 0 0, .slice none 0 0] := by
    simpa using Arr.new (w.alloc (.cells #[.slice A a.owner.length c, .slice A' a.next.length c'] 30)) 30 [.slice none 0 0, .slice none 0 0]
  replace hB := hB.alloc (.cells #[.slice none 0 0, .slice none 0 0] 30)
  replace hbw := hbw.alloc hbw.size (.cells #[.slice none 0 0, .slice none 0 0] 30)
  go_enter Try.func133, Try.ntmps133
  have hBz := hB.lt
  have hBc0 := hB.c0
  have hBc1 := hB.c1
  have hRz := hR.lt
  have hRc0 := hR.c0
  have hRc1 := hR.c1
  go_wp2_with fail
  refine (l1Copy_any _ a.owner _ (ho.kept (Kept.of hbw)) h0).mono ?_
  rintro e w1 ⟨u1, rfl, ho1, hb1⟩
  obtain ⟨A1, c1, e1, _⟩ := ho1.ints.form
  subst e1
  have hbs1 := hb1.size
  have hw1 := hbw.size
  have ho2 := (OI.of ho1).mono (B' := w.heap.size + 2) (by simp) (Nat.le_refl _)
  clear hBc0 hBc1 hRc0 hRc1 hBz hRz
  replace hB := hB.below hb1 hB.lt
  replace hR := hR.below hb1 hR.lt
  replace hbw := Below.up hbw hb1
  have hb1s := hb1.size
  clear hb1
  have hBz := hB.lt
  have hBc0 := hB.c0
  have hBc1 := hB.c1
  have hRz := hR.lt
  have hRc0 := hR.c0
  have hRc1 := hR.c1
  have hRw1 := hR.lt
  clear hbs1 hw1 hb1s
  go_wp2
  have hX0 : Arr (w1.alloc (.cells #[.slice A1 a.owner.length c1, .slice none 0 0] 30)) w1.heap.size 30 [.slice A1 a.owner.length c1, .slice none 0 0] := Arr.new _ _ _
  have hbn := (Below.refl w1.heap.size w1).alloc (Nat.le_refl _) (.cells #[.slice A1 a.owner.length c1, .slice none 0 0] 30)
  replace ho2 := ho2.below hbn
  have hXl : w1.heap.size + 1 ≤ (w1.alloc (.cells #[.slice A1 a.owner.length c1, .slice none 0 0] 30)).heap.size := by simp
  have hrows := nil_rows (w1.alloc (.cells #[.slice A1 a.owner.length c1, .slice none 0 0] 30)) (w1.heap.size + 1) (w1.alloc (.cells #[.slice A1 a.owner.length c1, .slice none 0 0] 30)).heap.size
  clear ho1
  clear hBc0 hBc1 hRc0 hRc1 hBz hRz
  replace hB := hB.below hbn hB.lt
  replace hR := hR.below hbn hR.lt
  replace hbw := Below.up hbw hbn
  have hbns := hbn.size
  clear hbn
  have hBz := hB.lt
  have hBc0 := hB.c0
  have hBc1 := hB.c1
  have hRz := hR.lt
  have hRc0 := hR.c0
  have hRc1 := hR.c1
  clear hBc0 hBc1 hRc0 hRc1 hBz hRz
  have Hall := Lib.hid (show a.next.take a.next.length = a.next from List.take_length)
  generalize w1.alloc (.cells #[.slice A1 a.owner.length c1, .slice none 0 0] 30) = w2 at *
  go_loopw [4] (fun i wr => ∃ (k : Nat) (nv : Value) (vs : List Value), k ≤ a.next.length ∧ i = .int .i64 k ∧ Arr wr w.heap.size 30 [.slice A a.owner.length c, .slice A' a.next.length c'] ∧ Arr wr (w.heap.size + 1) 30 [.slice none 0 0, .slice none 0 0] ∧ Arr wr w1.heap.size 30 [.slice A1 a.owner.length c1, nv] ∧ OI wr (w.heap.size + 2) w1.heap.size (.slice A1 a.owner.length c1) a.owner ∧ RowsV wr (w1.heap.size + 1) wr.heap.size nv vs (a.next.take k) ∧ Below w.heap.size w wr) (fun i _ => a.next.length - (intOf i).toNat)
  case atStart => exact ⟨0, _, [], Nat.zero_le _, rfl, hB, hR, hX0, ho2, hrows, hbw⟩
  case round =>
    obtain ⟨k, nv, vs, hk, rfl, hB, hR, hX, hoi, hrw, hbw⟩ := hrel
    have hXlt := hX.lt
    have hBc0 := hB.c0
    have hBc1 := hB.c1
    by_cases hlt : k < a.next.length
    · obtain ⟨N, nc, en, _⟩ := hrw.rows.form
      have hlk : (a.next.take k).length = k := by simp; omega
      rw [hlk] at en
      have Hlk := Lib.hid hlk
      clear hlk
      subst en
      have hXc1 := hX.c1
      obtain ⟨a2, R, r, rfl, hc2, hrow⟩ := ((hn.kept (Kept.of hbw))).at_ hlt
      have hlt' : (k : Int) < a.next.length := by omega
      have hlen : (a.next.take k).length ≤ a.next.length := by simp; omega
      have Hs := Lib.hid (rx_snoc hlt)
      have Hc := Lib.hid (l1Copy_any _ (rx a.next k) wr.drew (hrow.kept (Kept.drew _)) (h2 k hlt))
      go_wp2_with fail
      go_region_law (first | (go_simp; go_at_call 140; refine Hc.out.mono ?_; rintro e w5 ⟨u5, rfl, ho5, hb5⟩; replace ho5 : OwnInts w5 wr.heap.size _ _ := ho5; replace hb5 := below_of_drew hb5; obtain ⟨A5, c5, e5, _⟩ := ho5.ints.form; subst e5; have q1 := (hB.below hb5 hB.lt).c1; have q3 := (hX.below hb5 hX.lt).c1; have q8 := ((hX.below hb5 hX.lt).alloc (.cells #[.slice A5 (rx a.next k).length c5] 22)).c1; have q4 := (Kept.of hb5).cell hc2; have hrw5 := (hrw.kept (Only.of_below (B := wr.heap.size) (C := wr.heap.size) hb5) (.inl (Nat.le_refl _)))) | (refine step_append_one elem_rows w5 rfl (.tmp 17) (.tmp 24) rfl (w1.heap.size + 1) (.slice N k nc) (a.next.take k).length vs rfl hrw5.own (.slice A5 (rx a.next k).length c5) rfl rfl (by omega) (by have := hb5.size; omega) ?_; intro v7 w7 ho7 hg7 hl7; have hbX : Below (w1.heap.size + 1) wr w7 := (hb5.mono (by omega)).grown hg7 (by have := hb5.size; omega) (fun b hb => (hrw5.own.lt b hb).1); have hX7 := hX.below hbX (Nat.lt_succ_self _); have q5 := hX7.c1; have q6 := hX7.frozen 1; obtain ⟨A7, c7, e7, _⟩ := SlF.of_own ho7; rw [Hlk.out] at e7; subst e7))
      all_goals
        have hbs5 := hb5.size
        have hB7 := (hB.below hbX (by omega)).far (p := ⟨w1.heap.size, 1, none⟩) (by simp; omega) (.slice A7 (k + 1) c7)
        have hR7 := (hR.below hbX (by omega)).far (p := ⟨w1.heap.size, 1, none⟩) (by simp; omega) (.slice A7 (k + 1) c7)
        have hX8 := hX7.set_ 1 (.slice A7 (k + 1) c7)
        have hoi7 := (hoi.heap fun b hb => hbX.block b (by have := hoi.2 b hb; omega)).heap (w' := w7.setCell ⟨w1.heap.size, 1, none⟩ (.slice A7 (k + 1) c7)) fun b hb => Below.heap_setCell _ _ _ _ (by have := hoi.2 b hb; simp; omega)
        have hnew : OI w5 (w1.heap.size + 1) w5.heap.size (.slice A5 (rx a.next k).length c5) (rx a.next k) := ⟨ho5.more (by omega), fun b hb => (ho5.lt b hb).2⟩
        have hne : ∀ j, j < (a.next.take k).length → ∀ b, (vx vs j).ownBlock = some b → (Value.slice A5 (rx a.next k).length c5).ownBlock ≠ some b := fun j hj b hb e => by
          have h3 := (hrw5.row j hj).2 b hb
          have h4 := (ho5.lt b e).1
          omega
        have hrw7 := RowsV.snoc (hrw5.mono (Nat.le_refl _) (C' := w5.heap.size) hbs5) hnew hne ho7 hg7 hg7.size (Nat.le_refl _)
        have hrw8 := hrw7.heap (w' := w7.setCell ⟨w1.heap.size, 1, none⟩ (.slice A7 (k + 1) c7)) (fun b hb => Below.heap_setCell _ _ _ _ (by have := (hrw7.own.lt b hb).1; simp; omega)) (fun j hj b hb => Below.heap_setCell _ _ _ _ (by have := ((hrw7.row j hj).1.lt b hb).1; simp; omega))
        have hbw8 : Below w.heap.size w (w7.setCell ⟨w1.heap.size, 1, none⟩ (.slice A7 (k + 1) c7)) := (hbw.trans (hbX.mono (by omega))).setCell (by simp; omega) _
        have hsz8 : (w7.setCell ⟨w1.heap.size, 1, none⟩ (.slice A7 (k + 1) c7)).heap.size = w7.heap.size := by simp
        have Hsz8 := Lib.hid hsz8
        clear hsz8 q1 q3 q4 q5 q6 q8
        go_wp2
        exact ⟨⟨k + 1, _, _, by omega, by go_num, hB7, hR7, hX8, hoi7, by rw [Hs.out, Hsz8.out]; exact hrw8, hbw8⟩, by simp [intOf]; omega⟩
    · obtain rfl : k = a.next.length := by omega
      rw [Hall.out] at hrw
      have hXc0 := hX.c0
      have hXc1 := hX.c1
      have hRc0 := hR.c0
      have hRc1 := hR.c1
      have hRf0 := hR.frozen 0
      have hRf1 := hR.frozen 1
      obtain ⟨N, nc, en, _⟩ := hrw.rows.form
      subst en
      go_wp2
      have hR6 := (hR.set_ 0 (.slice A1 a.owner.length c1)).set_ 1 (.slice N a.next.length nc)
      have hbw6 : Below w.heap.size w ((wr.setCell ⟨w.heap.size + 1, 0, none⟩ (.slice A1 a.owner.length c1)).setCell ⟨w.heap.size + 1, 1, none⟩ (.slice N a.next.length nc)) := (hbw.setCell (by simp) _).setCell (by simp) _
      have hch : ∀ b, w.heap.size + 2 ≤ b → ((wr.setCell ⟨w.heap.size + 1, 0, none⟩ (.slice A1 a.owner.length c1)).setCell ⟨w.heap.size + 1, 1, none⟩ (.slice N a.next.length nc)).heap[b]? = wr.heap[b]? := fun b hb => by
        rw [Below.heap_setCell _ _ _ _ (by simp; omega), Below.heap_setCell _ _ _ _ (by simp; omega)]
      have hsz : ((wr.setCell ⟨w.heap.size + 1, 0, none⟩ (.slice A1 a.owner.length c1)).setCell ⟨w.heap.size + 1, 1, none⟩ (.slice N a.next.length nc)).heap.size = wr.heap.size := by simp
      generalize (wr.setCell ⟨w.heap.size + 1, 0, none⟩ (.slice A1 a.owner.length c1)).setCell ⟨w.heap.size + 1, 1, none⟩ (.slice N a.next.length nc) = w6 at *
      have q0 := hR6.c0
      have q1 := hR6.c1
      have ho6 : OI w6 w.heap.size w6.heap.size (.slice A1 a.owner.length c1) a.owner := (hoi.heap fun b hb => hch b (hoi.1.lt b hb).1).mono (by omega) (by omega)
      have hr6 : RowsV w6 w.heap.size w6.heap.size (.slice N a.next.length nc) vs a.next := (hrw.heap (fun b hb => hch b (by have := (hrw.own.lt b hb).1; omega)) fun k hk b hb => hch b (by have := ((hrw.row k hk).1.lt b hb).1; omega)).mono (by omega) (by omega)
      refine bodyPost_ret (v := .agg #[.slice A1 a.owner.length c1, .slice N a.next.length nc]) (by simp [results, Try.results133, go_sem, q0, q1]) rfl ?_
      exact .mk' ⟨_, _, vs, rfl, ho6, hr6, fun b hb k hk e => by have h3 := hoi.2 b hb; have h4 := ((hrw.row k hk).1.lt b e).1; omega⟩ hbw6
end Go.Proofs.Ytpnophmanpfejaa

/- How a struct that came in by value is opened into the words of Mem. -/
namespace Go.Proofs.Ytpnophmanpfejaa
set_option linter.unusedSimpArgs false
set_option linter.unusedVariables false
open Go.ChangeShapes Go.WideShapes Go.ChangeAt Go.RowKit Go.Deep Go.Joins

section
variable {H : Type} {enc : TypeId × Value → H} {W : World} {base : Nat} {spare : Nat → Bool} {held : Bool}

set_option maxRecDepth 100000 in
theorem ints_of_cells {fuel : Nat} {v : Value} {x : DataW H × List MemPlace} (hf : DataW.trod enc Try.prog W base spare held fuel 22 [v] = some x) : ∃ l, Ints W v l := by
  rcases open_ints Try.underlying22 Try.underlying2 (by kernel_rfl) hf with ⟨hcs, _⟩ | ⟨x, l, c, zs, hcs, _, hl, hm, hz, _, hcell, hwz⟩
  · simp at hcs
    subst hcs
    exact ⟨[], none, 0, rfl, Nat.le_refl _, by omega, fun k hk => absurd hk (Nat.not_lt_zero _)⟩
  · simp at hcs
    subst hcs
    have hz' : l ≤ zs.length := by rw [hz]; split <;> omega
    have hlen : (zs.take l).length = l := by simp only [List.length_take]; omega
    refine ⟨zs.take l, some x, c, by rw [hlen], by rw [hlen]; exact hl, by unfold maxLen at hm; omega, fun k hk => ⟨x, rfl, ?_⟩⟩
    rw [hlen] at hk
    rw [hcell k (by omega)]
    have : ix (zs.take l) k = zs.getD k 0 := by simp [ix, hk]
    simp only [this]

set_option maxRecDepth 100000 in
theorem rows_of_cells {fuel : Nat} {v : Value} {x : DataW H × List MemPlace} (hf : DataW.trod enc Try.prog W base spare held fuel 23 [v] = some x) : ∃ l, Rows W v l := by
  rcases open_slice1 Try.underlying23 (by kernel_rfl) hf with ⟨hcs, _⟩ | ⟨a, len, cap, m, n, V, D, Pl, hcs, _, hl, hm, hmm, _, hx⟩
  · simp at hcs
    subst hcs
    exact ⟨[], fun _ => undef, ⟨none, 0, rfl, Nat.le_refl _, by omega, fun k hk => absurd hk (Nat.not_lt_zero _)⟩, fun k hk => absurd hk (Nat.not_lt_zero _)⟩
  · simp at hcs
    subst hcs
    have hlm : len ≤ m := by rw [hmm]; split <;> omega
    have hrow : ∀ i, ∃ l, i < m → Ints W (V i) l := fun i => by
      by_cases hi : i < m
      · obtain ⟨l, hl⟩ := ints_of_cells (hx i hi).2
        exact ⟨l, fun _ => hl⟩
      · exact ⟨[], fun h => absurd h hi⟩
    let L : Nat → List Int := fun i => (hrow i).choose
    have hL : ∀ i, i < m → Ints W (V i) (L i) := fun i => (hrow i).choose_spec
    have hlen : ((List.range len).map L).length = len := by simp
    refine ⟨(List.range len).map L, V, ⟨some a, cap, by rw [hlen], by rw [hlen]; exact hl, by unfold maxLen at hm; omega, fun k hk => ⟨a, rfl, (hx k (by rw [hlen] at hk; omega)).1⟩⟩, fun k hk => ?_⟩
    rw [hlen] at hk
    have : rx ((List.range len).map L) k = L k := by simp [rx, hk]
    rw [this]
    exact hL k (by omega)
set_option maxRecDepth 100000 in
theorem arena_of_trod {r : Reach} {b0 : Nat} {v : Value} {d : DataW H} {p : List MemPlace} (hv : Value.okWide Try.prog W r b0 25 v) (h : DataW.Trod enc Try.prog W base spare held 25 v d p) :
    ∃ a, IsArena W v a := by
  obtain ⟨v0, v1, y0, y1, n, rfl, _, _, h0, h1⟩ := open_agg2 Try.underlying25 (by kernel_rfl) (by kernel_rfl) hv h
  obtain ⟨l, hl⟩ := ints_of_cells h0
  obtain ⟨ll, hll⟩ := rows_of_cells h1
  exact ⟨⟨l, ll⟩, v0, v1, rfl, hl, hll⟩
set_option maxRecDepth 100000 in
theorem parity_of_trod {r : Reach} {b0 : Nat} {v : Value} {d : DataW H} {p : List MemPlace} (hv : Value.okWide Try.prog W r b0 27 v) (h : DataW.Trod enc Try.prog W base spare held 27 v d p) :
    ∃ a, IsParity W v a := by
  obtain ⟨cs, rfl, hsz⟩ := okWide_struct Try.underlying27 hv
  obtain ⟨c0, c1, c2, rfl⟩ := array3 (hsz.trans (by kernel_rfl))
  obtain ⟨fuel, hf⟩ := h
  obtain ⟨y0, y1, n, hx, _, h0, h1⟩ := trod_struct2 Try.underlying27 hf
  have k0 : Try.prog.cellsOf 25 = 2 := by kernel_rfl
  have k1 : Try.prog.cellsOf 22 = 1 := by kernel_rfl
  have h0' : DataW.trod enc Try.prog W base spare held n 25 [c0, c1] = some y0 := by simpa [Value.cells, k0] using h0
  have h1' : DataW.trod enc Try.prog W base spare held n 22 [c2] = some y1 := by simpa [Value.cells, k1] using h1
  obtain ⟨z0, z1, m, _, _, g0, g1⟩ := trod_struct2 Try.underlying25 h0'
  have k2 : Try.prog.cellsOf 23 = 1 := by kernel_rfl
  have g0' : DataW.trod enc Try.prog W base spare held m 22 [c0] = some z0 := by simpa [k1] using g0
  have g1' : DataW.trod enc Try.prog W base spare held m 23 [c1] = some z1 := by simpa [k2] using g1
  obtain ⟨l, hl⟩ := ints_of_cells g0'
  obtain ⟨ll, hll⟩ := rows_of_cells g1'
  obtain ⟨l2, hl2⟩ := ints_of_cells h1'
  exact ⟨⟨⟨l, ll⟩, l2⟩, c0, c1, c2, rfl, hl, hll, hl2⟩
set_option maxRecDepth 100000 in
theorem answer_of_trod {r : Reach} {b0 : Nat} {v : Value} {d : DataW H} {p : List MemPlace} (hv : Value.okWide Try.prog W r b0 47 v) (h : DataW.Trod enc Try.prog W base spare held 47 v d p) :
    ∃ a, IsTwo W v a := by
  obtain ⟨v0, v1, y0, y1, n, rfl, _, _, h0, h1⟩ := open_agg2 Try.underlying47 (by kernel_rfl) (by kernel_rfl) hv h
  obtain ⟨l, hl⟩ := ints_of_cells h0
  obtain ⟨ll, hll⟩ := ints_of_cells h1
  exact ⟨⟨l, ll⟩, v0, v1, rfl, hl, hll⟩
end
end Go.Proofs.Ytpnophmanpfejaa
