/- Texts of this claim that go together: Queue, ReachWalks, TrapWalks2, PredsWalks, FullWalks, RankWalks, RankWalks2. Conditions: those that each theorem names. -/
import Derived.Test.YtmkmghjmfaoobaaPkB
import Derived.Test.YtmkmghjmfaoobaaPkA
import Derived.ArgAppend
import Derived.Test.YtmkmghjmfaoobaaPkC
import Derived.Deep.LoopGhost
/- The walks of PredsOf, LeastFull, FullIn and what they call. No condition. -/
namespace Go.Proofs.Ytmkmghjmfaoobaa
set_option linter.unusedSimpArgs false
set_option linter.unusedVariables false
open Go.RowKit

/-- The vertices below k of which u is a successor. -/
def predTo (a : ArenaD) (u : Int) (k : Nat) : List Int := (upFrom 0 k).filter fun v => hasB (rx a.next v.toNat) u
theorem predTo_succ (a : ArenaD) (u : Int) (k : Nat) : predTo a u (k + 1) = predTo a u k ++ if hasB (rx a.next k) u = true then [(k : Int)] else [] := by
  unfold predTo
  rw [upFrom_snoc, List.filter_append]
  congr 1
  by_cases h : hasB (rx a.next k) u = true <;> simp [h]
theorem predTo_len (a : ArenaD) (u : Int) (k : Nat) : (predTo a u k).length ≤ k := by
  have := List.length_filter_le (fun v => hasB (rx a.next v.toNat) u) (upFrom 0 k)
  rw [length_upFrom] at this
  exact this
def predG (a : ArenaD) (u : Int) : List Int := if arenaOkB a && thereB a u then predTo a u a.owner.length else []

/-- n times -1. -/
def noneL (n : Nat) : List Int := List.replicate n (-1)
@[simp] theorem length_noneL (n : Nat) : (noneL n).length = n := by simp [noneL]
theorem ix_noneL {n k : Nat} (h : k < n) : ix (noneL n) k = -1 := by simp [ix, noneL, h]
theorem IArr.new (w : World) (n : Nat) : IArr (w.alloc (.cells (zeros (.int .i64 0) n).toArray 2)) w.heap.size (List.replicate n 0) := by
  have := Arr.new w 2 (zeros (.int .i64 0) n)
  unfold IArr
  rwa [List.map_replicate]

set_option maxHeartbeats 1000000 in
theorem noPlan_any (v : Value) (a : ArenaD) (w : World) (hv : IsArena w v a) (hn : a.owner.length ≤ 1048576) :
    Calls Try.prog 64 #[v] w fun e w' => ∃ g, e = .returned (.slice (some ⟨g, 0, none⟩) a.owner.length a.owner.length) ∧ w.heap.size ≤ g ∧ IArr w' g (noneL a.owner.length) ∧ Below w.heap.size w w' := by
  obtain ⟨o, n, rfl, hbw, hB⟩ := arena_open hv
  obtain ⟨ho, hn1⟩ := hv.parts
  obtain ⟨A, c, rfl, hlc, hcm⟩ := ho.form
  have hmk := make_one elem_int64 a.owner.length (by omega)
  have hBc0 := hB.c0
  go_enter Try.func64, Try.ntmps64
  go_wp2
  clear hmk
  have hM := IArr.new (w.alloc (.cells #[.slice A a.owner.length c, n] 30)) a.owner.length
  have hb2 := hbw.alloc hbw.size (.cells (zeros (.int .i64 0) a.owner.length).toArray 2)
  have hsz : (w.alloc (.cells #[.slice A a.owner.length c, n] 30)).heap.size = w.heap.size + 1 := by simp
  rw [hsz] at hM
  clear hsz hBc0 hB hbw
  generalize (w.alloc (.cells #[.slice A a.owner.length c, n] 30)).alloc (.cells (zeros (.int .i64 0) a.owner.length).toArray 2) = w0 at *
  go_loopw [11] (fun i wr => ∃ (k : Nat) (l : List Int), k ≤ a.owner.length ∧ i = .int .i64 k ∧ IArr wr (w.heap.size + 1) l ∧ l.length = a.owner.length ∧ (∀ j, j < k → ix l j = -1) ∧ Below w.heap.size w wr) (fun i _ => a.owner.length - (intOf i).toNat)
  case atStart => exact ⟨0, _, Nat.zero_le _, rfl, hM, by simp, fun j hj => by omega, hb2⟩
  case round =>
    obtain ⟨k, l, hk, rfl, hM, hl, hm, hbw⟩ := hrel
    have Hl := Lib.hid hl
    clear hl
    have Hm := Lib.hid hm
    clear hm
    by_cases hlt : k < a.owner.length
    · have hc2 := hM.cell (k := k) (by rw [Hl.out]; exact hlt)
      have hf2 := hM.frozen k
      have hset := hM.set_ k (-1)
      have hlt' : (k : Int) < a.owner.length := by omega
      go_wp2
      refine ⟨⟨k + 1, _, by omega, by go_num, hset, by simpa using Hl.out, fun j hj => ?_, hbw.setCell (by simp) _⟩, by simp [intOf]; omega⟩
      rw [ix_set (by rw [Hl.out]; exact hlt)]
      split
      · rfl
      · exact Hm.out j (by omega)
    · obtain rfl : k = a.owner.length := by omega
      have hll : l = noneL a.owner.length := int_range_ext (by simpa using Hl.out) fun j hj => by
        rw [length_noneL] at hj
        rw [ix_noneL hj]; exact Hm.out j hj
      subst hll
      go_wp2
      go_ret
      exact ⟨_, rfl, by omega, hM, hbw⟩
theorem predG_len (a : ArenaD) (u : Int) : (predG a u).length ≤ 1048576 := by
  unfold predG
  split
  · rename_i h
    simp only [Bool.and_eq_true] at h
    have := predTo_len a u a.owner.length
    have := (arenaOkB_iff.1 h.1).le
    omega
  · simp
end Go.Proofs.Ytmkmghjmfaoobaa

/- The walks of LeastFull, FullIn and what they call. No condition. -/
namespace Go.Proofs.Ytmkmghjmfaoobaa
set_option linter.unusedSimpArgs false
set_option linter.unusedVariables false
open Go.RowKit

theorem add_zero' (a : Addr) : a.add 0 = a := by unfold Addr.add; simp
def lfAt (a : ArenaD) (who : Int) (v : Nat) : Int := if ix a.owner v = who then ix (rx a.next v) 0 else -1
def lfTo (a : ArenaD) (who : Int) (k : Nat) : List Int := (List.range k).map fun v => lfAt a who v
@[simp] theorem length_lfTo (a : ArenaD) (who : Int) (k : Nat) : (lfTo a who k).length = k := by simp [lfTo]
theorem ix_lfTo {a : ArenaD} {who : Int} {k j : Nat} (h : j < k) : ix (lfTo a who k) j = lfAt a who j := by simp [ix, lfTo, h]
theorem lfTo_succ (a : ArenaD) (who : Int) (k : Nat) : lfTo a who (k + 1) = lfTo a who k ++ [lfAt a who k] := by simp [lfTo, List.range_succ]
def lfG (a : ArenaD) (who : Int) : List Int := if arenaOkB a && playerB who then lfTo a who a.owner.length else []

/-- Has vertex v a move, if who owns it? -/
def movesB (a : ArenaD) (who : Int) (plan : List Int) (v : Nat) : Bool := !(decide (ix a.owner v = who) && decide (ix plan v < 0))
def movesAll (a : ArenaD) (who : Int) (plan : List Int) : Bool := decide (∀ v, v < plan.length → movesB a who plan v = true)
def fullB (a : ArenaD) (who : Int) (plan : List Int) : Bool := planB a who plan && movesAll a who plan
def fullG (a : ArenaD) (who : Int) (plan : List Int) : Bool := arenaOkB a && (playerB who && fullB a who plan)
theorem movesAll_bad {a : ArenaD} {who : Int} {plan : List Int} {k : Nat} (hk : k < plan.length) (h : movesB a who plan k = false) : movesAll a who plan = false := by
  unfold movesAll
  rw [decide_eq_false_iff_not]
  intro h'
  rw [h' k hk] at h; cases h

set_option maxRecDepth 100000 in
set_option maxHeartbeats 1000000 in
theorem specFullIn_any (v : Value) (a : ArenaD) (who : Int) (u : Value) (plan : List Int) (w : World) (hv : IsArena w v a) (hu : Ints w u plan) :
    Calls Try.prog 103 #[v, .int .i64 who, u] w fun e w' => e = .returned (.bool (fullG a who plan)) ∧ Below w.heap.size w w' := by
  obtain ⟨o, n, rfl, hbw, hB⟩ := arena_open hv
  obtain ⟨ho, hn⟩ := hv.parts
  obtain ⟨A, c, rfl, hlc, hcm⟩ := ho.form
  obtain ⟨A2, c2, rfl, hlc2, hcm2⟩ := hu.form
  have hfg : fullG a who plan = (planOkB a who plan && movesAll a who plan) := by unfold fullG planOkB fullB; rw [Bool.and_assoc, Bool.and_assoc]
  rw [hfg]; clear hfg
  cases hE : planOkB a who plan
  · rw [Bool.false_and]
    go_enter Try.func103, Try.ntmps103
    have hBz := hB.lt
    have hBc0 := hB.c0
    have hBc1 := hB.c1
    go_wp2_with fail
    refine (specPlanOk_any _ a who _ plan _ (hv.kept (Kept.of hbw)) (hu.kept (Kept.of hbw))).mono ?_
    rintro e w1 ⟨rfl, hb1⟩
    clear hBc0 hBc1 hBz
    replace hB := hB.below hb1 hB.lt
    replace hbw := Below.up hbw hb1
    have hb1s := hb1.size
    clear hb1
    have hBz := hB.lt
    have hBc0 := hB.c0
    have hBc1 := hB.c1
    go_wp2
    go_ret
    exact ⟨rfl, hbw⟩
  · rw [Bool.true_and]
    have hp : PlanOk a who plan := by
      unfold planOkB at hE
      simp only [Bool.and_eq_true] at hE
      exact planB_iff.1 hE.2.2
    have Hpl := Lib.hid hp.len
    clear hp
    go_enter Try.func103, Try.ntmps103
    have hBz := hB.lt
    have hBc0 := hB.c0
    have hBc1 := hB.c1
    go_wp2_with fail
    refine (specPlanOk_any _ a who _ plan _ (hv.kept (Kept.of hbw)) (hu.kept (Kept.of hbw))).mono ?_
    rintro e w1 ⟨rfl, hb1⟩
    clear hBc0 hBc1 hBz
    replace hB := hB.below hb1 hB.lt
    replace hbw := Below.up hbw hb1
    have hb1s := hb1.size
    clear hb1
    have hBz := hB.lt
    have hBc0 := hB.c0
    have hBc1 := hB.c1
    go_wp2
    have hu1 := (hu.kept (Kept.of hbw))
    have ho1 := (ho.kept (Kept.of hbw))
    go_loop [7] (fun i => ∃ k : Nat, k ≤ plan.length ∧ i = .int .i64 k ∧ ∀ j, j < k → movesB a who plan j = true) (fun i => plan.length - (intOf i).toNat)
    case atStart => exact ⟨0, Nat.zero_le _, rfl, fun j hj => by omega⟩
    case round =>
      obtain ⟨k, hk, rfl, hm⟩ := hrel
      have Hm := Lib.hid hm
      clear hm
      by_cases hlt : k < plan.length
      · have hko : k < a.owner.length := by rw [← Hpl.out]; exact hlt
        obtain ⟨a1, rfl, hc1⟩ := hu1.at_ hlt
        obtain ⟨a2, rfl, hc2⟩ := ho1.at_ hko
        have hko' : (k : Int) < a.owner.length := by omega
        have hlt' : (k : Int) < plan.length := by omega
        by_cases e : ix a.owner k = who
        · have hd : (ix a.owner k == who) = true := by simpa using e
          by_cases e2 : ix plan k < 0
          · have Hb := Lib.hid (movesAll_bad (a := a) (who := who) hlt (by unfold movesB; simp [e, e2]))
            clear e
            go_wp2
            go_ret
            exact ⟨by rw [Hb.out]; rfl, hbw⟩
          · have Hb := Lib.hid (show movesB a who plan k = true by unfold movesB; simp [e2])
            clear e
            go_wp2
            exact ⟨⟨k + 1, by omega, by go_num, fun j hj => by
              by_cases ej : j = k
              · rw [ej]; exact Hb.out
              · exact Hm.out j (by omega)⟩, by simp [intOf]; omega⟩
        · have hd : (ix a.owner k == who) = false := by simpa using e
          have Hb := Lib.hid (show movesB a who plan k = true by unfold movesB; simp [e])
          clear e
          go_wp2
          exact ⟨⟨k + 1, by omega, by go_num, fun j hj => by
            by_cases ej : j = k
            · rw [ej]; exact Hb.out
            · exact Hm.out j (by omega)⟩, by simp [intOf]; omega⟩
      · have Ht := Lib.hid (show movesAll a who plan = true by unfold movesAll; rw [decide_eq_true_eq]; exact fun j hj => Hm.out j (by omega))
        go_wp2
        go_ret
        exact ⟨by rw [Ht.out]; rfl, hbw⟩
theorem lfG_len (a : ArenaD) (who : Int) : (lfG a who).length ≤ 1048576 := by
  unfold lfG
  split
  · rename_i h
    simp only [Bool.and_eq_true] at h
    have := (arenaOkB_iff.1 h.1).le
    simp; omega
  · simp
end Go.Proofs.Ytmkmghjmfaoobaa

/- The walks of EscapesIn and TrapIn, both ways. Conditions: the lists' lengths. -/
namespace Go.Proofs.Ytmkmghjmfaoobaa
set_option linter.unusedSimpArgs false
set_option linter.unusedVariables false
open Go.RowKit

set_option maxHeartbeats 1000000 in
theorem l3Ok_any (v : Value) (a : ArenaD) (who : Int) (u : Value) (s : List Int) (w : World) (hv : IsArena w v a) (hu : Ints w u s) :
    Calls Try.prog 73 #[v, .int .i64 who, u] w fun e w' => e = .returned (.bool (l3OkB a who s)) ∧ Below w.heap.size w w' := by
  obtain ⟨o, n, rfl, hbw, hB⟩ := arena_open hv
  obtain ⟨ho, hn⟩ := hv.parts
  obtain ⟨A, c, rfl, hlc, hcm⟩ := ho.form
  cases hE : arenaOkB a
  · have hres : l3OkB a who s = false := by unfold l3OkB; rw [hE]; rfl
    rw [hres]; clear hres
    go_enter Try.func73, Try.ntmps73
    have hBz := hB.lt
    have hBc0 := hB.c0
    have hBc1 := hB.c1
    go_wp2_with fail
    refine (specArenaOk_any _ a _ (hv.kept (Kept.of hbw))).mono ?_
    rintro e w1 ⟨rfl, hb1⟩
    clear hBc0 hBc1 hBz
    replace hB := hB.below hb1 hB.lt
    replace hbw := Below.up hbw hb1
    have hb1s := hb1.size
    clear hb1
    have hBz := hB.lt
    have hBc0 := hB.c0
    have hBc1 := hB.c1
    go_wp2
    go_ret
    exact ⟨rfl, hbw⟩
  · cases hE2 : playerB who
    · have hres : l3OkB a who s = false := by unfold l3OkB; rw [hE, hE2]; rfl
      rw [hres]; clear hres
      go_enter Try.func73, Try.ntmps73
      have hBz := hB.lt
      have hBc0 := hB.c0
      have hBc1 := hB.c1
      go_wp2_with fail
      refine (specArenaOk_any _ a _ (hv.kept (Kept.of hbw))).mono ?_
      rintro e w1 ⟨rfl, hb1⟩
      clear hBc0 hBc1 hBz
      replace hB := hB.below hb1 hB.lt
      replace hbw := Below.up hbw hb1
      have hb1s := hb1.size
      clear hb1
      have hBz := hB.lt
      have hBc0 := hB.c0
      have hBc1 := hB.c1
      go_wp2_with fail
      refine (same_below (l1In_player who _)).mono ?_
      rintro e w2 ⟨rfl, hb2⟩
      clear hBc0 hBc1 hBz
      replace hB := hB.below hb2 hB.lt
      replace hbw := Below.up hbw hb2
      have hb2s := hb2.size
      clear hb2
      have hBz := hB.lt
      have hBc0 := hB.c0
      have hBc1 := hB.c1
      go_wp2
      go_ret
      exact ⟨rfl, hbw⟩
    · have hres : l3OkB a who s = isSetB s a.owner.length := by unfold l3OkB; rw [hE, hE2]; rfl
      rw [hres]; clear hres
      go_enter Try.func73, Try.ntmps73
      have hBz := hB.lt
      have hBc0 := hB.c0
      have hBc1 := hB.c1
      go_wp2_with fail
      refine (specArenaOk_any _ a _ (hv.kept (Kept.of hbw))).mono ?_
      rintro e w1 ⟨rfl, hb1⟩
      clear hBc0 hBc1 hBz
      replace hB := hB.below hb1 hB.lt
      replace hbw := Below.up hbw hb1
      have hb1s := hb1.size
      clear hb1
      have hBz := hB.lt
      have hBc0 := hB.c0
      have hBc1 := hB.c1
      go_wp2_with fail
      refine (same_below (l1In_player who _)).mono ?_
      rintro e w2 ⟨rfl, hb2⟩
      clear hBc0 hBc1 hBz
      replace hB := hB.below hb2 hB.lt
      replace hbw := Below.up hbw hb2
      have hb2s := hb2.size
      clear hb2
      have hBz := hB.lt
      have hBc0 := hB.c0
      have hBc1 := hB.c1
      go_wp2_with fail
      refine (drew_below (l1Set_any _ s _ _ (hu.kept (Kept.of hbw)) (by omega) (by omega))).mono ?_
      rintro e w3 ⟨rfl, hb3⟩
      clear hBc0 hBc1 hBz
      replace hB := hB.below hb3 hB.lt
      replace hbw := Below.up hbw hb3
      have hb3s := hb3.size
      clear hb3
      have hBz := hB.lt
      have hBc0 := hB.c0
      have hBc1 := hB.c1
      go_wp2
      go_ret
      exact ⟨rfl, hbw⟩

theorem Ints.nil (w : World) : Ints w (.slice none 0 0) [] := ⟨none, 0, rfl, Nat.le_refl _, by omega, fun k hk => absurd hk (Nat.not_lt_zero _)⟩

theorem not_eq_comm' {a b : Bool} (h : (!a) = b) : a = !b := by cases a <;> cases b <;> simp_all
end Go.Proofs.Ytmkmghjmfaoobaa

/- Slices of a call's own that lie anywhere in their block: queues and stacks; slices of them. Condition: the lengths are below 2^40. -/
namespace Go.Proofs.Ytmkmghjmfaoobaa
set_option linter.unusedSimpArgs false
set_option linter.unusedVariables false
open Go.RowKit

/-- v is a slice of int64s of the call's own, from block B on, anywhere in its block, that holds l. -/
def OwnQ (w : World) (B : Nat) (v : Value) (l : List Int) : Prop :=
  (v = .slice none 0 0 ∧ l = []) ∨ ∃ g off cap cur, v = .slice (some ⟨g, off, none⟩) l.length cap ∧ B ≤ g ∧ w.heap[g]? = some (.cells cur 2 (0, 0)) ∧ l.length ≤ cap ∧ cap ≤ maxLen ∧ off + cap ≤ cur.size ∧ ∀ j, j < l.length → cur[off + j]? = some (.int .i64 (ix l j))

theorem OwnQ.of_own {w : World} {B : Nat} {v : Value} {l : List Int} (h : OwnInts w B v l) : OwnQ w B v l := by
  rcases h.2 with ⟨rfl, h2⟩ | ⟨g, cap, cur, rfl, hB, hg, hnc, hcm, hcs, ht⟩
  · exact .inl ⟨rfl, List.eq_nil_of_length_eq_zero h2⟩
  · refine .inr ⟨g, 0, cap, cur, rfl, hB, hg, hnc, hcm, by omega, fun j hj => ?_⟩
    have h1 : cur.toList[j]? = (l.map (Value.int .i64))[j]? := by
      rw [← ht, List.getElem?_take, if_pos (by omega)]
    rw [Nat.zero_add, ← Array.getElem?_toList, h1]
    simp [ix, hj]
theorem OwnQ.heap {w w' : World} {B : Nat} {v : Value} {l : List Int} (h : OwnQ w B v l) (hh : ∀ b, v.ownBlock = some b → w'.heap[b]? = w.heap[b]?) : OwnQ w' B v l := by
  rcases h with h | ⟨g, off, cap, cur, rfl, hB, hg, rest⟩
  · exact .inl h
  · exact .inr ⟨g, off, cap, cur, rfl, hB, (hh g rfl).trans hg, rest⟩
theorem OwnQ.lt {w : World} {B : Nat} {v : Value} {l : List Int} (h : OwnQ w B v l) : ∀ b, v.ownBlock = some b → B ≤ b ∧ b < w.heap.size := by
  intro b hb
  rcases h with ⟨rfl, _⟩ | ⟨g, off, cap, cur, rfl, hB, hg, _⟩
  · simp [Value.ownBlock] at hb
  · simp only [Value.ownBlock, Option.some.injEq] at hb
    subst hb
    exact ⟨hB, (Array.getElem?_eq_some_iff.1 hg).1⟩
theorem OwnQ.below {w w' : World} {B : Nat} {v : Value} {l : List Int} (h : OwnQ w B v l) (hb : Below w.heap.size w w') : OwnQ w' B v l := h.heap fun b hbb => hb.block b (h.lt b hbb).2
theorem OwnQ.more {w : World} {B B' : Nat} {v : Value} {l : List Int} (h : OwnQ w B v l) (hB : B' ≤ B) : OwnQ w B' v l := by
  rcases h with h | ⟨g, off, cap, cur, rfl, hg, rest⟩
  · exact .inl h
  · exact .inr ⟨g, off, cap, cur, rfl, Nat.le_trans hB hg, rest⟩
theorem OwnQ.drewN {w : World} {B : Nat} {v : Value} {l : List Int} (h : OwnQ w B v l) (n : Nat) : OwnQ (w.drewN n) B v l := h
theorem OwnQ.ints {w : World} {B : Nat} {v : Value} {l : List Int} (h : OwnQ w B v l) : Ints w v l := by
  rcases h with ⟨rfl, rfl⟩ | ⟨g, off, cap, cur, rfl, hB, hg, hlc, hcm, hcs, hc⟩
  · exact ⟨none, 0, rfl, Nat.le_refl _, by omega, fun k hk => by simp at hk⟩
  · refine ⟨_, cap, rfl, hlc, by unfold maxLen at hcm; omega, fun k hk => ⟨_, rfl, ?_⟩⟩
    have hadd : (⟨g, off, none⟩ : Addr).add k = ⟨g, off + k, none⟩ := by unfold Addr.add; split <;> simp_all
    rw [hadd, cell_of_row w g (off + k) cur _ (0, 0) hg, hc k hk]
/-- Rows of bools lie in other blocks. -/
theorem OwnQ.ne_bools {w : World} {B B' : Nat} {v u : Value} {l : List Int} {m : List Bool} (h : OwnQ w B v l) (k : OwnBools w B' u m) {b : Nat} (hb : v.ownBlock = some b) : u.ownBlock ≠ some b := by
  intro hb'
  rcases h with ⟨rfl, _⟩ | ⟨g, off, cap, cur, rfl, hB, hg, _⟩
  · simp [Value.ownBlock] at hb
  · rcases k.2 with ⟨rfl, _⟩ | ⟨g', cap', cur', rfl, _, hg', _⟩
    · simp [Value.ownBlock] at hb'
    · simp only [Value.ownBlock, Option.some.injEq] at hb hb'
      subst hb
      subst hb'
      rw [hg] at hg'
      simp at hg'

theorem size_int64 (w : World) : (sizeOf (Try.prog.elem 22)).run Try.prog w = .ok 1 w := by kernel_rfl
theorem elem_ints : Try.prog.elem 22 = 2 := by kernel_rfl
theorem under_ints : Try.prog.underlying 22 = some (.slice (Try.prog.elem 22)) := by rw [elem_ints]; exact Try.underlying22
/-- 'q[1:]'. -/
theorem OwnQ.pop {w : World} {B n c : Nat} {A : Option Addr} {x : Int} {l : List Int} (h : OwnQ w B (.slice A n c) (x :: l)) (hn : n = l.length + 1) :
    ∃ A' c', (∀ W, (Instr.slice 22 (.slice A n c) (some (.int .i64 1)) none none).run Try.prog W = .ok (.slice A' l.length c') W) ∧ OwnQ w B (.slice A' l.length c') l := by
  rcases h with ⟨_, h⟩ | ⟨g, off, cap, cur, he, hB, hg, hlc, hcm, hcs, hc⟩
  · cases h
  · simp only [Value.slice.injEq] at he
    obtain ⟨rfl, _, rfl⟩ := he
    rw [List.length_cons] at hlc
    have hrun : ∀ W, (Instr.slice 22 (.slice (some ⟨g, off, none⟩) n c) (some (.int .i64 1)) none none).run Try.prog W = .ok (sliced (some ⟨g, off, none⟩) 1 n c 1) W := fun W => by
      rw [run_slice_l W 22 _ n c under_ints .i64 1 (by omega) (by omega), size_int64]
      rfl
    by_cases hc1 : c = 1
    · refine ⟨some ⟨g, off, none⟩, 0, fun W => ?_, .inr ⟨g, off, 0, cur, rfl, hB, hg, by omega, by unfold maxLen; omega, by omega, fun j hj => by omega⟩⟩
      rw [hrun]
      simp [sliced, hc1, hn]
    · have hadd : (⟨g, off, none⟩ : Addr).add 1 = ⟨g, off + 1, none⟩ := by unfold Addr.add; simp
      refine ⟨some ⟨g, off + 1, none⟩, c - 1, fun W => ?_, .inr ⟨g, off + 1, c - 1, cur, rfl, hB, hg, by omega, by omega, by omega, fun j hj => ?_⟩⟩
      · rw [hrun]
        simp [sliced, hc1, hn, hadd]
      · have := hc (j + 1) (by simpa using hj)
        rw [show off + 1 + j = off + (j + 1) by omega, this]
        simp [ix]
/-- 'q[:k]'. -/
theorem OwnQ.cut {w : World} {B n c : Nat} {A : Option Addr} {l : List Int} (h : OwnQ w B (.slice A n c) l) (hn : n = l.length) (k : Nat) (hk : k ≤ n) (hkp : 0 < c) :
    (∀ W, (Instr.slice 22 (.slice A n c) none (some (.int .i64 (k : Int))) none).run Try.prog W = .ok (.slice A k c) W) ∧ OwnQ w B (.slice A k c) (l.take k) := by
  rcases h with ⟨he, h⟩ | ⟨g, off, cap, cur, he, hB, hg, hlc, hcm, hcs, hc⟩
  · simp only [Value.slice.injEq] at he
    omega
  · simp only [Value.slice.injEq] at he
    obtain ⟨rfl, _, rfl⟩ := he
    refine ⟨fun W => ?_, .inr ⟨g, off, c, cur, by simp; omega, hB, hg, by simp; omega, hcm, hcs, fun j hj => ?_⟩⟩
    · rw [run_slice_h W 22 _ n c under_ints .i64 (k : Int) (by omega) (by omega), size_int64]
      have hadd : (⟨g, off, none⟩ : Addr).add 0 = ⟨g, off, none⟩ := by unfold Addr.add; simp
      have hc0 : ¬ c = 0 := by omega
      simp [sliced, hadd, Result.andThen]
    · have hj' : j < k ∧ j < l.length := by rw [List.length_take] at hj; omega
      rw [hc j hj'.2]
      simp [ix, List.getElem?_take, hj'.1]

/-- 'append(q, y)'. -/
theorem run_append_q {ty : TypeId} (w : World) (B : Nat) (v : Value) (l : List Int) (hq : OwnQ w B v l) (y : Int) (ad : Addr) (had : w.cell? ad = some (.int .i64 y)) (hn : l.length ≤ 1099511627776) (hB : B ≤ w.heap.size) :
    ∃ A' c' w', (Builtin.append_ #[22, 22] ty #[v, .slice (some ad) 1 1]).run Try.prog w = .ok (.slice A' (l.length + 1) c') w' ∧ OwnQ w' B (.slice A' (l.length + 1) c') (l ++ [y]) ∧ w.grownBy w' v.ownBlock := by
  obtain ⟨i0, hi, hz0, hz1, hz2⟩ := elem_int64.hi
  have hsl : SlF w (.slice (some ad) 1 1) 1 (fun _ => .int .i64 y) := ⟨_, 1, rfl, Nat.le_refl _, by omega, fun k hk => ⟨_, rfl, by
      obtain rfl : k = 0 := by omega
      have hadd : ad.add 0 = ad := by unfold Addr.add; simp
      rw [hadd]; exact had⟩⟩
  have fin : ∀ (v' : Value) (w' : World), w'.ownsRow B 2 1 v' (l.length + 1) (l.map (Value.int .i64) ++ [.int .i64 y]) → ∃ A' c', v' = .slice A' (l.length + 1) c' ∧ OwnQ w' B v' (l ++ [y]) := fun v' w' h => by
    have h2 : OwnInts w' B v' (l ++ [y]) := by
      unfold OwnInts
      rw [List.length_append, List.map_append]
      exact h
    obtain ⟨A', c', e, _⟩ := h2.ints.form
    exact ⟨A', c', by simpa using e, .of_own h2⟩
  rcases hq with ⟨rfl, rfl⟩ | ⟨g, off, cap, cur, rfl, hBg, hg, hlc, hcm, hcs, hc⟩
  · obtain ⟨v', w', hrun, h2, h3, _⟩ := run_append_all (ty := ty) elem_int64 w B (.slice none 0 0) 0 [] (World.ownsRow_nil w B _ 1) (some ad) 1 1 _ hsl (fun _ _ => rfl) (by omega) hB
    obtain ⟨A', c', rfl, h4⟩ := fin v' w' (by simpa [cellsL] using h2)
    exact ⟨A', c', w', hrun, h4, h3⟩
  · by_cases hroom : l.length + 1 ≤ cap
    · have hat : off + l.length < cur.size := by omega
      have hce : ∀ k, w.cell? ⟨g, k, none⟩ = cur[k]? := fun k => cell_of_row w g k cur _ (0, 0) hg
      have hr := run_append_room_cells (P := Try.prog) w 22 ty 2 i0 Try.underlying22 hi g off l.length cap ad 1 1 [.int .i64 y] (by simp [hz1])
        (fun j u hu => by
          have : j = 0 ∧ u = .int .i64 y := by
            rcases j with _ | j
            · simp at hu; exact ⟨rfl, hu.symm⟩
            · simp at hu
          obtain ⟨rfl, rfl⟩ := this
          have hadd : ad.add 0 = ad := by unfold Addr.add; simp
          rw [hadd]; exact had) (by simp [Value.oneCell']) hroom
        (fun j hj => by
          obtain rfl : j = 0 := by simpa using hj
          rw [hz1, hce]; simp [hat])
        (fun j hj => frozen_of_row w g _ cur _ hg)
      rw [hz1, Nat.mul_one] at hr
      refine ⟨some ⟨g, off, none⟩, cap, _, hr, .inr ⟨g, off, cap, cur.setIfInBounds (off + l.length) (.int .i64 y), by simp, hBg, ?_, by simpa using hroom, hcm, by simpa using hcs, fun j hj => ?_⟩, ?_⟩
      · exact heap_setCell_same w g (off + l.length) cur _ _ hg
      · rw [List.length_append, List.length_singleton] at hj
        by_cases e : j = l.length
        · subst e
          rw [Array.getElem?_setIfInBounds_self_of_lt hat]
          simp [ix]
        · rw [Array.getElem?_setIfInBounds_ne (by omega), hc j (by omega)]
          simp [ix, List.getElem?_append_left (show j < l.length by omega)]
      · exact ⟨rfl, rfl, rfl, by simp [World.setCells], fun k hk hne => Below.heap_setCell _ _ _ _ (by simp [Value.ownBlock] at hne; simpa using hne)⟩
    · have hadd : ∀ k, (⟨g, off, none⟩ : Addr).add k = ⟨g, off + k, none⟩ := fun k => by unfold Addr.add; split <;> simp_all
      obtain ⟨v', w', hrun, h2, h3⟩ := run_append_arg_grows (P := Try.prog) w 22 ty 2 i0 _ 1 i0.bytes Try.underlying22 hi hz0 hz1 rfl (by rw [elem_int64.hz]; rfl) (by omega) ⟨g, off, none⟩ l.length cap (l.map (Value.int .i64)) (by simp)
        (fun j u hu => by
          obtain ⟨hj, e⟩ := List.getElem?_eq_some_iff.1 hu
          have hj' : j < l.length := by simpa using hj
          rw [hadd, cell_of_row w g (off + j) cur _ (0, 0) hg, hc j hj', ← e]
          simp [ix, hj']) ad 1 1 [.int .i64 y] (by simp)
        (fun j u hu => by
          have : j = 0 ∧ u = .int .i64 y := by
            rcases j with _ | j
            · simp at hu; exact ⟨rfl, hu.symm⟩
            · simp at hu
          obtain ⟨rfl, rfl⟩ := this
          have hadd : ad.add 0 = ad := by unfold Addr.add; simp
          rw [hadd]; exact had) (by omega) (by unfold maxLen; omega) (by
            have : (l.length + 1) * i0.bytes ≤ 1099511627777 * 24 := Nat.mul_le_mul (by omega) hz2
            omega)
      have h2' : w'.ownsRow B 2 1 v' (l.length + 1) (l.map (Value.int .i64) ++ [.int .i64 y]) := ⟨h2.1, h2.2.imp id fun ⟨g', cap', cur', a1, a2, a3⟩ => ⟨g', cap', cur', a1, Nat.le_trans hB a2, a3⟩⟩
      obtain ⟨A', c', rfl, h4⟩ := fin v' w' h2'
      exact ⟨A', c', w', hrun, h4, ⟨h3.os, h3.tape, h3.output, h3.size, fun k hk _ => h3.block k hk (by simp)⟩⟩
theorem append_q {ops : Array Oper} {rest : List Oper} {o : Oper} {a : Act} {Q : Exit → Act → World → Prop} (w0 : World) (hgd : o.guard = none) (s x : Operand)
    (ho : o.op = .call { callee := .builtin .append, args := #[s, x], argTypes := #[22, 22] })
    (B : Nat) (v : Value) (l : List Int) (n : Nat) (hln : n = l.length) (hs : a.eval s = v) (hq : OwnQ w0 B v l) (y : Int) (H : Nat) (hH : w0.heap.size = H)
    (hx : a.eval x = .slice (some ⟨H, 0, none⟩) 1 1) (hn : n ≤ 1099511627776) (hB : B ≤ w0.heap.size)
    (h : ∀ A' c' w', OwnQ w' B (.slice A' (n + 1) c') (l ++ [y]) → w0.grownBy w' v.ownBlock → wpList Try.prog ops Q rest (a.put o.dst (.slice A' (n + 1) c')) w') :
    wpList Try.prog ops Q (o :: rest) a (w0.alloc (.cells #[.int .i64 y] 2)) := by
  subst hln
  subst hH
  refine wpList_plain hgd fun K hK => ?_
  have hb := (Below.refl w0.heap.size w0).alloc (Nat.le_refl _) (.cells #[.int .i64 y] 2)
  have hc : (w0.alloc (.cells #[.int .i64 y] 2)).cell? ⟨w0.heap.size, 0, none⟩ = some (.int .i64 y) := (Arr.new w0 2 [.int .i64 y]).c0
  obtain ⟨A', c', w', hrun, h2, h3⟩ := run_append_q (ty := o.type) (w0.alloc (.cells #[.int .i64 y] 2)) B v l (hq.below hb) y ⟨w0.heap.size, 0, none⟩ hc hn (by simp; omega)
  unfold Oper.wp execOp
  simp only [ho, resolve, invoke, builtin, Sem.run_bind, Sem.run_pure, Result.andThen_ok, List.map_toArray, List.map_cons, List.map_nil, hs, hx, hrun]
  refine hK _ _ (h A' c' w' h2 ⟨h3.os, h3.tape, h3.output, by have := h3.size; simp at this; omega, fun k hk hne => (h3.block k (by simp; omega) hne).trans (Below.heap_alloc w0 _ k hk)⟩)
theorem OwnBools.heap {w w' : World} {B : Nat} {v : Value} {l : List Bool} (h : OwnBools w B v l) (hh : ∀ b, v.ownBlock = some b → w'.heap[b]? = w.heap[b]?) : OwnBools w' B v l := by
  refine ⟨h.1, ?_⟩
  rcases h.2 with hn | ⟨g, cap, cur, rfl, hg, hc, rest⟩
  · exact .inl hn
  · exact .inr ⟨g, cap, cur, rfl, hg, (hh g rfl).trans hc, rest⟩
end Go.Proofs.Ytmkmghjmfaoobaa

/- The walks of ReachOf and what it calls, the program's and the reference's. Conditions: the lengths; the arena is valid. Printed by gen_reach.py. -/
namespace Go.Proofs.Ytmkmghjmfaoobaa
set_option linter.unusedSimpArgs false
set_option linter.unusedVariables false
open Go.RowKit

theorem OwnBools.form {w : World} {B : Nat} {v : Value} {l : List Bool} (h : OwnBools w B v l) (hl : 0 < l.length) : ∃ g cap, v = .slice (some ⟨g, 0, none⟩) l.length cap ∧ B ≤ g ∧ g < w.heap.size := by
  rcases h.2 with ⟨rfl, h2⟩ | ⟨g, cap, cur, rfl, hB, hg, hnc, hcm, _⟩
  · omega
  · exact ⟨g, cap, rfl, hB, (Array.getElem?_eq_some_iff.1 hg).1⟩
theorem OwnBools.set_ {w : World} {B g n cap : Nat} {l : List Bool} (h : OwnBools w B (.slice (some ⟨g, 0, none⟩) n cap) l) (hn : n = l.length) (k : Nat) (x : Bool) :
    OwnBools (w.setCell ⟨g, k, none⟩ (.bool x)) B (.slice (some ⟨g, 0, none⟩) n cap) (l.set k x) := by
  subst hn
  have := World.ownsRow.stored h k (.bool x)
  unfold OwnBools
  rw [List.length_set, List.map_set]
  exact this.1
theorem OwnBools.frozen {w : World} {B g n cap : Nat} {l : List Bool} (h : OwnBools w B (.slice (some ⟨g, 0, none⟩) n cap) l) (hn : n = l.length) (k : Nat) : w.frozen? ⟨g, k, none⟩ = false := by
  subst hn
  exact World.ownsRow.frozenAt h k
theorem OwnBools.cell {w : World} {B g n cap : Nat} {l : List Bool} (h : OwnBools w B (.slice (some ⟨g, 0, none⟩) n cap) l) {k : Nat} (hk : k < l.length) : w.cell? ⟨g, k, none⟩ = some (.bool (bx l k)) := by
  obtain ⟨ad, e, hc⟩ := h.bools.at_ hk
  injection e with e
  subst e
  rwa [add_head] at hc
theorem Arr.kept' {w w' : World} {g : Nat} {e : TypeId} {xs : List Value} {row : Option Nat} (h : Arr w g e xs) (hg : w.grownBy w' row) (hne : some g ≠ row) : Arr w' g e xs := (hg.block g h.lt hne).trans h
theorem run_eql_bools_nil (W : World) (A : Option Addr) (n c : Nat) : (binOp .eql 73 (.slice A n c) (.slice none 0 0)).run Try.prog W = .ok (.bool A.isNone) W := by
  have h : ∀ d : Nat, (Op.equalIn (d + 1) 73 (.slice A n c) (.slice none 0 0)).run Try.prog W = .ok A.isNone W := fun d => by
    cases A <;> simp [Op.equalIn, run_underlying Try.underlying73]
  have h2 : (Op.equal 73 (.slice A n c) (.slice none 0 0)).run Try.prog W = .ok A.isNone W := h 9999
  simp [binOp, h2]
theorem ArenaOk.vert_next' {a : ArenaD} (h : ArenaOk a) {v : Nat} (hv : v < a.owner.length) {t : Nat} (ht : t < (rx a.next v).length) : ∃ j : Nat, ix (rx a.next v) t = (j : Int) ∧ j < a.owner.length := (h.set hv).vert t ht
theorem new_bools (w : World) : OwnBools (w.alloc (.cells #[] 4)) w.heap.size (.slice (some ⟨w.heap.size, 0, none⟩) 0 0) [] ∧ Below w.heap.size w (w.alloc (.cells #[] 4)) :=
  ⟨World.ownsRow_lit w #[] 0 (Nat.le_refl _) (by simp [maxLen]) (by simp), (Below.refl _ _).alloc (Nat.le_refl _) _⟩


set_option maxHeartbeats 1000000 in
theorem listOf_any (v : Value) (m : List Bool) (w : World) (hv : Bools w v m) (hm : m.length ≤ 1048576) :
    Calls Try.prog 96 #[v] w (RetInts w (markedL m)) := by
  obtain ⟨A, c, rfl, hlc, hcm⟩ := hv.form
  obtain ⟨hown, hbn⟩ := new_ints w
  have Hall := Lib.hid (show markedTo m m.length = markedL m from rfl)
  go_enter Try.func96, Try.ntmps96
  go_wp2
  generalize w.alloc (.cells #[] 2) = w0 at *
  go_loopw [3, 9] (fun v i wr => ∃ k : Nat, k ≤ m.length ∧ i = .int .i64 k ∧ OwnInts wr w.heap.size v (markedTo m k) ∧ Below w.heap.size w wr) (fun _ i _ => m.length - (intOf i).toNat)
  case atStart => exact ⟨0, Nat.zero_le _, rfl, hown, hbn⟩
  case round =>
    obtain ⟨k, hk, rfl, hown, hbw⟩ := hrel
    have hbs := hbw.size
    by_cases hlt : k < m.length
    · obtain ⟨a1, rfl, hc1⟩ := (hv.kept (Kept.of hbw)).at_ hlt
      have hlen := markedTo_len m k
      have Hs := Lib.hid (markedTo_succ m k)
      cases e : bx m k
      · rw [e] at hc1 Hs
        clear e
        go_wp2
        exact ⟨⟨k + 1, by omega, by go_num, by rw [Hs.out]; simpa using hown, hbw⟩, by simp [intOf]; omega⟩
      · rw [e] at hc1 Hs
        clear e
        go_wp2_with (at_builtin; refine append_int _ rfl (.tmp 15) (.tmp 17) rfl w.heap.size u3 _ rfl hown (k : Int) rfl (by omega) hbs ?_; intro v1 w3 ho1 hb1 hg1 hl1)
        exact ⟨⟨k + 1, by omega, by go_num, by rw [Hs.out]; simpa using ho1, hbw.trans hb1⟩, by simp [intOf]; omega⟩
    · obtain rfl : k = m.length := by omega
      rw [Hall.out] at hown
      go_wp2
      go_ret
      exact .mk' hown hbw

end Go.Proofs.Ytmkmghjmfaoobaa

/- The walks of the program's ranks and what they call. Conditions: the arena is valid. -/
namespace Go.Proofs.Ytmkmghjmfaoobaa
set_option linter.unusedSimpArgs false
set_option linter.unusedVariables false
open Go.RowKit

theorem OB.under {w w' : World} {B C : Nat} {v : Value} {l : List Bool} (h : OB w B C v l) (hb : Below C w w') : OB w' B C v l := ⟨h.1.heap fun b hb2 => hb.block b (h.2 b hb2), h.2⟩
theorem OwnInts.far {w : World} {B : Nat} {v : Value} {l : List Int} (h : OwnInts w B v l) {p : Addr} (hp : p.block < B) (u : Value) : OwnInts (w.setCell p u) B v l :=
  ((OI.of h).heap fun b hb => Below.heap_setCell _ _ _ _ (by have := (h.lt b hb).1; omega)).1
end Go.Proofs.Ytmkmghjmfaoobaa

/- The walks of the program's Attract and PullIn and what they call. Conditions: the arena is valid. Printed by gen_rank2.py. -/
namespace Go.Proofs.Ytmkmghjmfaoobaa
set_option linter.unusedSimpArgs false
set_option linter.unusedVariables false
open Go.RowKit

theorem rank_i64 {a : ArenaD} {who : Int} {m : List Bool} {goal : List Int} {k v : Nat} (h : v < a.owner.length) (hk : k ≤ 256) : -1 ≤ ix (rankAt a who m goal k) v ∧ ix (rankAt a who m goal k) v ≤ 256 :=
  ⟨(rankAt_bounds h).1, by have := (rankAt_bounds (who := who) (m := m) (goal := goal) (k := k) h).2.1; omega⟩
theorem find_first {l : List Int} {p : Int → Bool} {t : Nat} (h : ∀ j, j < t → p (ix l j) = false) (ht : t < l.length) (hp : p (ix l t) = true) : l.find? p = some (ix l t) := by
  induction l generalizing t with
  | nil => simp at ht
  | cons x l ih =>
    rcases t with _ | t
    · have : p x = true := by simpa [ix] using hp
      simp [List.find?_cons, this, ix]
    · have h0 : p x = false := by simpa [ix] using h 0 (by omega)
      have := ih (t := t) (fun j hj => by simpa [ix] using h (j + 1) (by omega)) (by simpa using ht) (by simpa [ix] using hp)
      simp only [List.find?_cons, h0]
      rw [this]; simp [ix]
theorem find_none {l : List Int} {p : Int → Bool} (h : ∀ j, j < l.length → p (ix l j) = false) : l.find? p = none := by
  rw [List.find?_eq_none]
  intro x hx
  obtain ⟨k, hk, e⟩ := mem_ix.1 hx
  rw [← e, h k hk]; simp

theorem OI.under {w w' : World} {B C : Nat} {v : Value} {l : List Int} (h : OI w B C v l) (hb : Below C w w') : OI w' B C v l := h.heap fun b hb2 => hb.block b (h.2 b hb2)
/-- A row of the call's own, when another one has grown. -/
theorem OI.grown {w w' : World} {B C : Nat} {v : Value} {l : List Int} {row : Option Nat} (h : OI w B C v l) (hg : w.grownBy w' row) (hne : ∀ b, row = some b → b < B ∨ C ≤ b) : OI w' B C v l :=
  h.heap fun b hb => hg.block b (h.1.lt b hb).2 fun e => by
    have h1 := hne b e.symm
    have h2 := (h.1.lt b hb).1
    have h3 := h.2 b hb
    omega

theorem canB_parts {a : ArenaD} {who : Int} {s goal : List Int} (h : canB a who s goal = true) : ArenaOk a ∧ IsSet s a.owner.length ∧ IsSet goal a.owner.length := by
  unfold canB at h
  simp only [Bool.and_eq_true] at h
  exact ⟨arenaOkB_iff.1 h.1, isSetB_iff.1 h.2.2.1, isSetB_iff.1 h.2.2.2⟩

end Go.Proofs.Ytmkmghjmfaoobaa
