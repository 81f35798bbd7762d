/- The walks of ClosedIn and what they call. No condition but the lists' lengths. -/
import Derived.Test.YtogfpalgnjlfcaaTrapWalks2
namespace Go.Proofs.Ytogfpalgnjlfcaa
set_option linter.unusedSimpArgs false
set_option linter.unusedVariables false
open Go.RowKit

def closedAt (a : ArenaD) (who : Int) (plan : List Int) (m : List Bool) (v : Nat) : Bool :=
  if ix a.owner v = who then decide (0 ≤ ix plan v) && bx m (ix plan v).toNat else (rx a.next v).all fun u => bx m u.toNat
def closedL (a : ArenaD) (who : Int) (region plan : List Int) : Bool := region.all fun v => closedAt a who plan (marksL a.owner.length region) v.toNat
def checkB (a : ArenaD) (who : Int) (region plan : List Int) : Bool := arenaOkB a && (playerB who && (isSetB region a.owner.length && planB a who plan))
def closedG (a : ArenaD) (who : Int) (region plan : List Int) : Bool := checkB a who region plan && closedL a who region plan
structure CheckOk (a : ArenaD) (who : Int) (region plan : List Int) : Prop where
  arena : ArenaOk a
  player : playerB who = true
  set : IsSet region a.owner.length
  plan : PlanOk a who plan
theorem checkB_iff {a : ArenaD} {who : Int} {region plan : List Int} : checkB a who region plan = true ↔ CheckOk a who region plan := by
  unfold checkB
  simp only [Bool.and_eq_true, arenaOkB_iff, isSetB_iff, planB_iff]
  exact ⟨fun ⟨h1, h2, h3, h4⟩ => ⟨h1, h2, h3, h4⟩, fun ⟨h1, h2, h3, h4⟩ => ⟨h1, h2, h3, h4⟩⟩
theorem checkB_spec (a : ArenaD) (who : Int) (region plan : List Int) : checkB a who region plan = (planOkB a who plan && isSetB region a.owner.length) := by
  unfold checkB planOkB
  rw [Bool.and_assoc, Bool.and_assoc, Bool.and_comm (planB a who plan)]
/-- A plan's moves are vertices. -/
theorem PlanOk.move {a : ArenaD} {who : Int} {plan : List Int} (hok : ArenaOk a) (h : PlanOk a who plan) {v : Nat} (hv : v < a.owner.length) : ix plan v = -1 ∨ ∃ j : Nat, ix plan v = (j : Int) ∧ j < a.owner.length ∧ (j : Int) ∈ rx a.next v := by
  have := h.vert v (by rw [h.len]; exact hv)
  unfold planAtB at this
  rw [Bool.or_eq_true, decide_eq_true_eq, Bool.and_eq_true] at this
  rcases this with h1 | ⟨_, h2⟩
  · exact .inl h1
  · have h3 := hasB_iff.1 h2
    obtain ⟨k, hk, hx⟩ := mem_ix.1 h3
    obtain ⟨j, hj, hjn⟩ := hok.vert_next hv k hk
    exact .inr ⟨j, by rw [← hx, hj], hjn, by rw [← hj, hx]; exact h3⟩
theorem all_bad {l : List Int} {f : Int → Bool} {k : Nat} (hk : k < l.length) (h : f (ix l k) = false) : l.all f = false := by
  rw [Bool.eq_false_iff]
  intro h'
  have := List.all_eq_true.1 h' _ (mem_ix.2 ⟨k, hk, rfl⟩)
  rw [h] at this; cases this
theorem all_good {l : List Int} {f : Int → Bool} (h : ∀ k, k < l.length → f (ix l k) = true) : l.all f = true := by
  rw [List.all_eq_true]
  intro x hx
  obtain ⟨k, hk, rfl⟩ := mem_ix.1 hx
  exact h k hk

set_option maxHeartbeats 1000000 in
theorem canCheck_any (v : Value) (a : ArenaD) (who : Int) (u : Value) (s : List Int) (y : Value) (t : List Int) (w : World) (hv : IsArena w v a) (hu : Ints w u s) (hy : Ints w y t) :
    Calls Try.prog 71 #[v, .int .i64 who, u, y] w fun e w' => e = .returned (.bool (checkB a who s t)) ∧ Below w.heap.size w w' := by
  obtain ⟨o, n, rfl, hbw, hB⟩ := arena_open hv
  cases hE : arenaOkB a
  · have hres : checkB a who s t = false := by unfold checkB; rw [hE]; rfl
    rw [hres]; clear hres
    go_enter Try.func71, Try.ntmps71
    have hBz := hB.lt
    have hBc0 := hB.c0
    have hBc1 := hB.c1
    go_wp2_with fail
    refine (ArenaOk_any _ a _ (hv.kept (Kept.of hbw))).mono ?_
    rintro e w1 ⟨rfl, hb1⟩
    clear hBc0 hBc1 hBz
    replace hB := hB.below hb1 hB.lt
    replace hbw := Below.up hbw hb1
    have hb1s := hb1.size
    clear hb1
    have hBz := hB.lt
    have hBc0 := hB.c0
    have hBc1 := hB.c1
    go_wp2
    go_ret
    exact ⟨rfl, hbw⟩
  · have hok := arenaOkB_iff.1 hE
    cases hE2 : playerB who
    · have hres : checkB a who s t = false := by unfold checkB; rw [hE, hE2]; rfl
      rw [hres]; clear hres
      go_enter Try.func71, Try.ntmps71
      have hBz := hB.lt
      have hBc0 := hB.c0
      have hBc1 := hB.c1
      go_wp2_with fail
      refine (ArenaOk_any _ a _ (hv.kept (Kept.of hbw))).mono ?_
      rintro e w1 ⟨rfl, hb1⟩
      clear hBc0 hBc1 hBz
      replace hB := hB.below hb1 hB.lt
      replace hbw := Below.up hbw hb1
      have hb1s := hb1.size
      clear hb1
      have hBz := hB.lt
      have hBc0 := hB.c0
      have hBc1 := hB.c1
      go_wp2_with fail
      refine (same_below (isPlayer_any who _)).mono ?_
      rintro e w2 ⟨rfl, hb2⟩
      clear hBc0 hBc1 hBz
      replace hB := hB.below hb2 hB.lt
      replace hbw := Below.up hbw hb2
      have hb2s := hb2.size
      clear hb2
      have hBz := hB.lt
      have hBc0 := hB.c0
      have hBc1 := hB.c1
      go_wp2
      go_ret
      exact ⟨rfl, hbw⟩
    · cases hE3 : isSetB s a.owner.length
      · have hres : checkB a who s t = false := by unfold checkB; rw [hE, hE2, hE3]; rfl
        rw [hres]; clear hres
        go_enter Try.func71, Try.ntmps71
        have hBz := hB.lt
        have hBc0 := hB.c0
        have hBc1 := hB.c1
        go_wp2_with fail
        refine (ArenaOk_any _ a _ (hv.kept (Kept.of hbw))).mono ?_
        rintro e w1 ⟨rfl, hb1⟩
        clear hBc0 hBc1 hBz
        replace hB := hB.below hb1 hB.lt
        replace hbw := Below.up hbw hb1
        have hb1s := hb1.size
        clear hb1
        have hBz := hB.lt
        have hBc0 := hB.c0
        have hBc1 := hB.c1
        go_wp2_with fail
        refine (same_below (isPlayer_any who _)).mono ?_
        rintro e w2 ⟨rfl, hb2⟩
        clear hBc0 hBc1 hBz
        replace hB := hB.below hb2 hB.lt
        replace hbw := Below.up hbw hb2
        have hb2s := hb2.size
        clear hb2
        have hBz := hB.lt
        have hBc0 := hB.c0
        have hBc1 := hB.c1
        go_wp2_with fail
        refine (size_any _ a _ (hv.kept (Kept.of hbw))).mono ?_
        rintro e w3 ⟨rfl, hb3⟩
        clear hBc0 hBc1 hBz
        replace hB := hB.below hb3 hB.lt
        replace hbw := Below.up hbw hb3
        have hb3s := hb3.size
        clear hb3
        have hBz := hB.lt
        have hBc0 := hB.c0
        have hBc1 := hB.c1
        go_wp2_with fail
        refine (same_below (isSet_any _ s _ _ (hu.kept (Kept.of hbw)))).mono ?_
        rintro e w4 ⟨rfl, hb4⟩
        clear hBc0 hBc1 hBz
        replace hB := hB.below hb4 hB.lt
        replace hbw := Below.up hbw hb4
        have hb4s := hb4.size
        clear hb4
        have hBz := hB.lt
        have hBc0 := hB.c0
        have hBc1 := hB.c1
        go_wp2
        go_ret
        exact ⟨rfl, hbw⟩
      · have hres : checkB a who s t = planB a who t := by unfold checkB; rw [hE, hE2, hE3]; rfl
        rw [hres]; clear hres
        go_enter Try.func71, Try.ntmps71
        have hBz := hB.lt
        have hBc0 := hB.c0
        have hBc1 := hB.c1
        go_wp2_with fail
        refine (ArenaOk_any _ a _ (hv.kept (Kept.of hbw))).mono ?_
        rintro e w1 ⟨rfl, hb1⟩
        clear hBc0 hBc1 hBz
        replace hB := hB.below hb1 hB.lt
        replace hbw := Below.up hbw hb1
        have hb1s := hb1.size
        clear hb1
        have hBz := hB.lt
        have hBc0 := hB.c0
        have hBc1 := hB.c1
        go_wp2_with fail
        refine (same_below (isPlayer_any who _)).mono ?_
        rintro e w2 ⟨rfl, hb2⟩
        clear hBc0 hBc1 hBz
        replace hB := hB.below hb2 hB.lt
        replace hbw := Below.up hbw hb2
        have hb2s := hb2.size
        clear hb2
        have hBz := hB.lt
        have hBc0 := hB.c0
        have hBc1 := hB.c1
        go_wp2_with fail
        refine (size_any _ a _ (hv.kept (Kept.of hbw))).mono ?_
        rintro e w3 ⟨rfl, hb3⟩
        clear hBc0 hBc1 hBz
        replace hB := hB.below hb3 hB.lt
        replace hbw := Below.up hbw hb3
        have hb3s := hb3.size
        clear hb3
        have hBz := hB.lt
        have hBc0 := hB.c0
        have hBc1 := hB.c1
        go_wp2_with fail
        refine (same_below (isSet_any _ s _ _ (hu.kept (Kept.of hbw)))).mono ?_
        rintro e w4 ⟨rfl, hb4⟩
        clear hBc0 hBc1 hBz
        replace hB := hB.below hb4 hB.lt
        replace hbw := Below.up hbw hb4
        have hb4s := hb4.size
        clear hb4
        have hBz := hB.lt
        have hBc0 := hB.c0
        have hBc1 := hB.c1
        go_wp2_with fail
        refine (isPlan_any _ a who _ t _ (hv.kept (Kept.of hbw)) (hy.kept (Kept.of hbw)) hok).mono ?_
        rintro e w5 ⟨rfl, hb5⟩
        clear hBc0 hBc1 hBz
        replace hB := hB.below hb5 hB.lt
        replace hbw := Below.up hbw hb5
        have hb5s := hb5.size
        clear hb5
        have hBz := hB.lt
        have hBc0 := hB.c0
        have hBc1 := hB.c1
        go_wp2
        go_ret
        exact ⟨rfl, hbw⟩

set_option maxRecDepth 100000 in
set_option maxHeartbeats 2000000 in
theorem closedIn_any (v : Value) (a : ArenaD) (who : Int) (u : Value) (s : List Int) (y : Value) (t : List Int) (w : World) (hv : IsArena w v a) (hu : Ints w u s) (hy : Ints w y t) (hok : CheckOk a who s t) :
    Calls Try.prog 79 #[v, .int .i64 who, u, y] w fun e w' => e = .returned (.bool (closedL a who s t)) ∧ Below w.heap.size w w' := by
  obtain ⟨o, n, rfl, hbw, hB⟩ := arena_open hv
  obtain ⟨ho, hn⟩ := hv.parts
  obtain ⟨A, c, rfl, hlc, hcm⟩ := ho.form
  obtain ⟨A', c', rfl, hlc', hcm'⟩ := hn.form
  obtain ⟨A2, c2, rfl, hlc2, hcm2⟩ := hu.form
  obtain ⟨A3, c3, rfl, hlc3, hcm3⟩ := hy.form
  have hle := hok.arena.le
  have Hlen := Lib.hid hok.arena.len
  have Hpl := Lib.hid hok.plan.len
  obtain ⟨res, hres⟩ : ∃ r, closedL a who s t = r := ⟨_, rfl⟩
  rw [hres]
  have Hres := Lib.hid hres
  clear hres
  go_enter Try.func79, Try.ntmps79
  have hBz := hB.lt
  have hBc0 := hB.c0
  have hBc1 := hB.c1
  go_wp2_with fail
  refine (markOf_any _ a _ s _ (hv.kept (Kept.of hbw)) (hu.kept (Kept.of hbw)) hok.set.vert (by omega)).mono ?_
  rintro e w1 ⟨um, rfl, hM, hb1⟩
  obtain ⟨M, m, he, hml, hmm⟩ := hM.bools.form
  rw [length_marksL] at he hml
  subst he
  clear hBc0 hBc1 hBz
  replace hB := hB.below hb1 hB.lt
  replace hbw := Below.up hbw hb1
  have hb1s := hb1.size
  clear hb1
  have hBz := hB.lt
  have hBc0 := hB.c0
  have hBc1 := hB.c1
  have hMb := hM.bools
  clear hM
  have hu1 := (hu.kept (Kept.of hbw))
  have hn1 := (hn.kept (Kept.of hbw))
  have ho1 := (ho.kept (Kept.of hbw))
  have hy1 := (hy.kept (Kept.of hbw))
  go_wp2
  go_loop [19] (fun i => ∃ k : Nat, k ≤ s.length ∧ i = .int .i64 k ∧ ∀ j, j < k → closedAt a who t (marksL a.owner.length s) (ix s j).toNat = true) (fun i => s.length - (intOf i).toNat)
  case atStart => exact ⟨0, Nat.zero_le _, rfl, fun j hj => by omega⟩
  case round =>
    obtain ⟨k, hk, rfl, hm⟩ := hrel
    have Hm := Lib.hid hm
    clear hm
    by_cases hlt : k < s.length
    · obtain ⟨a1, ea, hc1⟩ := hu1.at_ hlt
      subst ea
      obtain ⟨j, hj, hjn⟩ := hok.set.vert k hlt
      obtain ⟨a2, R, r, ea, hc2, hrow⟩ := hn1.at_ (k := j) (by rw [Hlen.out]; exact hjn)
      subst ea
      obtain ⟨a3, ea, hc3⟩ := ho1.at_ hjn
      subst ea
      obtain ⟨a4, ea, hc4⟩ := hy1.at_ (k := j) (by rw [Hpl.out]; exact hjn)
      subst ea
      obtain ⟨R', r', he, hrl, hrm⟩ := hrow.form
      simp only [Value.slice.injEq, true_and] at he
      obtain ⟨rfl, rfl⟩ := he
      have hmove := hok.plan.move hok.arena hjn
      have hvn := hok.arena.vert_next hjn
      rw [hj] at hc1
      have Hj := Lib.hid hj
      clear hj
      have hjl : (j : Int) < a.owner.length := by omega
      have hjl2 : (j : Int) < a.next.length := by rw [Hlen.out]; omega
      have hjl3 : (j : Int) < t.length := by rw [Hpl.out]; omega
      have hbad : closedAt a who t (marksL a.owner.length s) j = false → res = false := fun h => by
        rw [← Hres.out]; exact all_bad hlt (by rw [Hj.out, Int.toNat_natCast]; exact h)
      have Hbad := Lib.hid hbad
      clear hbad
      by_cases e : ix a.owner j = who
      · have hd : (ix a.owner j == who) = true := by simpa using e
        have hca : closedAt a who t (marksL a.owner.length s) j = (decide (0 ≤ ix t j) && bx (marksL a.owner.length s) (ix t j).toNat) := by unfold closedAt; rw [if_pos e]
        rcases hmove with h1 | ⟨i, hi, hin, _⟩
        · rw [h1] at hc4
          have hr : res = false := Hbad.out (by rw [hca, h1]; rfl)
          subst hr
          clear hca e h1
          go_wp2
          go_ret
          exact ⟨rfl, hbw⟩
        · rw [hi] at hc4 hca
          obtain ⟨a5, ea, hc5⟩ := hMb.at_ (k := i) (by simpa using hin)
          subst ea
          have hil : (i : Int) < a.owner.length := by omega
          have hca2 : closedAt a who t (marksL a.owner.length s) j = bx (marksL a.owner.length s) i := by rw [hca]; simp
          clear hca hi e
          cases hbx : bx (marksL a.owner.length s) i
          · rw [hbx] at hc5 hca2
            have hr : res = false := Hbad.out hca2
            subst hr
            clear hca2 hbx
            go_wp2
            go_ret
            exact ⟨rfl, hbw⟩
          · rw [hbx] at hc5 hca2
            have Hca := Lib.hid hca2
            clear hca2 hbx
            go_wp2
            exact ⟨⟨k + 1, by omega, by go_num, fun i hi => by
              by_cases ei : i = k
              · rw [ei, Hj.out, Int.toNat_natCast]; exact Hca.out
              · exact Hm.out i (by omega)⟩, by simp [intOf]; omega⟩
      · have hd : (ix a.owner j == who) = false := by simpa using e
        have hca : closedAt a who t (marksL a.owner.length s) j = (rx a.next j).all fun u => bx (marksL a.owner.length s) u.toNat := by unfold closedAt; rw [if_neg e]
        have Hca := Lib.hid hca
        clear hca e hmove
        go_wp2
        go_loop [51] (fun i => ∃ q : Nat, q ≤ (rx a.next j).length ∧ i = .int .i64 q ∧ ∀ p, p < q → bx (marksL a.owner.length s) (ix (rx a.next j) p).toNat = true) (fun i => (rx a.next j).length - (intOf i).toNat)
        case atStart => exact ⟨0, Nat.zero_le _, rfl, fun p hp => by omega⟩
        case round =>
          obtain ⟨q, hq, rfl, hq2⟩ := hrel
          have Hq := Lib.hid hq2
          clear hq2
          by_cases hql : q < (rx a.next j).length
          · obtain ⟨a6, ea, hc6⟩ := hrow.at_ hql
            subst ea
            obtain ⟨i, hi, hin⟩ := hvn q hql
            obtain ⟨a5, ea, hc5⟩ := hMb.at_ (k := i) (by simpa using hin)
            subst ea
            rw [hi] at hc6
            have Hi := Lib.hid hi
            clear hi
            have hil : (i : Int) < a.owner.length := by omega
            cases hbx : bx (marksL a.owner.length s) i
            · rw [hbx] at hc5
              have hr : res = false := Hbad.out (by rw [Hca.out]; exact all_bad hql (by rw [Hi.out, Int.toNat_natCast]; exact hbx))
              subst hr
              clear hbx
              go_wp2
              go_ret
              exact ⟨rfl, hbw⟩
            · rw [hbx] at hc5
              have Hbx := Lib.hid hbx
              clear hbx
              go_wp2
              exact ⟨⟨q + 1, by omega, by go_num, fun p hp => by
                by_cases ep : p = q
                · rw [ep, Hi.out, Int.toNat_natCast]; exact Hbx.out
                · exact Hq.out p (by omega)⟩, by simp [intOf]; omega⟩
          · have hgood : closedAt a who t (marksL a.owner.length s) j = true := by
              rw [Hca.out]; exact all_good fun p hp => Hq.out p (by omega)
            have Hg := Lib.hid hgood
            clear hgood
            go_wp2
            exact ⟨⟨k + 1, by omega, by go_num, fun i hi => by
              by_cases ei : i = k
              · rw [ei, Hj.out, Int.toNat_natCast]; exact Hg.out
              · exact Hm.out i (by omega)⟩, by simp [intOf]; omega⟩
    · have hr : res = true := by rw [← Hres.out]; exact all_good fun j hj => Hm.out j (by omega)
      subst hr
      go_wp2
      go_ret
      exact ⟨rfl, hbw⟩

set_option maxHeartbeats 1000000 in
theorem ClosedIn_any (v : Value) (a : ArenaD) (who : Int) (u : Value) (s : List Int) (y : Value) (t : List Int) (w : World) (hv : IsArena w v a) (hu : Ints w u s) (hy : Ints w y t) :
    Calls Try.prog 39 #[v, .int .i64 who, u, y] w fun e w' => e = .returned (.bool (closedG a who s t)) ∧ Below w.heap.size w w' := by
  obtain ⟨o, n, rfl, hbw, hB⟩ := arena_open hv
  cases hE : checkB a who s t
  · have hres : closedG a who s t = false := by unfold closedG; rw [hE]; rfl
    rw [hres]; clear hres
    go_enter Try.func39, Try.ntmps39
    have hBz := hB.lt
    have hBc0 := hB.c0
    have hBc1 := hB.c1
    go_wp2_with fail
    refine (canCheck_any _ a who _ s _ t _ (hv.kept (Kept.of hbw)) (hu.kept (Kept.of hbw)) (hy.kept (Kept.of hbw))).mono ?_
    rintro e w1 ⟨rfl, hb1⟩
    clear hBc0 hBc1 hBz
    replace hB := hB.below hb1 hB.lt
    replace hbw := Below.up hbw hb1
    have hb1s := hb1.size
    clear hb1
    have hBz := hB.lt
    have hBc0 := hB.c0
    have hBc1 := hB.c1
    go_wp2
    go_ret
    exact ⟨rfl, hbw⟩
  · have hres : closedG a who s t = closedL a who s t := by unfold closedG; rw [hE]; rfl
    rw [hres]; clear hres
    have hok := checkB_iff.1 hE
    go_enter Try.func39, Try.ntmps39
    have hBz := hB.lt
    have hBc0 := hB.c0
    have hBc1 := hB.c1
    go_wp2_with fail
    refine (canCheck_any _ a who _ s _ t _ (hv.kept (Kept.of hbw)) (hu.kept (Kept.of hbw)) (hy.kept (Kept.of hbw))).mono ?_
    rintro e w1 ⟨rfl, hb1⟩
    clear hBc0 hBc1 hBz
    replace hB := hB.below hb1 hB.lt
    replace hbw := Below.up hbw hb1
    have hb1s := hb1.size
    clear hb1
    have hBz := hB.lt
    have hBc0 := hB.c0
    have hBc1 := hB.c1
    go_wp2_with fail
    refine (closedIn_any _ a who _ s _ t _ (hv.kept (Kept.of hbw)) (hu.kept (Kept.of hbw)) (hy.kept (Kept.of hbw)) hok).mono ?_
    rintro e w2 ⟨rfl, hb2⟩
    clear hBc0 hBc1 hBz
    replace hB := hB.below hb2 hB.lt
    replace hbw := Below.up hbw hb2
    have hb2s := hb2.size
    clear hb2
    have hBz := hB.lt
    have hBc0 := hB.c0
    have hBc1 := hB.c1
    go_wp2
    go_ret
    exact ⟨rfl, hbw⟩

set_option maxRecDepth 100000 in
set_option maxHeartbeats 2000000 in
theorem specClosedIn_any (v : Value) (a : ArenaD) (who : Int) (u : Value) (s : List Int) (y : Value) (t : List Int) (w : World) (hv : IsArena w v a) (hu : Ints w u s) (hy : Ints w y t) :
    Calls Try.prog 75 #[v, .int .i64 who, u, y] w fun e w' => e = .returned (.bool (closedG a who s t)) ∧ Below w.heap.size w w' := by
  obtain ⟨o, n, rfl, hbw, hB⟩ := arena_open hv
  obtain ⟨ho, hn⟩ := hv.parts
  obtain ⟨A, c, rfl, hlc, hcm⟩ := ho.form
  obtain ⟨A', c', rfl, hlc', hcm'⟩ := hn.form
  obtain ⟨A2, c2, rfl, hlc2, hcm2⟩ := hu.form
  obtain ⟨A3, c3, rfl, hlc3, hcm3⟩ := hy.form
  have hg : closedG a who s t = ((planOkB a who t && isSetB s a.owner.length) && closedL a who s t) := by unfold closedG; rw [checkB_spec]
  cases hE : planOkB a who t
  · have hres : closedG a who s t = false := by rw [hg, hE]; rfl
    rw [hres]; clear hres hg
    go_enter Try.func75, Try.ntmps75
    have hBz := hB.lt
    have hBc0 := hB.c0
    have hBc1 := hB.c1
    go_wp2_with fail
    refine (specPlanOk_any _ a who _ t _ (hv.kept (Kept.of hbw)) (hy.kept (Kept.of hbw))).mono ?_
    rintro e w1 ⟨rfl, hb1⟩
    clear hBc0 hBc1 hBz
    replace hB := hB.below hb1 hB.lt
    replace hbw := Below.up hbw hb1
    have hb1s := hb1.size
    clear hb1
    have hBz := hB.lt
    have hBc0 := hB.c0
    have hBc1 := hB.c1
    go_wp2
    go_ret
    exact ⟨rfl, hbw⟩
  · cases hE2 : isSetB s a.owner.length
    · have hres : closedG a who s t = false := by rw [hg, hE, hE2]; rfl
      rw [hres]; clear hres hg
      go_enter Try.func75, Try.ntmps75
      have hBz := hB.lt
      have hBc0 := hB.c0
      have hBc1 := hB.c1
      go_wp2_with fail
      refine (specPlanOk_any _ a who _ t _ (hv.kept (Kept.of hbw)) (hy.kept (Kept.of hbw))).mono ?_
      rintro e w1 ⟨rfl, hb1⟩
      clear hBc0 hBc1 hBz
      replace hB := hB.below hb1 hB.lt
      replace hbw := Below.up hbw hb1
      have hb1s := hb1.size
      clear hb1
      have hBz := hB.lt
      have hBc0 := hB.c0
      have hBc1 := hB.c1
      go_wp2_with fail
      refine (drew_below (l1Set_any _ s _ _ (hu.kept (Kept.of hbw)) (by omega) (by omega))).mono ?_
      rintro e w2 ⟨rfl, hb2⟩
      clear hBc0 hBc1 hBz
      replace hB := hB.below hb2 hB.lt
      replace hbw := Below.up hbw hb2
      have hb2s := hb2.size
      clear hb2
      have hBz := hB.lt
      have hBc0 := hB.c0
      have hBc1 := hB.c1
      go_wp2
      go_ret
      exact ⟨rfl, hbw⟩
    · have hres : closedG a who s t = closedL a who s t := by rw [hg, hE, hE2]; rfl
      rw [hres]; clear hres hg
      have hok : CheckOk a who s t := checkB_iff.1 (by rw [checkB_spec, hE, hE2]; rfl)
      have hle := hok.arena.le
      have Hlen := Lib.hid hok.arena.len
      have Hpl := Lib.hid hok.plan.len
      obtain ⟨res, hres⟩ : ∃ r, closedL a who s t = r := ⟨_, rfl⟩
      rw [hres]
      have Hres := Lib.hid hres
      clear hres
      go_enter Try.func75, Try.ntmps75
      have hBz := hB.lt
      have hBc0 := hB.c0
      have hBc1 := hB.c1
      go_wp2_with fail
      refine (specPlanOk_any _ a who _ t _ (hv.kept (Kept.of hbw)) (hy.kept (Kept.of hbw))).mono ?_
      rintro e w1 ⟨rfl, hb1⟩
      clear hBc0 hBc1 hBz
      replace hB := hB.below hb1 hB.lt
      replace hbw := Below.up hbw hb1
      have hb1s := hb1.size
      clear hb1
      have hBz := hB.lt
      have hBc0 := hB.c0
      have hBc1 := hB.c1
      go_wp2_with fail
      refine (drew_below (l1Set_any _ s _ _ (hu.kept (Kept.of hbw)) (by omega) (by omega))).mono ?_
      rintro e w2 ⟨rfl, hb2⟩
      clear hBc0 hBc1 hBz
      replace hB := hB.below hb2 hB.lt
      replace hbw := Below.up hbw hb2
      have hb2s := hb2.size
      clear hb2
      have hBz := hB.lt
      have hBc0 := hB.c0
      have hBc1 := hB.c1
      go_wp2_with fail
      refine (l1Marks_any _ s a.owner.length _ (hu.kept (Kept.of hbw)) hok.set.vert (by omega)).mono ?_
      rintro e w3 ⟨um, rfl, hM, hb3⟩
      obtain ⟨M, m, he, hml, hmm⟩ := hM.bools.form
      rw [length_marksL] at he hml
      subst he
      clear hBc0 hBc1 hBz
      replace hB := hB.below hb3 hB.lt
      replace hbw := Below.up hbw hb3
      have hb3s := hb3.size
      clear hb3
      have hBz := hB.lt
      have hBc0 := hB.c0
      have hBc1 := hB.c1
      have hMb := hM.bools
      clear hM
      have hu1 := (hu.kept (Kept.of hbw))
      have hn1 := (hn.kept (Kept.of hbw))
      have ho1 := (ho.kept (Kept.of hbw))
      have hy1 := (hy.kept (Kept.of hbw))
      go_wp2
      go_loopw [10] (fun i wr => ∃ k q : Nat, k ≤ s.length ∧ i = .int .i64 k ∧ wr = w3.drewN q ∧ ∀ j, j < k → closedAt a who t (marksL a.owner.length s) (ix s j).toNat = true) (fun i _ => s.length - (intOf i).toNat)
      case atStart => exact ⟨0, 0, Nat.zero_le _, rfl, rfl, fun j hj => by omega⟩
      case round =>
        obtain ⟨k, q0, hk, rfl, rfl, hm⟩ := hrel
        have Hm := Lib.hid hm
        clear hm
        by_cases hlt : k < s.length
        · obtain ⟨a1, ea, hc1⟩ := hu1.at_ hlt
          subst ea
          obtain ⟨j, hj, hjn⟩ := hok.set.vert k hlt
          obtain ⟨a2, R, r, ea, hc2, hrow⟩ := hn1.at_ (k := j) (by rw [Hlen.out]; exact hjn)
          subst ea
          obtain ⟨a3, ea, hc3⟩ := ho1.at_ hjn
          subst ea
          obtain ⟨a4, ea, hc4⟩ := hy1.at_ (k := j) (by rw [Hpl.out]; exact hjn)
          subst ea
          obtain ⟨R', r', he, hrl, hrm⟩ := hrow.form
          simp only [Value.slice.injEq, true_and] at he
          obtain ⟨rfl, rfl⟩ := he
          have hmove := hok.plan.move hok.arena hjn
          have hvn := hok.arena.vert_next hjn
          rw [hj] at hc1
          have Hj := Lib.hid hj
          clear hj
          have hjl : (j : Int) < a.owner.length := by omega
          have hjl2 : (j : Int) < a.next.length := by rw [Hlen.out]; omega
          have hjl3 : (j : Int) < t.length := by rw [Hpl.out]; omega
          have hkl : (k : Int) < s.length := by omega
          have hbad : closedAt a who t (marksL a.owner.length s) j = false → res = false := fun h => by
            rw [← Hres.out]; exact all_bad hlt (by rw [Hj.out, Int.toNat_natCast]; exact h)
          have Hbad := Lib.hid hbad
          clear hbad
          by_cases e : ix a.owner j = who
          · have hd : (ix a.owner j == who) = true := by simpa using e
            have hca : closedAt a who t (marksL a.owner.length s) j = (decide (0 ≤ ix t j) && bx (marksL a.owner.length s) (ix t j).toNat) := by unfold closedAt; rw [if_pos e]
            rcases hmove with h1 | ⟨i, hi, hin, _⟩
            · rw [h1] at hc4
              have hr : res = false := Hbad.out (by rw [hca, h1]; rfl)
              subst hr
              clear hca e h1
              go_wp2
              go_ret
              exact ⟨rfl, below_drewN hbw _⟩
            · rw [hi] at hc4 hca
              obtain ⟨a5, ea, hc5⟩ := hMb.at_ (k := i) (by simpa using hin)
              subst ea
              have hil : (i : Int) < a.owner.length := by omega
              have hca2 : closedAt a who t (marksL a.owner.length s) j = bx (marksL a.owner.length s) i := by rw [hca]; simp
              clear hca hi e
              cases hbx : bx (marksL a.owner.length s) i
              · rw [hbx] at hc5 hca2
                have hr : res = false := Hbad.out hca2
                subst hr
                clear hca2 hbx
                go_wp2
                go_ret
                exact ⟨rfl, below_drewN hbw _⟩
              · rw [hbx] at hc5 hca2
                have Hca := Lib.hid hca2
                clear hca2 hbx
                go_wp2
                exact ⟨⟨k + 1, q0, by omega, by go_num, rfl, fun i hi => by
                  by_cases ei : i = k
                  · rw [ei, Hj.out, Int.toNat_natCast]; exact Hca.out
                  · exact Hm.out i (by omega)⟩, by simp [intOf]; omega⟩
          · have hd : (ix a.owner j == who) = false := by simpa using e
            have hca : closedAt a who t (marksL a.owner.length s) j = (rx a.next j).all fun u => bx (marksL a.owner.length s) u.toNat := by unfold closedAt; rw [if_neg e]
            have Hca := Lib.hid hca
            clear hca e hmove
            go_wp2
            obtain ⟨w4, hw4⟩ : ∃ w4 : World, w3.drewN q0 = w4 := ⟨_, rfl⟩
            have hbw4 : Below w.heap.size w w4 := hw4 ▸ below_drewN hbw _
            go_loopw [12] (fun i wr => ∃ q p : Nat, q ≤ (rx a.next j).length ∧ i = .int .i64 q ∧ wr = w3.drewN p ∧ ∀ p, p < q → bx (marksL a.owner.length s) (ix (rx a.next j) p).toNat = true) (fun i _ => (rx a.next j).length - (intOf i).toNat)
            case atStart => exact ⟨0, q0, Nat.zero_le _, rfl, rfl, fun p hp => by omega⟩
            case round =>
              obtain ⟨q, p0, hq, rfl, rfl, hq2⟩ := hrel
              have Hq := Lib.hid hq2
              clear hq2
              by_cases hql : q < (rx a.next j).length
              · obtain ⟨a6, ea, hc6⟩ := hrow.at_ hql
                subst ea
                obtain ⟨i, hi, hin⟩ := hvn q hql
                obtain ⟨a5, ea, hc5⟩ := hMb.at_ (k := i) (by simpa using hin)
                subst ea
                rw [hi] at hc6
                have Hi := Lib.hid hi
                clear hi
                have hil : (i : Int) < a.owner.length := by omega
                have hqll : (q : Int) < (rx a.next j).length := by omega
                cases hbx : bx (marksL a.owner.length s) i
                · rw [hbx] at hc5
                  have hr : res = false := Hbad.out (by rw [Hca.out]; exact all_bad hql (by rw [Hi.out, Int.toNat_natCast]; exact hbx))
                  subst hr
                  clear hbx
                  go_wp2
                  go_ret
                  exact ⟨rfl, below_drewN hbw _⟩
                · rw [hbx] at hc5
                  have Hbx := Lib.hid hbx
                  clear hbx
                  go_wp2
                  exact ⟨⟨q + 1, p0, by omega, by go_num, rfl, fun p hp => by
                    by_cases ep : p = q
                    · rw [ep, Hi.out, Int.toNat_natCast]; exact Hbx.out
                    · exact Hq.out p (by omega)⟩, by simp [intOf]; omega⟩
              · have hgood : closedAt a who t (marksL a.owner.length s) j = true := by
                  rw [Hca.out]; exact all_good fun p hp => Hq.out p (by omega)
                have Hg := Lib.hid hgood
                clear hgood
                go_wp2
                exact ⟨⟨k + 1, p0, by omega, by go_num, rfl, fun i hi => by
                  by_cases ei : i = k
                  · rw [ei, Hj.out, Int.toNat_natCast]; exact Hg.out
                  · exact Hm.out i (by omega)⟩, by simp [intOf]; omega⟩
        · have hr : res = true := by rw [← Hres.out]; exact all_good fun j hj => Hm.out j (by omega)
          subst hr
          go_wp2
          go_ret
          exact ⟨rfl, below_drewN hbw _⟩
end Go.Proofs.Ytogfpalgnjlfcaa
