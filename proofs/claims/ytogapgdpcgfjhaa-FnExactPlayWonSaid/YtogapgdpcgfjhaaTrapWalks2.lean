/- The walks of EscapesIn and TrapIn, both ways. Conditions: the lists' lengths. -/
import Derived.Test.YtogapgdpcgfjhaaTrapWalks
import Derived.Test.YtogapgdpcgfjhaaParityWalks2
namespace Go.Proofs.Ytogapgdpcgfjhaa
set_option linter.unusedSimpArgs false
set_option linter.unusedVariables false
open Go.RowKit

set_option maxHeartbeats 2000000 in
theorem l3Stays_any (v : Value) (a : ArenaD) (who : Int) (um : Value) (m : List Bool) (j : Nat) (w : World) (hv : IsArena w v a) (hm : Bools w um m) (hml : m.length = a.owner.length) (hok : ArenaOk a) (hj : j < a.owner.length) :
    Calls Try.prog 82 #[v, .int .i64 who, um, .int .i64 j] w fun e w' => e = .returned (.bool (!escB a who m j)) ∧ Below w.heap.size w w' := by
  obtain ⟨o, n, rfl, hbw, hB⟩ := arena_open hv
  obtain ⟨ho, hn⟩ := hv.parts
  obtain ⟨A, c, rfl, hlc, hcm⟩ := ho.form
  obtain ⟨A', c', rfl, hlc', hcm'⟩ := hn.form
  obtain ⟨M, mc, rfl, hmc, hmm⟩ := hm.form
  have hBc0 := hB.c0
  have hBc1 := hB.c1
  have hjn : j < a.next.length := by rw [hok.len]; exact hj
  have hjl : (j : Int) < a.owner.length := by omega
  have hjl2 : (j : Int) < a.next.length := by omega
  obtain ⟨a2, R, r, rfl, hc2, hrow⟩ := ((hn.kept (Kept.of hbw))).at_ hjn
  obtain ⟨a3, rfl, hc3⟩ := ((ho.kept (Kept.of hbw))).at_ hj
  obtain ⟨R', r', he, hrl, hrm⟩ := hrow.form
  simp only [Value.slice.injEq, true_and] at he
  obtain ⟨rfl, rfl⟩ := he
  have hm1 := (hm.kept (Kept.of hbw))
  have hvn := hok.vert_next hj
  have hdeg := (hok.deg hj).1
  have Hml := Lib.hid hml
  clear hml
  have hb0 : ∃ b, (!escB a who m j) = b := ⟨_, rfl⟩
  obtain ⟨b, hb⟩ := hb0
  rw [hb]
  have Hb := Lib.hid hb
  clear hb
  by_cases e : ix a.owner j = who
  · have hd : (ix a.owner j == who) = true := by simpa using e
    have E := Lib.hid e
    clear e
    go_enter Try.func82, Try.ntmps82
    go_wp2
    go_loop [9, 10] (fun x i => ∃ t : Nat, t ≤ (rx a.next j).length ∧ i = .int .i64 t ∧ x = .bool (decide (0 < t)) ∧ ((rx a.next j).take t).all (fun u => bx m u.toNat) = true) (fun _ i => (rx a.next j).length - (intOf i).toNat)
    case atStart => exact ⟨0, Nat.zero_le _, rfl, rfl, rfl⟩
    case round =>
      obtain ⟨t, ht, rfl, rfl, hall⟩ := hrel
      have Hall := Lib.hid hall
      clear hall
      by_cases htl : t < (rx a.next j).length
      · obtain ⟨a4, rfl, hc4⟩ := hrow.at_ htl
        obtain ⟨i, hi, hin⟩ := hvn t htl
        obtain ⟨a5, rfl, hc5⟩ := hm1.at_ (k := i) (by rw [Hml.out]; exact hin)
        have Hs2 := Lib.hid (all_take htl fun u => bx m u.toNat)
        rw [hi, Hall.out] at Hs2
        rw [hi] at hc4
        have hil : (i : Int) < m.length := by rw [Hml.out]; omega
        have htl' : (t : Int) < (rx a.next j).length := by omega
        have Hi := Lib.hid hi
        clear hi
        have hbi : ∃ b, bx m i = b := ⟨_, rfl⟩
        obtain ⟨bi, hbi⟩ := hbi
        rw [hbi] at hc5
        have Hbi := Lib.hid hbi
        clear hbi
        cases bi
        · have hf : b = false := by
            rw [← Hb.out]
            unfold escB
            rw [if_pos E.out, Bool.not_not, Bool.eq_false_iff]
            intro h
            have := List.all_eq_true.1 h _ (mem_ix.2 ⟨t, htl, rfl⟩)
            rw [Hi.out, Int.toNat_natCast, Hbi.out] at this
            cases this
          subst hf
          by_cases ht0 : 0 < t
          all_goals
            go_wp2
            go_ret
            exact ⟨rfl, hbw⟩
        · by_cases ht0 : 0 < t
          all_goals
            go_wp2
            exact ⟨⟨t + 1, by omega, by go_num, by simp, by rw [Hs2.out]; simpa using Hbi.out⟩, by simp [intOf]; omega⟩
      · obtain rfl : t = (rx a.next j).length := by omega
        have hf : b = true := by
          rw [← Hb.out]
          unfold escB
          have := Hall.out
          rw [List.take_length] at this
          rw [if_pos E.out, Bool.not_not, this]
        subst hf
        have hd0 : decide (0 < (rx a.next j).length) = true := decide_eq_true hdeg
        rw [hd0]
        clear hd0
        go_wp2
        go_ret
        exact ⟨rfl, hbw⟩
  · have hd : (ix a.owner j == who) = false := by simpa using e
    have E := Lib.hid e
    clear e
    go_enter Try.func82, Try.ntmps82
    go_wp2
    go_loop [9, 10] (fun x i => ∃ t : Nat, t ≤ (rx a.next j).length ∧ i = .int .i64 t ∧ x = .bool (((rx a.next j).take t).any (fun u => bx m u.toNat))) (fun _ i => (rx a.next j).length - (intOf i).toNat)
    case atStart => exact ⟨0, Nat.zero_le _, rfl, rfl⟩
    case round =>
      obtain ⟨t, ht, rfl, rfl⟩ := hrel
      by_cases htl : t < (rx a.next j).length
      · obtain ⟨a4, rfl, hc4⟩ := hrow.at_ htl
        obtain ⟨i, hi, hin⟩ := hvn t htl
        obtain ⟨a5, rfl, hc5⟩ := hm1.at_ (k := i) (by rw [Hml.out]; exact hin)
        have Hs2 := Lib.hid (any_take htl fun u => bx m u.toNat)
        rw [hi] at Hs2
        rw [hi] at hc4
        have hil : (i : Int) < m.length := by rw [Hml.out]; omega
        have htl' : (t : Int) < (rx a.next j).length := by omega
        clear hi
        have hbi : ∃ b, bx m i = b := ⟨_, rfl⟩
        obtain ⟨bi, hbi⟩ := hbi
        rw [hbi] at hc5
        have Hbi := Lib.hid hbi
        clear hbi
        cases h1 : ((rx a.next j).take t).any fun u => bx m u.toNat
        all_goals
          rw [h1] at Hs2
          clear h1
          cases bi
          all_goals
            go_wp2
            exact ⟨⟨t + 1, by omega, by go_num, by rw [Hs2.out, Int.toNat_natCast, Hbi.out]; simp⟩, by simp [intOf]; omega⟩
      · obtain rfl : t = (rx a.next j).length := by omega
        have hf : ((rx a.next j).take (rx a.next j).length).any (fun u => bx m u.toNat) = b := by
          rw [← Hb.out, List.take_length]
          unfold escB
          rw [if_neg E.out, Bool.not_not]
        rw [hf]
        clear hf
        go_wp2
        go_ret
        exact ⟨rfl, hbw⟩

set_option maxHeartbeats 1000000 in
theorem canAttract_any (v : Value) (a : ArenaD) (who : Int) (u : Value) (s : List Int) (y : Value) (t : List Int) (w : World) (hv : IsArena w v a) (hu : Ints w u s) (hy : Ints w y t) :
    Calls Try.prog 79 #[v, .int .i64 who, u, y] w fun e w' => e = .returned (.bool (canB a who s t)) ∧ Below w.heap.size w w' := by
  obtain ⟨o, n, rfl, hbw, hB⟩ := arena_open hv
  cases hE : arenaOkB a
  · have hres : canB a who s t = false := by unfold canB; rw [hE]; rfl
    rw [hres]; clear hres
    go_enter Try.func79, Try.ntmps79
    have hBz := hB.lt
    have hBc0 := hB.c0
    have hBc1 := hB.c1
    go_wp2_with fail
    refine (ArenaOk_any _ a _ (hv.kept (Kept.of hbw))).mono ?_
    rintro e w1 ⟨rfl, hb1⟩
    clear hBc0 hBc1 hBz
    replace hB := hB.below hb1 hB.lt
    replace hbw := Below.up hbw hb1
    have hb1s := hb1.size
    clear hb1
    have hBz := hB.lt
    have hBc0 := hB.c0
    have hBc1 := hB.c1
    go_wp2
    go_ret
    exact ⟨rfl, hbw⟩
  · cases hE2 : playerB who
    · have hres : canB a who s t = false := by unfold canB; rw [hE, hE2]; rfl
      rw [hres]; clear hres
      go_enter Try.func79, Try.ntmps79
      have hBz := hB.lt
      have hBc0 := hB.c0
      have hBc1 := hB.c1
      go_wp2_with fail
      refine (ArenaOk_any _ a _ (hv.kept (Kept.of hbw))).mono ?_
      rintro e w1 ⟨rfl, hb1⟩
      clear hBc0 hBc1 hBz
      replace hB := hB.below hb1 hB.lt
      replace hbw := Below.up hbw hb1
      have hb1s := hb1.size
      clear hb1
      have hBz := hB.lt
      have hBc0 := hB.c0
      have hBc1 := hB.c1
      go_wp2_with fail
      refine (same_below (isPlayer_any who _)).mono ?_
      rintro e w2 ⟨rfl, hb2⟩
      clear hBc0 hBc1 hBz
      replace hB := hB.below hb2 hB.lt
      replace hbw := Below.up hbw hb2
      have hb2s := hb2.size
      clear hb2
      have hBz := hB.lt
      have hBc0 := hB.c0
      have hBc1 := hB.c1
      go_wp2
      go_ret
      exact ⟨rfl, hbw⟩
    · cases hE3 : isSetB s a.owner.length
      · have hres : canB a who s t = false := by unfold canB; rw [hE, hE2, hE3]; rfl
        rw [hres]; clear hres
        go_enter Try.func79, Try.ntmps79
        have hBz := hB.lt
        have hBc0 := hB.c0
        have hBc1 := hB.c1
        go_wp2_with fail
        refine (ArenaOk_any _ a _ (hv.kept (Kept.of hbw))).mono ?_
        rintro e w1 ⟨rfl, hb1⟩
        clear hBc0 hBc1 hBz
        replace hB := hB.below hb1 hB.lt
        replace hbw := Below.up hbw hb1
        have hb1s := hb1.size
        clear hb1
        have hBz := hB.lt
        have hBc0 := hB.c0
        have hBc1 := hB.c1
        go_wp2_with fail
        refine (same_below (isPlayer_any who _)).mono ?_
        rintro e w2 ⟨rfl, hb2⟩
        clear hBc0 hBc1 hBz
        replace hB := hB.below hb2 hB.lt
        replace hbw := Below.up hbw hb2
        have hb2s := hb2.size
        clear hb2
        have hBz := hB.lt
        have hBc0 := hB.c0
        have hBc1 := hB.c1
        go_wp2_with fail
        refine (size_any _ a _ (hv.kept (Kept.of hbw))).mono ?_
        rintro e w3 ⟨rfl, hb3⟩
        clear hBc0 hBc1 hBz
        replace hB := hB.below hb3 hB.lt
        replace hbw := Below.up hbw hb3
        have hb3s := hb3.size
        clear hb3
        have hBz := hB.lt
        have hBc0 := hB.c0
        have hBc1 := hB.c1
        go_wp2_with fail
        refine (same_below (isSet_any _ s _ _ (hu.kept (Kept.of hbw)))).mono ?_
        rintro e w4 ⟨rfl, hb4⟩
        clear hBc0 hBc1 hBz
        replace hB := hB.below hb4 hB.lt
        replace hbw := Below.up hbw hb4
        have hb4s := hb4.size
        clear hb4
        have hBz := hB.lt
        have hBc0 := hB.c0
        have hBc1 := hB.c1
        go_wp2
        go_ret
        exact ⟨rfl, hbw⟩
      · have hres : canB a who s t = isSetB t a.owner.length := by unfold canB; rw [hE, hE2, hE3]; rfl
        rw [hres]; clear hres
        go_enter Try.func79, Try.ntmps79
        have hBz := hB.lt
        have hBc0 := hB.c0
        have hBc1 := hB.c1
        go_wp2_with fail
        refine (ArenaOk_any _ a _ (hv.kept (Kept.of hbw))).mono ?_
        rintro e w1 ⟨rfl, hb1⟩
        clear hBc0 hBc1 hBz
        replace hB := hB.below hb1 hB.lt
        replace hbw := Below.up hbw hb1
        have hb1s := hb1.size
        clear hb1
        have hBz := hB.lt
        have hBc0 := hB.c0
        have hBc1 := hB.c1
        go_wp2_with fail
        refine (same_below (isPlayer_any who _)).mono ?_
        rintro e w2 ⟨rfl, hb2⟩
        clear hBc0 hBc1 hBz
        replace hB := hB.below hb2 hB.lt
        replace hbw := Below.up hbw hb2
        have hb2s := hb2.size
        clear hb2
        have hBz := hB.lt
        have hBc0 := hB.c0
        have hBc1 := hB.c1
        go_wp2_with fail
        refine (size_any _ a _ (hv.kept (Kept.of hbw))).mono ?_
        rintro e w3 ⟨rfl, hb3⟩
        clear hBc0 hBc1 hBz
        replace hB := hB.below hb3 hB.lt
        replace hbw := Below.up hbw hb3
        have hb3s := hb3.size
        clear hb3
        have hBz := hB.lt
        have hBc0 := hB.c0
        have hBc1 := hB.c1
        go_wp2_with fail
        refine (same_below (isSet_any _ s _ _ (hu.kept (Kept.of hbw)))).mono ?_
        rintro e w4 ⟨rfl, hb4⟩
        clear hBc0 hBc1 hBz
        replace hB := hB.below hb4 hB.lt
        replace hbw := Below.up hbw hb4
        have hb4s := hb4.size
        clear hb4
        have hBz := hB.lt
        have hBc0 := hB.c0
        have hBc1 := hB.c1
        go_wp2_with fail
        refine (size_any _ a _ (hv.kept (Kept.of hbw))).mono ?_
        rintro e w5 ⟨rfl, hb5⟩
        clear hBc0 hBc1 hBz
        replace hB := hB.below hb5 hB.lt
        replace hbw := Below.up hbw hb5
        have hb5s := hb5.size
        clear hb5
        have hBz := hB.lt
        have hBc0 := hB.c0
        have hBc1 := hB.c1
        go_wp2_with fail
        refine (same_below (isSet_any _ t _ _ (hy.kept (Kept.of hbw)))).mono ?_
        rintro e w6 ⟨rfl, hb6⟩
        clear hBc0 hBc1 hBz
        replace hB := hB.below hb6 hB.lt
        replace hbw := Below.up hbw hb6
        have hb6s := hb6.size
        clear hb6
        have hBz := hB.lt
        have hBc0 := hB.c0
        have hBc1 := hB.c1
        go_wp2
        go_ret
        exact ⟨rfl, hbw⟩

set_option maxHeartbeats 1000000 in
theorem l3Ok_any (v : Value) (a : ArenaD) (who : Int) (u : Value) (s : List Int) (w : World) (hv : IsArena w v a) (hu : Ints w u s) :
    Calls Try.prog 78 #[v, .int .i64 who, u] w fun e w' => e = .returned (.bool (l3OkB a who s)) ∧ Below w.heap.size w w' := by
  obtain ⟨o, n, rfl, hbw, hB⟩ := arena_open hv
  obtain ⟨ho, hn⟩ := hv.parts
  obtain ⟨A, c, rfl, hlc, hcm⟩ := ho.form
  cases hE : arenaOkB a
  · have hres : l3OkB a who s = false := by unfold l3OkB; rw [hE]; rfl
    rw [hres]; clear hres
    go_enter Try.func78, Try.ntmps78
    have hBz := hB.lt
    have hBc0 := hB.c0
    have hBc1 := hB.c1
    go_wp2_with fail
    refine (specArenaOk_any _ a _ (hv.kept (Kept.of hbw))).mono ?_
    rintro e w1 ⟨rfl, hb1⟩
    clear hBc0 hBc1 hBz
    replace hB := hB.below hb1 hB.lt
    replace hbw := Below.up hbw hb1
    have hb1s := hb1.size
    clear hb1
    have hBz := hB.lt
    have hBc0 := hB.c0
    have hBc1 := hB.c1
    go_wp2
    go_ret
    exact ⟨rfl, hbw⟩
  · cases hE2 : playerB who
    · have hres : l3OkB a who s = false := by unfold l3OkB; rw [hE, hE2]; rfl
      rw [hres]; clear hres
      go_enter Try.func78, Try.ntmps78
      have hBz := hB.lt
      have hBc0 := hB.c0
      have hBc1 := hB.c1
      go_wp2_with fail
      refine (specArenaOk_any _ a _ (hv.kept (Kept.of hbw))).mono ?_
      rintro e w1 ⟨rfl, hb1⟩
      clear hBc0 hBc1 hBz
      replace hB := hB.below hb1 hB.lt
      replace hbw := Below.up hbw hb1
      have hb1s := hb1.size
      clear hb1
      have hBz := hB.lt
      have hBc0 := hB.c0
      have hBc1 := hB.c1
      go_wp2_with fail
      refine (same_below (l1In_player who _)).mono ?_
      rintro e w2 ⟨rfl, hb2⟩
      clear hBc0 hBc1 hBz
      replace hB := hB.below hb2 hB.lt
      replace hbw := Below.up hbw hb2
      have hb2s := hb2.size
      clear hb2
      have hBz := hB.lt
      have hBc0 := hB.c0
      have hBc1 := hB.c1
      go_wp2
      go_ret
      exact ⟨rfl, hbw⟩
    · have hres : l3OkB a who s = isSetB s a.owner.length := by unfold l3OkB; rw [hE, hE2]; rfl
      rw [hres]; clear hres
      go_enter Try.func78, Try.ntmps78
      have hBz := hB.lt
      have hBc0 := hB.c0
      have hBc1 := hB.c1
      go_wp2_with fail
      refine (specArenaOk_any _ a _ (hv.kept (Kept.of hbw))).mono ?_
      rintro e w1 ⟨rfl, hb1⟩
      clear hBc0 hBc1 hBz
      replace hB := hB.below hb1 hB.lt
      replace hbw := Below.up hbw hb1
      have hb1s := hb1.size
      clear hb1
      have hBz := hB.lt
      have hBc0 := hB.c0
      have hBc1 := hB.c1
      go_wp2_with fail
      refine (same_below (l1In_player who _)).mono ?_
      rintro e w2 ⟨rfl, hb2⟩
      clear hBc0 hBc1 hBz
      replace hB := hB.below hb2 hB.lt
      replace hbw := Below.up hbw hb2
      have hb2s := hb2.size
      clear hb2
      have hBz := hB.lt
      have hBc0 := hB.c0
      have hBc1 := hB.c1
      go_wp2_with fail
      refine (drew_below (l1Set_any _ s _ _ (hu.kept (Kept.of hbw)) (by omega) (by omega))).mono ?_
      rintro e w3 ⟨rfl, hb3⟩
      clear hBc0 hBc1 hBz
      replace hB := hB.below hb3 hB.lt
      replace hbw := Below.up hbw hb3
      have hb3s := hb3.size
      clear hb3
      have hBz := hB.lt
      have hBc0 := hB.c0
      have hBc1 := hB.c1
      go_wp2
      go_ret
      exact ⟨rfl, hbw⟩

theorem Ints.nil (w : World) : Ints w (.slice none 0 0) [] := ⟨none, 0, rfl, Nat.le_refl _, by omega, fun k hk => absurd hk (Nat.not_lt_zero _)⟩

set_option maxHeartbeats 1000000 in
theorem EscapesIn_any (v : Value) (a : ArenaD) (who : Int) (u : Value) (s : List Int) (w : World) (hv : IsArena w v a) (hu : Ints w u s) :
    Calls Try.prog 42 #[v, .int .i64 who, u] w (RetInts w (escG a who s)) := by
  obtain ⟨o, n, rfl, hbw, hB⟩ := arena_open hv
  cases hE : l3OkB a who s
  · have hres : escG a who s = [] := by unfold escG; rw [hE]; rfl
    have hcan : canB a who s [] = false := by rw [canB_nil, hE]
    rw [hres]; clear hres
    go_enter Try.func42, Try.ntmps42
    have hBz := hB.lt
    have hBc0 := hB.c0
    have hBc1 := hB.c1
    go_wp2_with fail
    refine (canAttract_any _ a who _ s _ [] _ (hv.kept (Kept.of hbw)) (hu.kept (Kept.of hbw)) (Ints.nil _)).mono ?_
    rintro e w1 ⟨rfl, hb1⟩
    clear hBc0 hBc1 hBz
    replace hB := hB.below hb1 hB.lt
    replace hbw := Below.up hbw hb1
    have hb1s := hb1.size
    clear hb1
    have hBz := hB.lt
    have hBc0 := hB.c0
    have hBc1 := hB.c1
    go_wp2
    go_ret
    exact .mk' (OwnInts.nil _ _) hbw
  · have hres : escG a who s = escL a who s := by unfold escG; rw [hE]; rfl
    have hcan : canB a who s [] = true := by rw [canB_nil, hE]
    have hok := l3OkB_iff.1 hE
    rw [hres]; clear hres
    go_enter Try.func42, Try.ntmps42
    have hBz := hB.lt
    have hBc0 := hB.c0
    have hBc1 := hB.c1
    go_wp2_with fail
    refine (canAttract_any _ a who _ s _ [] _ (hv.kept (Kept.of hbw)) (hu.kept (Kept.of hbw)) (Ints.nil _)).mono ?_
    rintro e w1 ⟨rfl, hb1⟩
    clear hBc0 hBc1 hBz
    replace hB := hB.below hb1 hB.lt
    replace hbw := Below.up hbw hb1
    have hb1s := hb1.size
    clear hb1
    have hBz := hB.lt
    have hBc0 := hB.c0
    have hBc1 := hB.c1
    go_wp2_with fail
    refine (escapesIn_any _ a who _ s _ (hv.kept (Kept.of hbw)) (hu.kept (Kept.of hbw)) hok.arena hok.set).mono ?_
    rintro e w9 ⟨u9, rfl, ho9, hb9⟩
    go_wp2
    go_ret
    exact .at_ hbw ho9 hb9

set_option maxHeartbeats 1000000 in
theorem TrapIn_any (v : Value) (a : ArenaD) (who : Int) (u : Value) (s : List Int) (w : World) (hv : IsArena w v a) (hu : Ints w u s) :
    Calls Try.prog 40 #[v, .int .i64 who, u] w fun e w' => e = .returned (.bool (trapB a who s)) ∧ Below w.heap.size w w' := by
  obtain ⟨o, n, rfl, hbw, hB⟩ := arena_open hv
  cases hE : l3OkB a who s
  · have hres : trapB a who s = false := by unfold trapB; rw [hE]; rfl
    have hcan : canB a who s [] = false := by rw [canB_nil, hE]
    rw [hres]; clear hres
    go_enter Try.func40, Try.ntmps40
    have hBz := hB.lt
    have hBc0 := hB.c0
    have hBc1 := hB.c1
    go_wp2_with fail
    refine (canAttract_any _ a who _ s _ [] _ (hv.kept (Kept.of hbw)) (hu.kept (Kept.of hbw)) (Ints.nil _)).mono ?_
    rintro e w1 ⟨rfl, hb1⟩
    clear hBc0 hBc1 hBz
    replace hB := hB.below hb1 hB.lt
    replace hbw := Below.up hbw hb1
    have hb1s := hb1.size
    clear hb1
    have hBz := hB.lt
    have hBc0 := hB.c0
    have hBc1 := hB.c1
    go_wp2
    go_ret
    exact ⟨rfl, hbw⟩
  · have hres : trapB a who s = decide ((escL a who s).length = 0) := by unfold trapB; rw [hE]; rfl
    have hcan : canB a who s [] = true := by rw [canB_nil, hE]
    have hok := l3OkB_iff.1 hE
    rw [hres]; clear hres
    have hd : (((escL a who s).length : Int) == 0) = decide ((escL a who s).length = 0) := by
      rw [Bool.eq_iff_iff]; simp
    go_enter Try.func40, Try.ntmps40
    have hBz := hB.lt
    have hBc0 := hB.c0
    have hBc1 := hB.c1
    go_wp2_with fail
    refine (canAttract_any _ a who _ s _ [] _ (hv.kept (Kept.of hbw)) (hu.kept (Kept.of hbw)) (Ints.nil _)).mono ?_
    rintro e w1 ⟨rfl, hb1⟩
    clear hBc0 hBc1 hBz
    replace hB := hB.below hb1 hB.lt
    replace hbw := Below.up hbw hb1
    have hb1s := hb1.size
    clear hb1
    have hBz := hB.lt
    have hBc0 := hB.c0
    have hBc1 := hB.c1
    go_wp2_with fail
    refine (escapesIn_any _ a who _ s _ (hv.kept (Kept.of hbw)) (hu.kept (Kept.of hbw)) hok.arena hok.set).mono ?_
    rintro e w9 ⟨u9, rfl, ho9, hb9⟩
    obtain ⟨A9, c9, rfl, _⟩ := ho9.ints.form
    clear hBc0 hBc1 hBz
    replace hB := hB.below hb9 hB.lt
    replace hbw := Below.up hbw hb9
    have hb9s := hb9.size
    clear hb9
    have hBz := hB.lt
    have hBc0 := hB.c0
    have hBc1 := hB.c1
    have Hd := Lib.hid hd
    clear hd
    cases hD : decide ((escL a who s).length = 0)
    all_goals
      rw [hD] at Hd
      have hd := Hd.out
      have HD := Lib.hid hD
      clear hD
      go_wp2
      go_ret
      exact ⟨by rw [HD.out]; rfl, hbw⟩

theorem not_eq_comm' {a b : Bool} (h : (!a) = b) : a = !b := by cases a <;> cases b <;> simp_all
set_option maxRecDepth 100000 in
set_option maxHeartbeats 2000000 in
theorem specEscapesIn_any (v : Value) (a : ArenaD) (who : Int) (u : Value) (s : List Int) (w : World) (hv : IsArena w v a) (hu : Ints w u s) (hl : s.length ≤ 1048576) :
    Calls Try.prog 41 #[v, .int .i64 who, u] w (RetInts w (escG a who s)) := by
  obtain ⟨o, n, rfl, hbw, hB⟩ := arena_open hv
  obtain ⟨ho, hn⟩ := hv.parts
  obtain ⟨A, c, rfl, hlc, hcm⟩ := ho.form
  obtain ⟨A', c', rfl, hlc', hcm'⟩ := hn.form
  obtain ⟨A2, c2, rfl, hlc2, hcm2⟩ := hu.form
  have hsz := Lib.hid (show (w.alloc (.cells #[.slice A a.owner.length c, .slice A' a.next.length c'] 30)).heap.size = w.heap.size + 1 by simp)
  obtain ⟨hown, hbn⟩ := new_ints (w.alloc (.cells #[.slice A a.owner.length c, .slice A' a.next.length c'] 30))
  rw [hsz.out] at hown
  have hB0 := hB.alloc (.cells #[] 2)
  have hbw0 := Below.up hbw hbn
  clear hB hbw hbn
  have hB := hB0
  have hbw := hbw0
  clear hB0 hbw0
  replace hown := OI.of hown
  cases hE : l3OkB a who s
  · have hres : escG a who s = [] := by unfold escG; rw [hE]; rfl
    rw [hres]; clear hres
    go_enter Try.func41, Try.ntmps41
    have hBz := hB.lt
    have hBc0 := hB.c0
    have hBc1 := hB.c1
    go_wp2_with fail
    refine (l3Ok_any _ a who _ s _ (hv.kept (Kept.of hbw)) (hu.kept (Kept.of hbw))).mono ?_
    rintro e w1 ⟨rfl, hb1⟩
    clear hBc0 hBc1 hBz
    replace hB := hB.below hb1 hB.lt
    replace hown := hown.below hb1
    replace hbw := Below.up hbw hb1
    have hb1s := hb1.size
    clear hb1
    have hBz := hB.lt
    have hBc0 := hB.c0
    have hBc1 := hB.c1
    go_wp2
    go_ret
    exact .mk' (hown.1.more (by omega)) hbw
  · have hres : escG a who s = escL a who s := by unfold escG; rw [hE]; rfl
    have hok := l3OkB_iff.1 hE
    have hle := hok.arena.le
    rw [hres]; clear hres
    go_enter Try.func41, Try.ntmps41
    have hBz := hB.lt
    have hBc0 := hB.c0
    have hBc1 := hB.c1
    go_wp2_with fail
    refine (l3Ok_any _ a who _ s _ (hv.kept (Kept.of hbw)) (hu.kept (Kept.of hbw))).mono ?_
    rintro e w1 ⟨rfl, hb1⟩
    clear hBc0 hBc1 hBz
    replace hB := hB.below hb1 hB.lt
    replace hown := hown.below hb1
    replace hbw := Below.up hbw hb1
    have hb1s := hb1.size
    clear hb1
    have hBz := hB.lt
    have hBc0 := hB.c0
    have hBc1 := hB.c1
    go_wp2_with fail
    refine (l1Marks_any _ s a.owner.length _ (hu.kept (Kept.of hbw)) hok.set.vert (by omega)).mono ?_
    rintro e w2 ⟨um, rfl, hM, hb2⟩
    obtain ⟨M, m, he, hml, hmm⟩ := hM.bools.form
    rw [length_marksL] at he hml
    subst he
    have hw1 := hbw.size
    have hw12 := hb2.size
    have hlt1 := hown.1.lt
    replace hM := OB.of hM
    clear hBc0 hBc1 hBz
    replace hB := hB.below hb2 hB.lt
    replace hown := hown.below hb2
    replace hbw := Below.up hbw hb2
    have hb2s := hb2.size
    clear hb2
    have hBz := hB.lt
    have hBc0 := hB.c0
    have hBc1 := hB.c1
    have hob : ∀ b, (Value.slice (some ⟨w.heap.size + 1, 0, none⟩) 0 0).ownBlock = some b → b < w1.heap.size ∨ w2.heap.size ≤ b := fun b hb => .inl (hlt1 b hb).2
    clear hlt1
    have hown1 := hown.1
    have Hall := Lib.hid (filter_whole s fun v => escB a who (marksL a.owner.length s) v.toNat)
    clear hown
    go_wp2
    go_loopw [7, 9] (fun v i wr => ∃ k : Nat, k ≤ s.length ∧ i = .int .i64 k ∧ OwnInts wr (w.heap.size + 1) v ((s.take k).filter fun v => escB a who (marksL a.owner.length s) v.toNat) ∧ Below (w.heap.size + 1) w2 wr ∧ OB wr w1.heap.size w2.heap.size (.slice M a.owner.length m) (marksL a.owner.length s) ∧ ∀ b, v.ownBlock = some b → b < w1.heap.size ∨ w2.heap.size ≤ b) (fun _ i _ => s.length - (intOf i).toNat)
    case atStart => exact ⟨0, Nat.zero_le _, rfl, hown1, Below.refl _ _, hM, hob⟩
    case round =>
      obtain ⟨k, hk, rfl, hown, hbr, hM, hob⟩ := hrel
      have hbs := hbr.size
      have hbs2 : w.heap.size + 1 ≤ wr.heap.size := by have := hB.lt; omega
      clear hBc0 hBc1 hBz
      replace hB := hB.below hbr (Nat.lt_succ_self _)
      replace hbw : Below w.heap.size w wr := hbw.trans (hbr.mono (by omega))
      have Hob := Lib.hid hob
      clear hob
      have hBz := hB.lt
      have hBc0 := hB.c0
      have hBc1 := hB.c1
      by_cases hlt : k < s.length
      · obtain ⟨a1, rfl, hc1⟩ := ((hu.kept (Kept.of hbw))).at_ hlt
        obtain ⟨j, hj, hjn⟩ := hok.set.vert k hlt
        have hlen : ((s.take k).filter fun v => escB a who (marksL a.owner.length s) v.toNat).length ≤ s.length := length_filter_take
        have Hs := Lib.hid (filter_take hlt fun v => escB a who (marksL a.owner.length s) v.toNat)
        rw [hj] at hc1 Hs
        clear hj
        have hlt' : (k : Int) < s.length := by omega
        have hcon := fun W (hW : Kept w W) (hm : Bools W (.slice M a.owner.length m) (marksL a.owner.length s)) => l3Stays_any _ a who _ (marksL a.owner.length s) j W (hv.kept hW) hm (length_marksL _ _) hok.arena hjn
        have hx0 : ∃ x, escB a who (marksL a.owner.length s) j = x := ⟨_, rfl⟩
        obtain ⟨x, hx⟩ := hx0
        rw [hx] at hcon
        rw [Int.toNat_natCast, hx] at Hs
        clear hx
        have Hc := Lib.hid hcon
        clear hcon
        cases x
        · go_wp2_with fail
          go_region_held3 (fun W => W.cell? ⟨w.heap.size, 0, none⟩ = some (.slice A a.owner.length c) ∧ W.cell? ⟨w.heap.size, 1, none⟩ = some (.slice A' a.next.length c') ∧ W.cell? (a1.add k) = some (.int .i64 (j : Int)))
            (first | exact ⟨hB.c0, hB.c1, hc1⟩ | exact ⟨(hB.below hb8 hB.lt).c0, (hB.below hb8 hB.lt).c1, (Kept.of hb8).cell hc1⟩)
            (first | (go_at_call 82; refine (Hc.out _ ((Kept.of hbw).trans (Kept.drew _) hbw.size) (hM.bools.kept (Kept.drew _))).mono ?_; rintro e w8 ⟨rfl, hb8⟩; replace hb8 := below_of_drew hb8))
          go_wp2
          exact ⟨⟨k + 1, by omega, by go_num, by rw [Hs.out]; simpa using hown.below hb8 (Nat.le_refl _), hbr.trans (hb8.mono (by omega)), hM.below hb8, Hob.out⟩, by simp [intOf]; omega⟩
        · go_wp2_with fail
          go_region_held3 (fun W => W.cell? ⟨w.heap.size, 0, none⟩ = some (.slice A a.owner.length c) ∧ W.cell? ⟨w.heap.size, 1, none⟩ = some (.slice A' a.next.length c') ∧ W.cell? (a1.add k) = some (.int .i64 (j : Int)))
            (first | exact ⟨hB.c0, hB.c1, hc1⟩ | exact ⟨(hB.below hb8 hB.lt).c0, (hB.below hb8 hB.lt).c1, (Kept.of hb8).cell hc1⟩)
            (first | (go_at_call 82; refine (Hc.out _ ((Kept.of hbw).trans (Kept.drew _) hbw.size) (hM.bools.kept (Kept.drew _))).mono ?_; rintro e w8 ⟨rfl, hb8⟩; replace hb8 := below_of_drew hb8))
          have hc1' := (Kept.of hb8).cell hc1
          have hbs8 := hb8.size
          go_wp2_with (at_builtin; refine append_int _ rfl (.tmp 37) (.tmp 42) rfl (w.heap.size + 1) u7 _ rfl (hown.below hb8 (Nat.le_refl _)) (j : Int) rfl (by omega) (by omega) ?_; intro v1 w3 ho1 hb1 hg1 hl1)
          refine ⟨⟨k + 1, by omega, by go_num, by rw [Hs.out]; simpa using ho1, hbr.trans ((hb8.mono (by omega)).trans hb1), (hM.below hb8).chg (Chg.of_grown hg1) fun b hb e => ?_, fun b hb => ?_⟩, by simp [intOf]; omega⟩
          · have h1 := Hob.out b e
            have h2 := hM.2 b hb
            have h3 := (hM.1.lt b hb).1
            omega
          · rcases hl1 with e | e
            · rw [e] at hb; exact Hob.out b hb
            · rw [e] at hb; injection hb with hb; omega
      · obtain rfl : k = s.length := by omega
        go_wp2
        go_ret
        exact .mk' (by unfold escL; rw [← Hall.out]; exact hown.more (by omega)) hbw

set_option maxHeartbeats 1000000 in
theorem specTrapIn_any (v : Value) (a : ArenaD) (who : Int) (u : Value) (s : List Int) (w : World) (hv : IsArena w v a) (hu : Ints w u s) (hl : s.length ≤ 1048576) :
    Calls Try.prog 39 #[v, .int .i64 who, u] w fun e w' => e = .returned (.bool (trapB a who s)) ∧ Below w.heap.size w w' := by
  obtain ⟨o, n, rfl, hbw, hB⟩ := arena_open hv
  cases hE : l3OkB a who s
  · have hres : trapB a who s = false := by unfold trapB; rw [hE]; rfl
    rw [hres]; clear hres
    go_enter Try.func39, Try.ntmps39
    have hBz := hB.lt
    have hBc0 := hB.c0
    have hBc1 := hB.c1
    go_wp2_with fail
    refine (l3Ok_any _ a who _ s _ (hv.kept (Kept.of hbw)) (hu.kept (Kept.of hbw))).mono ?_
    rintro e w1 ⟨rfl, hb1⟩
    clear hBc0 hBc1 hBz
    replace hB := hB.below hb1 hB.lt
    replace hbw := Below.up hbw hb1
    have hb1s := hb1.size
    clear hb1
    have hBz := hB.lt
    have hBc0 := hB.c0
    have hBc1 := hB.c1
    go_wp2
    go_ret
    exact ⟨rfl, hbw⟩
  · have hres : trapB a who s = decide ((escL a who s).length = 0) := by unfold trapB; rw [hE]; rfl
    have hesc : escG a who s = escL a who s := by unfold escG; rw [hE]; rfl
    rw [hres]; clear hres
    have hd : (((escL a who s).length : Int) == 0) = decide ((escL a who s).length = 0) := by
      rw [Bool.eq_iff_iff]; simp
    have hcon := fun W (hW : Kept w W) => specEscapesIn_any _ a who _ s W (hv.kept hW) (hu.kept hW) hl
    rw [hesc] at hcon
    clear hesc
    go_enter Try.func39, Try.ntmps39
    have hBz := hB.lt
    have hBc0 := hB.c0
    have hBc1 := hB.c1
    go_wp2_with fail
    refine (l3Ok_any _ a who _ s _ (hv.kept (Kept.of hbw)) (hu.kept (Kept.of hbw))).mono ?_
    rintro e w1 ⟨rfl, hb1⟩
    clear hBc0 hBc1 hBz
    replace hB := hB.below hb1 hB.lt
    replace hbw := Below.up hbw hb1
    have hb1s := hb1.size
    clear hb1
    have hBz := hB.lt
    have hBc0 := hB.c0
    have hBc1 := hB.c1
    go_wp2_with fail
    refine (hcon _ (Kept.of hbw)).mono ?_
    rintro e w9 ⟨u9, rfl, ho9, hb9⟩
    obtain ⟨A9, c9, rfl, _⟩ := ho9.ints.form
    clear hBc0 hBc1 hBz
    replace hB := hB.below hb9 hB.lt
    replace hbw := Below.up hbw hb9
    have hb9s := hb9.size
    clear hb9
    have hBz := hB.lt
    have hBc0 := hB.c0
    have hBc1 := hB.c1
    have Hd := Lib.hid hd
    clear hd
    cases hD : decide ((escL a who s).length = 0)
    all_goals
      rw [hD] at Hd
      have hd := Hd.out
      have HD := Lib.hid hD
      clear hD hcon
      go_wp2
      go_ret
      exact ⟨by rw [HD.out]; rfl, hbw⟩
end Go.Proofs.Ytogapgdpcgfjhaa
