/- The walks of the reference's ranks. Conditions: the arena is valid. -/
import Derived.Test.YtogfpalgnjlfcaaRankWalks2
import Derived.Test.YtogfpalgnjlfcaaClass
namespace Go.Proofs.Ytogfpalgnjlfcaa
set_option linter.unusedSimpArgs false
set_option linter.unusedVariables false
open Go.RowKit

theorem lowOf_bounds {m : List Bool} {r l : List Int} {n : Nat} (hl : ∀ u ∈ l, u.toNat < n) (hr : ∀ v, v < n → -1 ≤ ix r v ∧ ix r v ≤ 256) : -1 ≤ lowOf m r l ∧ lowOf m r l ≤ 256 := by
  rcases low_spec m r l with ⟨h, _⟩ | ⟨⟨u, hu, _, h⟩, _⟩
  · omega
  · have := hr _ (hl u hu); omega
theorem topOf_bounds {m : List Bool} {r l : List Int} {n : Nat} (hl : ∀ u ∈ l, u.toNat < n) (hr : ∀ v, v < n → -1 ≤ ix r v ∧ ix r v ≤ 256) : -1 ≤ topOf m r l ∧ topOf m r l ≤ 256 := by
  rcases top_spec m r l with ⟨h, _⟩ | ⟨⟨u, hu, _, h⟩, _⟩
  · omega
  · have := hr _ (hl u hu); omega
theorem vert_mem {l : List Int} {n : Nat} (h : Vert l n) : ∀ u ∈ l, u.toNat < n := fun u hu => by
  obtain ⟨k, hk, e⟩ := mem_ix.1 hu
  obtain ⟨j, hj, hjn⟩ := h k hk
  omega

set_option maxRecDepth 100000 in
set_option maxHeartbeats 4000000 in
theorem l3Rank_any (v : Value) (a : ArenaD) (who : Int) (um : Value) (m : List Bool) (ur : Value) (r : List Int) (j : Nat) (w : World) (hv : IsArena w v a) (hm : Bools w um m) (hr : Ints w ur r) (hml : m.length = a.owner.length) (hrl : r.length = a.owner.length) (hok : ArenaOk a) (hj : j < a.owner.length) (hrb : ∀ v, v < a.owner.length → -1 ≤ ix r v ∧ ix r v ≤ 256) :
    Calls Try.prog 98 #[v, .int .i64 who, um, ur, .int .i64 (j : Int)] w fun e w' => e = .returned (.int .i64 (rankV a who m r j)) ∧ Below w.heap.size w w' := by
  obtain ⟨o, n, rfl, hbw, hB⟩ := arena_open hv
  obtain ⟨ho, hn⟩ := hv.parts
  obtain ⟨A, c, rfl, hlc, hcm⟩ := ho.form
  obtain ⟨A', c', rfl, hlc', hcm'⟩ := hn.form
  obtain ⟨M, mc, rfl, hmc, hmm⟩ := hm.form
  obtain ⟨R0, rc, rfl, hrc, hrm⟩ := hr.form
  have hBc0 := hB.c0
  have hBc1 := hB.c1
  have hjn : j < a.next.length := by rw [hok.len]; exact hj
  have hjl : (j : Int) < a.owner.length := by omega
  have hjl2 : (j : Int) < a.next.length := by omega
  obtain ⟨a2, R, q, rfl, hc2, hrow⟩ := ((hn.kept (Kept.of hbw))).at_ hjn
  obtain ⟨a3, rfl, hc3⟩ := ((ho.kept (Kept.of hbw))).at_ hj
  obtain ⟨R', r', he, hrl2, hrm2⟩ := hrow.form
  simp only [Value.slice.injEq, true_and] at he
  obtain ⟨rfl, rfl⟩ := he
  have hm1 := (hm.kept (Kept.of hbw))
  have hr1 := (hr.kept (Kept.of hbw))
  have hvn := hok.vert_next hj
  have Hml := Lib.hid hml
  have Hrl := Lib.hid hrl
  have Hrb := Lib.hid hrb
  clear hml hrl hrb
  obtain ⟨b, hb⟩ : ∃ b, rankV a who m r j = b := ⟨_, rfl⟩
  rw [hb]
  have Hb := Lib.hid hb
  clear hb
  have Hown : Hid ((ix a.owner j == who) = decide (ix a.owner j = who) ∧ (ix a.owner j != who) = !decide (ix a.owner j = who)) := Lib.hid (by constructor <;> by_cases h : ix a.owner j = who <;> simp [h])
  obtain ⟨bo, hbo⟩ : ∃ bo, decide (ix a.owner j = who) = bo := ⟨_, rfl⟩
  have h1 := Hown.out.1
  have h2 := Hown.out.2
  rw [hbo] at h1 h2
  have Hbo := Lib.hid hbo
  clear hbo Hown
  go_enter Try.func98, Try.ntmps98
  go_wp2
  go_loop [11, 12, 13] (fun x y i => ∃ t : Nat, t ≤ (rx a.next j).length ∧ i = .int .i64 t ∧ x = .int .i64 (lowOf m r ((rx a.next j).take t)) ∧ y = .int .i64 (topOf m r ((rx a.next j).take t)) ∧ Hid (bo = false → ((rx a.next j).take t).any (waitB m r) = false)) (fun _ _ i => (rx a.next j).length - (intOf i).toNat)
  case atStart => exact ⟨0, Nat.zero_le _, rfl, rfl, rfl, Lib.hid (fun _ => rfl)⟩
  case round =>
    obtain ⟨t, ht, rfl, rfl, rfl, Hw⟩ := hrel
    by_cases htl : t < (rx a.next j).length
    · obtain ⟨a4, rfl, hc4⟩ := hrow.at_ htl
      obtain ⟨i, hi, hin⟩ := hvn t htl
      obtain ⟨a5, rfl, hc5⟩ := hm1.at_ (k := i) (by rw [Hml.out]; exact hin)
      obtain ⟨a6, rfl, hc6⟩ := hr1.at_ (k := i) (by rw [Hrl.out]; exact hin)
      have Hs1 := Lib.hid (lowOf_take (m := m) (r := r) htl)
      have Hs2 := Lib.hid (topOf_take (m := m) (r := r) htl)
      have Hs3 := Lib.hid (any_take htl (waitB m r))
      rw [hi] at Hs1 Hs2 Hs3
      rw [hi] at hc4
      have hil : (i : Int) < m.length := by rw [Hml.out]; omega
      have hil2 : (i : Int) < r.length := by rw [Hrl.out]; omega
      have htl' : (t : Int) < (rx a.next j).length := by omega
      unfold lowS at Hs1
      unfold topS at Hs2
      unfold waitB at Hs3
      simp only [Int.toNat_natCast] at Hs1 Hs2 Hs3
      have Hwd : Hid (∀ f : Int → Bool, f = waitB m r → ((rx a.next j).take (t + 1)).any f = (((rx a.next j).take t).any f || (bx m i && decide (ix r i < 0)))) := Lib.hid (fun f hf => by subst hf; rw [any_take htl, hi]; unfold waitB; rw [Int.toNat_natCast])
      clear Hs3
      have Hbad : Hid (bo = false → bx m i = true → ix r i < 0 → b = -1) := Lib.hid (fun h3 h4 h5 => by
        rw [← Hb.out]
        unfold rankV
        rw [if_pos ⟨of_decide_eq_false (Hbo.out.trans h3), List.any_eq_true.2 ⟨ix (rx a.next j) t, mem_ix.2 ⟨t, htl, rfl⟩, by unfold waitB; rw [hi, Int.toNat_natCast, h4]; simp [h5]⟩⟩])
      clear hi
      generalize lowOf m r ((rx a.next j).take t) = lo at *
      generalize topOf m r ((rx a.next j).take t) = to at *
      cases e : bx m i
      · rw [e] at hc5 Hs1 Hs2 Hwd
        clear e
        go_wp2
        exact ⟨⟨t + 1, by omega, by go_num, by rw [Hs1.out]; simp, by rw [Hs2.out]; simp, Lib.hid (fun h => by rw [Hwd.out _ rfl, Hw.out h]; rfl)⟩, by simp [intOf]; omega⟩
      · rw [e] at hc5 Hs1 Hs2 Hwd
        have He := Lib.hid e
        clear e
        by_cases e2 : ix r i < 0
        · have hd : decide (0 ≤ ix r i) = false := decide_eq_false (by omega)
          have hd2 : decide (ix r i < 0) = true := decide_eq_true e2
          have hd3 : ¬ 0 ≤ ix r i := by omega
          rw [hd] at Hs1 Hs2
          have Hneg := Lib.hid e2
          clear hd
          cases bo
          · have hb1 := Hbad.out rfl He.out Hneg.out
            subst hb1
            go_wp2
            go_ret
            exact ⟨rfl, hbw⟩
          · go_wp2
            exact ⟨⟨t + 1, by omega, by go_num, by rw [Hs1.out]; simp, by rw [Hs2.out]; simp, Lib.hid (fun h => by cases h)⟩, by simp [intOf]; omega⟩
        · have hd : decide (0 ≤ ix r i) = true := decide_eq_true (by omega)
          have hd2 : decide (ix r i < 0) = false := decide_eq_false e2
          have hd3 : 0 ≤ ix r i := by omega
          rw [hd] at Hs1 Hs2
          rw [hd2] at Hwd
          clear hd
          simp only [Bool.and_self, if_true] at Hs1 Hs2
          by_cases e3 : lo < 0
          · rw [if_pos (.inl e3)] at Hs1
            go_wp2_with (go_at_call 57; refine (l1Max_any _ _ _).mono ?_; rintro e w' ⟨rfl, hw⟩; subst w')
            exact ⟨⟨t + 1, by omega, by go_num, by rw [Hs1.out], by rw [Hs2.out], Lib.hid (fun h => by rw [Hwd.out _ rfl, Hw.out h]; rfl)⟩, by simp [intOf]; omega⟩
          · by_cases e4 : ix r i < lo
            · rw [if_pos (.inr e4)] at Hs1
              go_wp2_with (go_at_call 57; refine (l1Max_any _ _ _).mono ?_; rintro e w' ⟨rfl, hw⟩; subst w')
              exact ⟨⟨t + 1, by omega, by go_num, by rw [Hs1.out], by rw [Hs2.out], Lib.hid (fun h => by rw [Hwd.out _ rfl, Hw.out h]; rfl)⟩, by simp [intOf]; omega⟩
            · rw [if_neg (fun h => h.elim e3 e4)] at Hs1
              go_wp2_with (go_at_call 57; refine (l1Max_any _ _ _).mono ?_; rintro e w' ⟨rfl, hw⟩; subst w')
              exact ⟨⟨t + 1, by omega, by go_num, by rw [Hs1.out], by rw [Hs2.out], Lib.hid (fun h => by rw [Hwd.out _ rfl, Hw.out h]; rfl)⟩, by simp [intOf]; omega⟩
    · obtain rfl : t = (rx a.next j).length := by omega
      rw [List.take_length] at *
      have hlo := lowOf_bounds (m := m) (vert_mem hvn) Hrb.out
      have hto := topOf_bounds (m := m) (vert_mem hvn) Hrb.out
      have Hres : Hid (b = if lowOf m r (rx a.next j) < 0 then -1 else if bo = true then lowOf m r (rx a.next j) + 1 else topOf m r (rx a.next j) + 1) := Lib.hid (by
        rw [← Hb.out]
        unfold rankV
        rw [if_neg (fun h => by
          have h5 := Hw.out (by rw [← Hbo.out]; exact decide_eq_false h.1)
          rw [h5] at h; cases h.2)]
        by_cases h6 : lowOf m r (rx a.next j) < 0
        · rw [if_pos h6, if_pos h6]
        · rw [if_neg h6, if_neg h6]
          by_cases h7 : ix a.owner j = who
          · rw [if_pos h7, if_pos (by rw [← Hbo.out]; exact decide_eq_true h7)]
          · rw [if_neg h7, if_neg (by rw [← Hbo.out]; simpa using h7)])
      generalize lowOf m r (rx a.next j) = lo at *
      generalize topOf m r (rx a.next j) = to at *
      by_cases e3 : lo < 0
      · rw [if_pos e3] at Hres
        have hb1 := Hres.out
        subst hb1
        go_wp2
        go_ret
        exact ⟨rfl, hbw⟩
      · rw [if_neg e3] at Hres
        cases bo
        · have hb1 := Hres.out
          simp only [Bool.false_eq_true, if_false] at hb1
          subst hb1
          go_wp2
          go_ret
          exact ⟨rfl, hbw⟩
        · have hb1 := Hres.out
          simp only [if_true] at hb1
          subst hb1
          go_wp2
          go_ret
          exact ⟨rfl, hbw⟩
end Go.Proofs.Ytogfpalgnjlfcaa
