/- The walks of isGame and WonIn, of the program and of the reference. -/
import Derived.Test.YtmkmghjmfaoobaaWonExact
import Derived.Test.YtmkmghjmfaoobaaSortPlain
namespace Go.Proofs.Ytmkmghjmfaoobaa
set_option linter.unusedSimpArgs false
set_option linter.unusedVariables false
open Go.RowKit

/-- Of a row of vertices one is marked. -/
def okRow (m : List Bool) (row : List Int) : Bool := row.any fun u => bx m u.toNat
theorem okRow_cnt {m : List Bool} {row : List Int} : cntTo m row row.length = 0 ↔ okRow m row = false := by
  rw [cntTo_all, List.countP_eq_zero, Bool.eq_false_iff]
  unfold okRow
  rw [Ne, List.any_eq_true]
  constructor
  · rintro h ⟨u, hu, hb⟩
    exact h _ (List.mem_map.2 ⟨u, hu, rfl⟩) hb
  · intro h u hu hb
    obtain ⟨y, hy, rfl⟩ := List.mem_map.1 hu
    exact h ⟨y, hy, hb⟩
theorem okRow_ix {m : List Bool} {row : List Int} {k j : Nat} (hk : k < row.length) (hj : ix row k = (j : Int)) (h : bx m j = true) : okRow m row = true :=
  List.any_eq_true.2 ⟨ix row k, mem_ix.2 ⟨k, hk, rfl⟩, by rw [hj, Int.toNat_natCast]; exact h⟩
theorem okRow_none {m : List Bool} {row : List Int} (h : ∀ k, k < row.length → bx m (ix row k).toNat = false) : okRow m row = false := by
  rw [Bool.eq_false_iff]
  intro h2
  obtain ⟨u, hu, hb⟩ := List.any_eq_true.1 h2
  obtain ⟨k, hk, rfl⟩ := mem_ix.1 hu
  rw [h k hk] at hb; cases hb
/-- The vertices of s are a game of their own. -/
def gameB (a : ArenaD) (s : List Int) : Bool := isSetB s a.owner.length && s.all fun v => okRow (marksL a.owner.length s) (rx a.next v.toNat)
theorem gameB_no {a : ArenaD} {s : List Int} {k j : Nat} (hk : k < s.length) (hj : ix s k = (j : Int)) (h : okRow (marksL a.owner.length s) (rx a.next j) = false) : gameB a s = false := by
  unfold gameB
  rw [Bool.and_eq_false_iff]
  refine .inr ?_
  rw [Bool.eq_false_iff]
  intro h2
  have h3 := List.all_eq_true.1 h2 (ix s k) (mem_ix.2 ⟨k, hk, rfl⟩)
  rw [hj, Int.toNat_natCast, h] at h3; cases h3
theorem gameB_yes {a : ArenaD} {s : List Int} (hs : isSetB s a.owner.length = true) (h : ∀ k, k < s.length → okRow (marksL a.owner.length s) (rx a.next (ix s k).toNat) = true) : gameB a s = true := by
  unfold gameB
  rw [hs, Bool.true_and]
  exact List.all_eq_true.2 fun x hx => by
    obtain ⟨k, hk, rfl⟩ := mem_ix.1 hx
    exact h k hk
theorem gameB_set {a : ArenaD} {s : List Int} (h : gameB a s = true) : isSetB s a.owner.length = true := by
  unfold gameB at h
  rw [Bool.and_eq_true] at h
  exact h.1
theorem gameB_tot {a : ArenaD} {s : List Int} (p : List Int) (hok : ArenaOk a) (h : gameB a s = true) : Tot (duel a.owner p a.next) (On (marksL a.owner.length s)) := fun v hv => by
  obtain ⟨hvn, hvs⟩ := on_marksL.1 hv
  unfold gameB at h
  rw [Bool.and_eq_true] at h
  have h2 := List.all_eq_true.1 h.2 (v : Int) hvs
  rw [Int.toNat_natCast] at h2
  obtain ⟨u, hu, hb⟩ := List.any_eq_true.1 h2
  exact ⟨u.toNat, List.mem_map.2 ⟨u, hu, rfl⟩, hb⟩

theorem game1_any (x B : Nat) (A : Option Addr) (c : Nat) (m : List Bool) (w : World) (hc : w.cell? ⟨B, 0, none⟩ = some (.slice A m.length c)) (hm : Bools w (.slice A m.length c) m) (hx : x < m.length) :
    Calls Try.prog 93 #[.int .i64 (x : Int), .pointer (some ⟨B, 0, none⟩)] w fun e w' => e = .returned (.bool (bx m x)) ∧ w' = w := by
  obtain ⟨a1, ea, hc1⟩ := hm.at_ hx
  cases ea
  have hx' : (x : Int) < m.length := by omega
  go_enter Try.func93, Try.ntmps93
  go_wp2
  go_ret
  exact ⟨rfl, rfl⟩
theorem IndexFunc_game (B : Nat) (A : Option Addr) (c : Nat) (m : List Bool) (v : Value) (l : List Int) (w : World) (hv : Ints w v l) (hc : w.cell? ⟨B, 0, none⟩ = some (.slice A m.length c)) (hm : Bools w (.slice A m.length c) m) (hr : Vert l m.length) :
    Calls Try.prog 111 #[v, .func (.func 93) #[] #[.pointer (some ⟨B, 0, none⟩)]] w fun e w' => ∃ x : Int, e = .returned (.int .i64 x) ∧ (0 ≤ x ↔ okRow m l = true) ∧ w' = w := by
  obtain ⟨R, rc, rfl, hlc, hcm⟩ := hv.form
  go_enter Try.func111, Try.ntmps111
  go_wp2
  go_loopw [8] (fun i wr => ∃ k : Nat, k ≤ l.length ∧ i = .int .i64 k ∧ Hid (∀ j, j < k → bx m (ix l j).toNat = false) ∧ wr = w) (fun i _ => l.length - (intOf i).toNat)
  case atStart => exact ⟨0, Nat.zero_le _, rfl, Lib.hid (fun j hj => by omega), rfl⟩
  case round =>
    obtain ⟨k, hk, rfl, Hm, hw⟩ := hrel
    subst hw
    by_cases hlt : k < l.length
    · obtain ⟨a1, ea, hc1⟩ := hv.at_ hlt
      cases ea
      obtain ⟨j, hj, hjm⟩ := hr k hlt
      have hlt2 : (k : Int) < l.length := by omega
      have Hj := Lib.hid hj
      rw [hj] at hc1
      clear hj
      have Hcall := Lib.hid (game1_any j B A c m _ hc hm hjm)
      go_wp2_with fail
      refine Hcall.out.mono ?_
      rintro e w2 ⟨rfl, hw2⟩
      subst w2
      cases e : bx m j
      · have He := Lib.hid e
        clear e
        go_wp2
        exact ⟨⟨k + 1, by omega, by go_num, Lib.hid fun i hi => by
          by_cases hik : i = k
          · subst hik; rw [Hj.out, Int.toNat_natCast]; exact He.out
          · exact Hm.out i (by omega), by first | rfl | trivial⟩, by simp [intOf]; omega⟩
      · have Ht := Lib.hid (okRow_ix hlt Hj.out e)
        clear e
        go_wp2
        go_ret
        exact ⟨_, rfl, ⟨fun _ => Ht.out, fun _ => by omega⟩, rfl⟩
    · obtain rfl : k = l.length := by omega
      have hlt2 : ¬ (l.length : Int) < l.length := by omega
      have Hf := Lib.hid (okRow_none Hm.out)
      go_wp2
      go_ret
      exact ⟨-1, rfl, ⟨fun h => by omega, fun h => by rw [Hf.out] at h; cases h⟩, rfl⟩
theorem ContainsFunc_game (B : Nat) (A : Option Addr) (c : Nat) (m : List Bool) (v : Value) (l : List Int) (w : World) (hv : Ints w v l) (hc : w.cell? ⟨B, 0, none⟩ = some (.slice A m.length c)) (hm : Bools w (.slice A m.length c) m) (hr : Vert l m.length) :
    Calls Try.prog 92 #[v, .func (.func 93) #[] #[.pointer (some ⟨B, 0, none⟩)]] w fun e w' => e = .returned (.bool (okRow m l)) ∧ w' = w := by
  have Hcall := Lib.hid (IndexFunc_game B A c m v l w hv hc hm hr)
  clear hc
  go_enter Try.func92, Try.ntmps92
  go_wp2_with fail
  refine Hcall.out.mono ?_
  rintro e w' ⟨x, rfl, hx, rfl⟩
  cases h : okRow m l
  · rw [h] at hx
    have hx0 : x < 0 := by
      by_cases h0 : 0 ≤ x
      · exact absurd (hx.1 h0) (by simp)
      · omega
    have Hh := Lib.hid h
    have Hd : Hid (decide (0 ≤ x) = false) := Lib.hid (by simpa using hx0)
    clear hx h
    go_wp2
    go_ret
    exact ⟨by rw [Hh.out, ← Hd.out]; rfl, rfl⟩
  · rw [h] at hx
    have hx0 : 0 ≤ x := hx.2 rfl
    have Hh := Lib.hid h
    clear hx h
    go_wp2
    go_ret
    exact ⟨by rw [Hh.out]; rfl, rfl⟩

set_option maxRecDepth 100000 in
set_option maxHeartbeats 2000000 in
theorem isGame_any (v : Value) (a : ArenaD) (u : Value) (s : List Int) (w : World) (hv : IsArena w v a) (hu : Ints w u s) (hok : ArenaOk a) :
    Calls Try.prog 56 #[v, u] w fun e w' => e = .returned (.bool (gameB a s)) ∧ Below w.heap.size w w' := by
  obtain ⟨o, n, rfl, hbw, hB⟩ := arena_open hv
  obtain ⟨ho, hn⟩ := hv.parts
  obtain ⟨S, sc, rfl, hsl, hsm⟩ := hu.form
  cases hE : isSetB s a.owner.length
  · have hres : gameB a s = false := by unfold gameB; rw [hE]; rfl
    rw [hres]; clear hres
    go_enter Try.func56, Try.ntmps56
    have hBz := hB.lt
    have hBc0 := hB.c0
    have hBc1 := hB.c1
    go_wp2_with fail
    refine (size_any _ a _ (hv.kept (Kept.of hbw))).mono ?_
    rintro e w1 ⟨rfl, hb1⟩
    clear hBc0 hBc1 hBz
    replace hB := hB.below hb1 hB.lt
    replace hbw := Below.up hbw hb1
    have hb1s := hb1.size
    clear hb1
    have hBz := hB.lt
    have hBc0 := hB.c0
    have hBc1 := hB.c1
    go_wp2_with fail
    refine (same_below (isSet_any _ s _ _ (hu.kept (Kept.of hbw)))).mono ?_
    rintro e w2 ⟨rfl, hb2⟩
    clear hBc0 hBc1 hBz
    replace hB := hB.below hb2 hB.lt
    replace hbw := Below.up hbw hb2
    have hb2s := hb2.size
    clear hb2
    have hBz := hB.lt
    have hBc0 := hB.c0
    have hBc1 := hB.c1
    go_wp2
    go_ret
    exact ⟨rfl, hbw⟩
  · have hle := hok.le
    have hset := isSetB_iff.1 hE
    have hvert := hset.vert
    have Hyes := Lib.hid (gameB_yes hE)
    have Hno := fun k j => Lib.hid (gameB_no (a := a) (s := s) (k := k) (j := j))
    clear hset
    go_enter Try.func56, Try.ntmps56
    have hBz := hB.lt
    have hBc0 := hB.c0
    have hBc1 := hB.c1
    go_wp2_with fail
    refine (size_any _ a _ (hv.kept (Kept.of hbw))).mono ?_
    rintro e w1 ⟨rfl, hb1⟩
    clear hBc0 hBc1 hBz
    replace hB := hB.below hb1 hB.lt
    replace hbw := Below.up hbw hb1
    have hb1s := hb1.size
    clear hb1
    have hBz := hB.lt
    have hBc0 := hB.c0
    have hBc1 := hB.c1
    go_wp2_with fail
    refine (same_below (isSet_any _ s _ _ (hu.kept (Kept.of hbw)))).mono ?_
    rintro e w2 ⟨rfl, hb2⟩
    clear hBc0 hBc1 hBz
    replace hB := hB.below hb2 hB.lt
    replace hbw := Below.up hbw hb2
    have hb2s := hb2.size
    clear hb2
    have hBz := hB.lt
    have hBc0 := hB.c0
    have hBc1 := hB.c1
    go_wp2_with fail
    refine (markOf_any _ a _ s _ (hv.kept (Kept.of hbw)) (hu.kept (Kept.of hbw)) hvert (by omega)).mono ?_
    rintro e w4 ⟨u4, rfl, hm4, hb4⟩
    have hmb := hm4.bools
    obtain ⟨MA, mc, ef, _⟩ := hmb.form
    rw [length_marksL] at ef
    subst ef
    clear hBc0 hBc1 hBz
    replace hB := hB.below hb4 hB.lt
    replace hbw := Below.up hbw hb4
    have hb4s := hb4.size
    clear hb4
    have hBz := hB.lt
    have hBc0 := hB.c0
    have hBc1 := hB.c1
    clear hBc0 hBc1 hBz
    have hX0 := Arr.new w4 73 [.slice MA a.owner.length mc]
    have hbn := (Below.refl w4.heap.size w4).alloc (Nat.le_refl _) (.cells #[.slice MA a.owner.length mc] 73)
    have hmb5 := hmb.kept (Kept.of hbn)
    have hbw5 := Below.up hbw hbn
    have hB5 := hB.below hbn hB.lt
    go_wp2_with fail
    generalize w4.alloc (.cells #[.slice MA a.owner.length mc] 73) = w5 at *
    clear hmb hbn hm4 hB hbw
    have Hml := Lib.hid (length_marksL a.owner.length s)
    obtain ⟨A', c', rfl, hlc', hcm'⟩ := hn.form
    have Hnl := Lib.hid hok.len
    generalize hmg : marksL a.owner.length s = mk at *
    go_loopw [18] (fun i wr => ∃ k : Nat, k ≤ s.length ∧ i = .int .i64 k ∧ Hid (∀ j, j < k → okRow mk (rx a.next (ix s j).toNat) = true) ∧ wr = w5) (fun i _ => s.length - (intOf i).toNat)
    case atStart => exact ⟨0, Nat.zero_le _, rfl, Lib.hid (fun j hj => by omega), rfl⟩
    case round =>
      obtain ⟨k, hk, rfl, Hm, hw⟩ := hrel
      subst hw
      have hBc1 := hB5.c1
      by_cases hlt : k < s.length
      · obtain ⟨a1, ea, hc1⟩ := (hu.kept (Kept.of hbw5)).at_ hlt
        cases ea
        obtain ⟨j, hj, hjn⟩ := hvert k hlt
        have hlt2 : (k : Int) < s.length := by omega
        have Hj := Lib.hid hj
        rw [hj] at hc1
        clear hj
        obtain ⟨an, R, r, ea, hc2, hrow⟩ := (hn.kept (Kept.of hbw5)).at_ (k := j) (by rw [Hnl.out]; exact hjn)
        cases ea
        have hjn2 : (j : Int) < a.next.length := by rw [Hnl.out]; omega
        have hcb : wr.cell? ⟨w4.heap.size, 0, none⟩ = some (.slice MA mk.length mc) := by rw [Hml.out]; exact hX0.c0
        have Hcall := Lib.hid (ContainsFunc_game w4.heap.size MA mc mk _ (rx a.next j) _ hrow hcb (by rw [Hml.out]; exact hmb5) (by rw [Hml.out]; exact fun t ht => hok.vert_next' hjn ht))
        clear hcb
        go_wp2_with fail
        refine Hcall.out.mono ?_
        rintro e w6 ⟨rfl, hw6⟩
        subst w6
        cases e : okRow mk (rx a.next j)
        · have He := Lib.hid ((Hno k j).out hlt Hj.out e)
          clear e
          go_wp2
          go_ret
          exact ⟨by rw [He.out]; rfl, hbw5⟩
        · have He := Lib.hid e
          clear e
          go_wp2
          exact ⟨⟨k + 1, by omega, by go_num, Lib.hid fun i hi => by
            by_cases hik : i = k
            · subst hik; rw [Hj.out, Int.toNat_natCast]; exact He.out
            · exact Hm.out i (by omega), by first | rfl | trivial⟩, by simp [intOf]; omega⟩
      · obtain rfl : k = s.length := by omega
        have hlt2 : ¬ (s.length : Int) < s.length := by omega
        have He := Lib.hid (Hyes.out Hm.out)
        go_wp2
        go_ret
        exact ⟨by rw [He.out]; rfl, hbw5⟩

noncomputable def wonE (g : ParityD) (s : List Int) : List Int := if parityOkB g && gameB g.arena s then markedL (evenW (duelP g) (marksL g.arena.owner.length s)) else []
noncomputable def wonO (g : ParityD) (s : List Int) : List Int := if parityOkB g && gameB g.arena s then markedL (restL (marksL g.arena.owner.length s) (evenW (duelP g) (marksL g.arena.owner.length s))) else []
theorem OI.nil (w : World) (B C : Nat) : OI w B C (.slice none 0 0) [] := ⟨OwnInts.nil _ _, fun b hb => by simp [Value.ownBlock] at hb⟩

set_option maxRecDepth 100000 in
set_option maxHeartbeats 1000000 in
theorem WonIn_any (v : Value) (g : ParityD) (u : Value) (s : List Int) (w : World) (hv : IsParity w v g) (hu : Ints w u s) :
    Calls Try.prog 17 #[v, u] w (RetTwo w (wonE g s) (wonO g s)) := by
  obtain ⟨o, n, p, rfl, hbw, hB⟩ := parity_box hv
  obtain ⟨ha, hp⟩ := hv.parts
  cases hE : parityOkB g
  · have hres : wonE g s = [] := by unfold wonE; rw [hE]; rfl
    have hres2 : wonO g s = [] := by unfold wonO; rw [hE]; rfl
    rw [hres, hres2]; clear hres hres2
    go_enter Try.func17, Try.ntmps17
    have hBz := hB.lt
    have hBc0 := hB.c0
    have hBc1 := hB.c1
    have hBc2 := hB.c2
    go_wp2_with fail
    refine (ParityOk_any _ g _ (hv.kept (Kept.of hbw))).mono ?_
    rintro e w1 ⟨rfl, hb1⟩
    clear hBc0 hBc1 hBc2 hBz
    replace hB := hB.below hb1 hB.lt
    replace hbw := Below.up hbw hb1
    have hb1s := hb1.size
    clear hb1
    have hBz := hB.lt
    have hBc0 := hB.c0
    have hBc1 := hB.c1
    have hBc2 := hB.c2
    go_wp2
    go_ret2
    exact ⟨_, _, w.heap.size, w.heap.size, w.heap.size, w.heap.size, rfl, OI.nil _ _ _, OI.nil _ _ _, by have := hbw.size; omega, hbw⟩
  · have hok := parityOkB_iff.1 hE
    cases hT : gameB g.arena s
    · have hres : wonE g s = [] := by unfold wonE; rw [hE, hT]; rfl
      have hres2 : wonO g s = [] := by unfold wonO; rw [hE, hT]; rfl
      rw [hres, hres2]; clear hres hres2
      go_enter Try.func17, Try.ntmps17
      have hBz := hB.lt
      have hBc0 := hB.c0
      have hBc1 := hB.c1
      have hBc2 := hB.c2
      go_wp2_with fail
      refine (ParityOk_any _ g _ (hv.kept (Kept.of hbw))).mono ?_
      rintro e w1 ⟨rfl, hb1⟩
      clear hBc0 hBc1 hBc2 hBz
      replace hB := hB.below hb1 hB.lt
      replace hbw := Below.up hbw hb1
      have hb1s := hb1.size
      clear hb1
      have hBz := hB.lt
      have hBc0 := hB.c0
      have hBc1 := hB.c1
      have hBc2 := hB.c2
      go_wp2_with fail
      refine (isGame_any _ g.arena _ s _ (ha.kept (Kept.of hbw)) (hu.kept (Kept.of hbw)) hok.arena).mono ?_
      rintro e w5 ⟨rfl, hb5⟩
      rw [hT]
      have hbw5 := Below.up hbw hb5
      go_wp2
      go_ret2
      exact ⟨_, _, w.heap.size, w.heap.size, w.heap.size, w.heap.size, rfl, OI.nil _ _ _, OI.nil _ _ _, by have := hbw5.size; omega, hbw5⟩
    · have hres : wonE g s = markedL (evenW (duelP g) (marksL g.arena.owner.length s)) := by unfold wonE; rw [hE, hT]; rfl
      have hres2 : wonO g s = markedL (restL (marksL g.arena.owner.length s) (evenW (duelP g) (marksL g.arena.owner.length s))) := by unfold wonO; rw [hE, hT]; rfl
      have Hres := Lib.hid hres
      have Hres2 := Lib.hid hres2
      clear hres hres2
      have hvert := (isSetB_iff.1 (gameB_set hT)).vert
      have htot := gameB_tot g.prio hok.arena hT
      go_enter Try.func17, Try.ntmps17
      have hBz := hB.lt
      have hBc0 := hB.c0
      have hBc1 := hB.c1
      have hBc2 := hB.c2
      go_wp2_with fail
      refine (ParityOk_any _ g _ (hv.kept (Kept.of hbw))).mono ?_
      rintro e w1 ⟨rfl, hb1⟩
      clear hBc0 hBc1 hBc2 hBz
      replace hB := hB.below hb1 hB.lt
      replace hbw := Below.up hbw hb1
      have hb1s := hb1.size
      clear hb1
      have hBz := hB.lt
      have hBc0 := hB.c0
      have hBc1 := hB.c1
      have hBc2 := hB.c2
      go_wp2_with fail
      refine (isGame_any _ g.arena _ s _ (ha.kept (Kept.of hbw)) (hu.kept (Kept.of hbw)) hok.arena).mono ?_
      rintro e w5 ⟨rfl, hb5⟩
      rw [hT]
      clear hBc0 hBc1 hBc2 hBz
      replace hB := hB.below hb5 hB.lt
      replace hbw := Below.up hbw hb5
      have hb5s := hb5.size
      clear hb5
      have hBz := hB.lt
      have hBc0 := hB.c0
      have hBc1 := hB.c1
      have hBc2 := hB.c2
      go_wp2_with fail
      refine (wonIn_any _ g _ s _ (hv.kept (Kept.of hbw)) (hu.kept (Kept.of hbw)) hok hvert htot).mono ?_
      rintro e w6 ⟨u6, v6, B0, C0, B1, C1, rfl, h1, h2, hd, hb6⟩
      rw [← Hres.out] at h1
      rw [← Hres2.out] at h2
      have hbw6 := Below.up hbw hb6
      have hbs := hbw.size
      go_wp2
      go_ret2
      exact ⟨_, _, B0, C0, B1, C1, rfl, h1, h2, by omega, hbw6⟩
end Go.Proofs.Ytmkmghjmfaoobaa
