/- The walks of roll, w5Plan, w9Plan and w5Set: plans and sets by dice. Conditions: the arena is valid and lies behind the dice. Printed by gen_dice2.py. -/
import Derived.Test.YtogfpalgnjlfcaaDiceGame
import Derived.Test.YtogfpalgnjlfcaaFullWalks
import Derived.Test.YtogfpalgnjlfcaaSubWalks
namespace Go.Proofs.Ytogfpalgnjlfcaa
set_option linter.unusedSimpArgs false
set_option linter.unusedVariables false
open Go.RowKit

theorem Rolled.belowB {w w1 w2 : World} {C n B : Nat} {v : Value} (hc : Die w C v n) (h : Rolled w w1 C v n) (hb : Below B w1 w2) (hB : w.heap.size ≤ B) : Rolled w w2 C v n := by
  have hch : Chg (fun b => b = C) w w2 := ⟨hb.os.trans h.2.os, hb.tape.trans h.2.tape, hb.output.trans h.2.output, Nat.le_trans h.2.size hb.size, fun i hi hne => (hb.block i (Nat.lt_of_lt_of_le hi hB)).trans (h.2.block i hi hne)⟩
  obtain ⟨⟨i, x, hC, hi⟩, _⟩ := h.1
  have hCl := hc.lt
  exact ⟨⟨⟨i, x, (hb.block C (by omega)).trans hC, hi⟩, hc.bytes.chg hch hc.apart, hc.len, hc.apart⟩, hch⟩
theorem OA.rolled {w w' : World} {B M C n : Nat} {v va : Value} {a : ArenaD} (h : OA w B M va a) (k : Rolled w w' C v n) (hC : C < B) : OA w' B M va a := by
  obtain ⟨o, nx, vs, rfl, h1, h2, h3⟩ := h
  exact ⟨o, nx, vs, rfl, h1.chg k.2 fun b hb e => by have := (h1.1.lt b hb).1; omega, h2.chg k.2 (fun b hb e => by have := (h2.own.lt b hb).1; omega) (fun j hj b hb e => by have := ((h2.row j hj).1.lt b hb).1; omega), h3⟩
theorem OA.underB {w w' : World} {B M D : Nat} {va : Value} {a : ArenaD} (h : OA w B M va a) (k : Below D w w') (hM : M ≤ D) : OA w' B M va a := h.under (k.mono hM)

theorem cell_rolled {w w' : World} {C n : Nat} {v u : Value} {p : Addr} (hc : w.cell? p = some u) (k : Rolled w w' C v n) (hp : C < p.block) : w'.cell? p = some u := by
  have hlt := World.block_lt_of_cell? w _ hc
  rw [← hc]
  exact cell_heap (k.2.block _ hlt (by omega))
/-- A row of an arena, and where it lies. -/
theorem OA.row_at {w : World} {B M k : Nat} {o nx : Value} {a : ArenaD} (h : OA w B M (.agg #[o, nx]) a) (hk : k < a.next.length) :
    ∃ b2 RA rc cap, nx = .slice (some b2) a.next.length cap ∧ B ≤ (b2.add k).block ∧ w.cell? (b2.add k) = some (.slice RA (rx a.next k).length rc) ∧ OwnInts w B (.slice RA (rx a.next k).length rc) (rx a.next k) := by
  obtain ⟨o', n', vs, he, _, hr, _⟩ := h
  simp only [Value.agg.injEq, Array.mk.injEq, List.cons.injEq, and_true] at he
  obtain ⟨rfl, rfl⟩ := he
  obtain ⟨A, c, rfl, _, _, h4⟩ := SlF.of_own hr.own
  obtain ⟨ad, rfl, hc⟩ := h4 k hk
  obtain ⟨RA, rc, e, _⟩ := (hr.row k hk).1.ints.form
  refine ⟨ad, RA, rc, c, rfl, ?_, ?_, ?_⟩
  · rw [block_of_add]; exact (hr.own.lt ad.block rfl).1
  · exact hc.trans (congrArg some e)
  · rw [← e]; exact (hr.row k hk).1
/-- The first k moves of a full plan. -/
structure PlanTo (a : ArenaD) (who : Int) (k : Nat) (l : List Int) : Prop where
  len : l.length = k
  mine : ∀ j, j < k → ix a.owner j = who → ix l j ∈ rx a.next j
  other : ∀ j, j < k → ix a.owner j ≠ who → ix l j = -1
theorem PlanTo.zero (a : ArenaD) (who : Int) : PlanTo a who 0 [] := ⟨rfl, fun j hj => by omega, fun j hj => by omega⟩
theorem PlanTo.snoc {a : ArenaD} {who : Int} {k : Nat} {l : List Int} (h : PlanTo a who k l) {y : Int} (h1 : ix a.owner k = who → y ∈ rx a.next k) (h2 : ix a.owner k ≠ who → y = -1) : PlanTo a who (k + 1) (l ++ [y]) := by
  refine ⟨by simp [h.len], fun j hj ho => ?_, fun j hj ho => ?_⟩
  · rw [ix_snoc, h.len]
    by_cases e : j < k
    · rw [if_pos e]; exact h.mine j e ho
    · obtain rfl : j = k := by omega
      rw [if_neg e, if_pos rfl]; exact h1 ho
  · rw [ix_snoc, h.len]
    by_cases e : j < k
    · rw [if_pos e]; exact h.other j e ho
    · obtain rfl : j = k := by omega
      rw [if_neg e, if_pos rfl]; exact h2 ho
theorem PlanTo.full {a : ArenaD} {who : Int} {l : List Int} (hok : ArenaOk a) (h : PlanTo a who a.owner.length l) : fullB a who l = true := by
  have hp : PlanOk a who l := by
    refine ⟨h.len, fun v hv => ?_⟩
    have hv' : v < a.owner.length := by rw [← h.len]; exact hv
    unfold planAtB
    by_cases e : ix a.owner v = who
    · have := h.mine v hv' e
      rw [hasB_iff.2 this]; simp [e]
    · rw [h.other v hv' e]; rfl
  unfold fullB
  rw [planB_iff.2 hp, Bool.true_and]
  unfold movesAll
  rw [decide_eq_true_eq]
  intro v hv
  have hv' : v < a.owner.length := by rw [← h.len]; exact hv
  unfold movesB
  by_cases e : ix a.owner v = who
  · have h1 := h.mine v hv' e
    obtain ⟨t, ht, e2⟩ := mem_ix.1 h1
    have := (hok.set hv' t ht).1
    simp [e]; omega
  · simp [e]
set_option maxRecDepth 100000 in
set_option maxHeartbeats 2000000 in
theorem roll_any (v : Value) (n : Nat) (s : Nat) (w : World) (hb : Bytes w v n) (hn : n ≤ 4096) (hs : s ≤ 100000) :
    Calls Try.prog 8 #[v, .int .u64 (s : Int)] w fun e w' => ∃ C, e = .returned (.pointer (some ⟨C, 0, none⟩)) ∧ w.heap.size ≤ C ∧ Die w' C v n ∧ Below w.heap.size w w' := by
  obtain ⟨BA, bc, rfl, hbl, hbm⟩ := hb.form
  have hap : ∀ A k c, Value.slice BA n bc = .slice (some A) k c → n = 0 ∨ A.block ≠ w.heap.size := by
    intro A k c e
    obtain ⟨f, ⟨A', c', he, _, _, h4⟩, _⟩ := hb
    by_cases h0 : n = 0
    · exact .inl h0
    · right
      obtain ⟨ad, e2, hcl⟩ := h4 0 (by omega)
      have hlt := World.block_lt_of_cell? w _ hcl
      rw [block_of_add] at hlt
      simp only [Value.slice.injEq] at e he
      rw [e.1, ] at he
      have : A = ad := by
        have h5 := he.1
        rw [e2] at h5
        exact Option.some.inj h5
      subst this
      omega
  have hD0 := Arr.new w 60 [.slice BA n bc, .int .i64 0, .int .u64 ((s : Int) * 7919 + n)]
  have hb0 := (Below.refl w.heap.size w).alloc (Nat.le_refl _) (.cells #[.slice BA n bc, .int .i64 0, .int .u64 ((s : Int) * 7919 + n)] 60)
  go_enter Try.func8, Try.ntmps8
  go_wp2_with fail
  generalize w.alloc (.cells #[.slice BA n bc, .int .i64 0, .int .u64 ((s : Int) * 7919 + n)] 60) = w0 at *
  go_loopw [6] (fun i wr => ∃ (k : Nat) (h : Int), k ≤ n ∧ i = .int .i64 k ∧ Arr wr w.heap.size 60 [.slice BA n bc, .int .i64 0, .int .u64 h] ∧ Below w.heap.size w wr) (fun i _ => n - (intOf i).toNat)
  case atStart => exact ⟨0, _, Nat.zero_le _, rfl, hD0, hb0⟩
  case round =>
    clear hD0 hb0
    obtain ⟨k, h, hk, rfl, hD, hbr⟩ := hrel
    by_cases hlt : k < n
    · have hlt2 : (k : Int) < n := by omega
      obtain ⟨ad, y, ea, hcy, hy0, hy1⟩ := (hb.kept (Kept.of hbr)).at_ hlt
      cases ea
      have q0 := hD.c2
      have q1 := hD.frozen 2
      go_wp2_with fail
      go_region
      all_goals
        go_wp2
        exact ⟨⟨k + 1, _, by omega, by go_num, hD.set_ 2 _, (hbr.drew).setCell (Nat.le_refl _) _⟩, by simp [intOf]; omega⟩
    · obtain rfl : k = n := by omega
      have hlt2 : ¬ (k : Int) < k := by omega
      go_wp2
      go_ret
      exact ⟨_, rfl, Nat.le_refl _, ⟨⟨0, h, hD, Nat.zero_le _⟩, hb.kept (Kept.of hbr), hn, hap⟩, hbr⟩
set_option maxRecDepth 100000 in
set_option maxHeartbeats 4000000 in
theorem w5Plan_any (C : Nat) (v : Value) (n : Nat) (va : Value) (a : ArenaD) (who : Int) (B M : Nat) (w : World) (hc : Die w C v n) (ha : OA w B M va a) (hCB : C < B) (hMw : M ≤ w.heap.size) (hok : ArenaOk a) :
    Calls Try.prog 10 #[.pointer (some ⟨C, 0, none⟩), va, .int .i64 who] w fun e w' => ∃ u l, e = .returned u ∧ OwnInts w' w.heap.size u l ∧ fullB a who l = true ∧ Rolled w w' C v n := by
  obtain ⟨A, ac, A', ac', rfl⟩ := ha.form
  have hX0 := Arr.new w 30 [.slice A a.owner.length ac, .slice A' a.next.length ac']
  have hbX := (Below.refl w.heap.size w).alloc (Nat.le_refl _) (.cells #[.slice A a.owner.length ac, .slice A' a.next.length ac'] 30)
  obtain ⟨hown0, hbn⟩ := new_ints (w.alloc (.cells #[.slice A a.owner.length ac, .slice A' a.next.length ac'] 30))
  have hX1 := hX0.below hbn hX0.lt
  have hb2 := Below.up hbX hbn
  have ha1 := ha.below hb2
  have hd1 := Rolled.below (.refl hc) hb2
  have hown1 := hown0.more (B' := w.heap.size + 1) (by simp)
  have hw1 : w.heap.size + 1 ≤ ((w.alloc (.cells #[.slice A a.owner.length ac, .slice A' a.next.length ac'] 30)).alloc (.cells #[] 2)).heap.size := by simp
  clear hX0 hbX hown0 hbn hb2 ha
  go_enter Try.func10, Try.ntmps10
  go_wp2_with fail
  generalize (w.alloc (.cells #[.slice A a.owner.length ac, .slice A' a.next.length ac'] 30)).alloc (.cells #[] 2) = w1 at *
  go_loopw [7, 8] (fun qv i wr => ∃ (k : Nat) (l : List Int), k ≤ a.owner.length ∧ i = .int .i64 k ∧ OwnInts wr (w.heap.size + 1) qv l ∧ Hid (PlanTo a who k l) ∧ Arr wr w.heap.size 30 [.slice A a.owner.length ac, .slice A' a.next.length ac'] ∧ OA wr B M (.agg #[.slice A a.owner.length ac, .slice A' a.next.length ac']) a ∧ Rolled w wr C v n ∧ w.heap.size + 1 ≤ wr.heap.size) (fun _ i _ => a.owner.length - (intOf i).toNat)
  case atStart => exact ⟨0, [], Nat.zero_le _, rfl, by simpa using hown1, Lib.hid (PlanTo.zero a who), hX1, ha1, hd1, hw1⟩
  case round =>
    clear hown1 hX1 ha1 hd1 hw1
    obtain ⟨k, l, hk, rfl, hown, HP, hX, ha, hd, hsz⟩ := hrel
    obtain ⟨wo, rfl⟩ : ∃ wo : World, wo = wr := ⟨_, rfl⟩
    have hle := hok.le
    have Hll : Hid (l.length = k) := Lib.hid HP.out.len
    obtain ⟨QA, qc, ef, _⟩ := hown.ints.form
    rw [Hll.out] at ef
    subst ef
    have q0 := hX.c0
    have q1 := hX.c1
    have hCl := hc.lt
    by_cases hlt : k < a.owner.length
    · have hlt2 : (k : Int) < a.owner.length := by omega
      have hnl := hok.len
      have hlt3 : k < a.next.length := by omega
      have hlt4 : (k : Int) < a.next.length := by omega
      have Hnl := Lib.hid hnl
      clear hnl
      obtain ⟨hoo, _⟩ := ha.arena.parts
      obtain ⟨b1, e1, hc1⟩ := hoo.at_ hlt
      subst e1
      obtain ⟨b2, RA, rc, cap, e2, hb2, hc2, hrow⟩ := ha.row_at hlt3
      simp only [Value.slice.injEq] at e2
      obtain ⟨e2, _, e3⟩ := e2
      subst e2
      subst e3
      obtain ⟨hdeg1, hdeg2⟩ := hok.deg hlt
      by_cases ho : ix a.owner k = who
      · have hcd : Die wo.drew C v n := hd.1.drew
        go_wp2_with fail
        go_region_law (first | (go_simp; go_at_call 11; refine (below_any C v n ((rx a.next k).length : Int) _ hcd (by omega) (by omega)).mono ?_; rintro e w3 ⟨x, rfl, hx0, hx1, hd3⟩; have hd3' : Rolled wo w3 C v n := hd3.undrew; obtain ⟨y, rfl⟩ : ∃ y : Nat, x = (y : Int) := ⟨x.toNat, by omega⟩; have hyl : y < (rx a.next k).length := (by omega); have hX3 : Arr w3 w.heap.size 30 [.slice (some b1) a.owner.length ac, .slice (some b2) a.next.length ac'] := (hd3'.2.block _ hX.lt (by omega)).trans hX; have p0 := hX3.c0; have p1 := hX3.c1; have hc3 := cell_rolled hc2 hd3' (by omega); have hrow3 := hrow.rolled hd3' hCB; obtain ⟨b4, e4, hc4⟩ := hrow3.ints.at_ hyl; cases e4))
        all_goals
          have hown3 := hown.rolled hd3' (by omega)
          have hsz3 := Nat.le_trans hsz hd3'.2.size
          have hdd := hd.trans hd3'
          go_wp2_with (at_builtin; refine append_int _ rfl (.tmp 40) (.tmp 42) rfl (w.heap.size + 1) _ l rfl hown3 (ix (rx a.next k) y) rfl (by rw [Hll.out]; omega) hsz3 ?_; intro v1 w8 ho8 hb8 hg8 hl8)
          exact ⟨⟨k + 1, _, by omega, by go_num, ho8, Lib.hid (HP.out.snoc (fun _ => mem_ix.2 ⟨y, hyl, rfl⟩) fun h => absurd ho h), hX3.below hb8 (by omega), (ha.rolled hd3' hCB).underB hb8 (by omega), hdd.belowB hc hb8 (by omega), Nat.le_trans hsz3 hb8.size⟩, by simp [intOf]; omega⟩
      · go_wp2_with (at_builtin; refine append_int _ rfl (.tmp 40) (.tmp 42) rfl (w.heap.size + 1) _ l rfl hown (-1) rfl (by rw [Hll.out]; omega) hsz ?_; intro v1 w8 ho8 hb8 hg8 hl8)
        exact ⟨⟨k + 1, _, by omega, by go_num, ho8, Lib.hid (HP.out.snoc (fun h => absurd h ho) fun _ => rfl), hX.below hb8 (by omega), ha.underB hb8 (by omega), hd.belowB hc hb8 (by omega), Nat.le_trans hsz hb8.size⟩, by simp [intOf]; omega⟩
    · obtain rfl : k = a.owner.length := by omega
      have hlt2 : ¬ ((a.owner.length : Nat) : Int) < a.owner.length := by omega
      go_wp2
      go_ret
      first | exact ⟨_, rfl, l, hown.more (by omega), HP.out.full hok, hd⟩ | exact ⟨_, l, rfl, hown.more (by omega), HP.out.full hok, hd⟩
theorem set_snoc {l : List Int} {k : Nat} (h : IsSet l k) : IsSet (l ++ [(k : Int)]) ((k + 1 : Nat) : Int) := by
  refine isSet_of (List.pairwise_append.2 ⟨h.pw, by simp, fun a ha b hb => ?_⟩) fun x hx => ?_
  · rw [List.mem_singleton] at hb
    subst hb
    exact (h.rng a ha).2
  · rcases List.mem_append.1 hx with hx | hx
    · have := h.rng x hx; omega
    · rw [List.mem_singleton] at hx; omega
/-- A row of the call's own, with a dice that was there before. -/
theorem OwnInts.rolledW {w w1 w2 : World} {C n : Nat} {v x : Value} {l : List Int} (h : OwnInts w1 w.heap.size x l) (k : Rolled w1 w2 C v n) (hC : C < w.heap.size) : OwnInts w2 w.heap.size x l := h.rolled k hC
set_option maxRecDepth 100000 in
set_option maxHeartbeats 2000000 in
theorem w5Set_any (C : Nat) (v : Value) (n : Nat) (m : Nat) (w : World) (hc : Die w C v n) (hm : m ≤ 256) :
    Calls Try.prog 20 #[.pointer (some ⟨C, 0, none⟩), .int .i64 (m : Int)] w fun e w' => ∃ u l, e = .returned u ∧ OwnInts w' w.heap.size u l ∧ IsSet l m ∧ Rolled w w' C v n := by
  obtain ⟨hown0, hbn⟩ := new_ints w
  have hd1 := Rolled.below (.refl hc) hbn
  have hw1 := hbn.size
  have hCl := hc.lt
  clear hbn
  go_enter Try.func20, Try.ntmps20
  go_wp2_with fail
  generalize w.alloc (.cells #[] 2) = w1 at *
  go_loopw [5, 6] (fun qv i wr => ∃ (k : Nat) (l : List Int), k ≤ m ∧ i = .int .i64 k ∧ OwnInts wr w.heap.size qv l ∧ Hid (IsSet l k ∧ l.length ≤ k) ∧ Rolled w wr C v n ∧ w.heap.size ≤ wr.heap.size) (fun _ i _ => m - (intOf i).toNat)
  case atStart => exact ⟨0, [], Nat.zero_le _, rfl, by simpa using hown0, Lib.hid ⟨fun k hk => by simp at hk, Nat.le_refl _⟩, hd1, hw1⟩
  case round =>
    clear hown0 hd1 hw1
    obtain ⟨k, l, hk, rfl, hown, HP, hd, hsz⟩ := hrel
    obtain ⟨wo, rfl⟩ : ∃ wo : World, wo = wr := ⟨_, rfl⟩
    by_cases hlt : k < m
    · have hlt2 : (k : Int) < m := by omega
      have hll := HP.out.2
      go_wp2_with fail
      refine (below_any C v n 2 _ hd.1 (by omega) (by omega)).mono ?_
      rintro e w3 ⟨x, rfl, hx0, hx1, hd3⟩
      have hown3 := OwnInts.rolledW hown hd3 hCl
      have hsz3 := Nat.le_trans hsz hd3.2.size
      have hd' := hd.trans hd3
      clear hown hd hd3
      by_cases hx : x = 0
      · subst hx
        obtain ⟨QA, qc, ef, _⟩ := hown3.ints.form
        subst ef
        go_wp2_with (at_builtin; refine append_int _ rfl (.tmp 16) (.tmp 18) rfl w.heap.size _ l rfl hown3 (k : Int) rfl (by omega) hsz3 ?_; intro v1 w8 ho8 hb8 hg8 hl8)
        exact ⟨⟨k + 1, _, by omega, by go_num, ho8, Lib.hid ⟨set_snoc HP.out.1, by simp; omega⟩, hd'.belowB hc hb8 (Nat.le_refl _), Nat.le_trans hsz3 hb8.size⟩, by simp [intOf]; omega⟩
      · go_wp2_with fail
        exact ⟨⟨k + 1, _, by omega, by go_num, hown3, Lib.hid ⟨HP.out.1.upto (by omega), by omega⟩, hd', hsz3⟩, by simp [intOf]; omega⟩
    · obtain rfl : k = m := by omega
      have hlt2 : ¬ ((k : Nat) : Int) < k := by omega
      go_wp2
      go_ret
      first | exact ⟨_, rfl, l, hown, HP.out.1, hd⟩ | exact ⟨_, l, rfl, hown, HP.out.1, hd⟩
end Go.Proofs.Ytogfpalgnjlfcaa
