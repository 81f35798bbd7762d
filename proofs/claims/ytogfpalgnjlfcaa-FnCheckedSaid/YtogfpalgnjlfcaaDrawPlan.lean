/- The walk of l5DrawPlan: a plan. Printed by gen_draw6.py. -/
import Derived.Test.YtogfpalgnjlfcaaDrawPress2
import Derived.Test.YtogfpalgnjlfcaaDicePlan
import Derived.Test.YtogfpalgnjlfcaaRankWalks4
namespace Go.Proofs.Ytogfpalgnjlfcaa
set_option linter.unusedSimpArgs false
set_option linter.unusedVariables false
open Go.RowKit

theorem Drawn.belowB {w w1 w2 : World} {C n B : Nat} {v : Value} (hc : Cur w C v n) (h : Drawn w w1 C v n) (hb : Below B w1 w2) (hB : w.heap.size ≤ B) : Drawn w w2 C v n := by
  have hch : Chg (fun b => b = C) w w2 := ⟨hb.os.trans h.2.os, hb.tape.trans h.2.tape, hb.output.trans h.2.output, Nat.le_trans h.2.size hb.size, fun i hi hne => (hb.block i (Nat.lt_of_lt_of_le hi hB)).trans (h.2.block i hi hne)⟩
  obtain ⟨⟨i, x, hC, hi⟩, _⟩ := h.1
  have hCl := hc.lt
  exact ⟨⟨⟨i, x, (hb.block C (by omega)).trans hC, hi⟩, hc.bytes.chg hch hc.apart, hc.len, hc.apart⟩, hch⟩
theorem OwnInts.drawn {w w' : World} {C n B : Nat} {v x : Value} {l : List Int} (h : OwnInts w B x l) (k : Drawn w w' C v n) (hC : C < B) : OwnInts w' B x l :=
  ((OI.of h).chg k.2 fun b hb e => by have := (h.lt b hb).1; omega).1
theorem OA.drawnC {w w' : World} {B M C n : Nat} {v va : Value} {a : ArenaD} (h : OA w B M va a) (k : Drawn w w' C v n) (hC : C < B) : OA w' B M va a := h.chgC k.2 hC
theorem cell_drawn {w w' : World} {C n : Nat} {v u : Value} {p : Addr} (hc : w.cell? p = some u) (k : Drawn w w' C v n) (hp : C < p.block) : w'.cell? p = some u := by
  have hlt := World.block_lt_of_cell? w _ hc
  rw [← hc]
  exact cell_heap (k.2.block _ hlt (by omega))
theorem Drawn.undrew {w w1 : World} {C n : Nat} {v : Value} (h : Drawn w.drew w1 C v n) : Drawn w w1 C v n := ⟨h.1, ⟨h.2.os, h.2.tape, h.2.output, h.2.size, h.2.block⟩⟩
set_option maxRecDepth 100000 in
set_option maxHeartbeats 8000000 in
theorem l5DrawPlan_any (C : Nat) (v : Value) (n : Nat) (va : Value) (a : ArenaD) (who : Int) (full : Bool) (B M : Nat) (w : World) (hc : Cur w C v n) (ha : OA w B M va a) (hCB : C < B) (hMw : M ≤ w.heap.size) (hbig : BigA a) :
    Calls Try.prog 101 #[.pointer (some ⟨C, 0, none⟩), va, .int .i64 who, .bool full] w fun e w' => ∃ u l, e = .returned u ∧ OwnInts w' w.heap.size u l ∧ Drawn w w' C v n := by
  obtain ⟨A, ac, A', ac', rfl⟩ := ha.form
  have hX0 := Arr.new w 30 [.slice A a.owner.length ac, .slice A' a.next.length ac']
  have hbX := (Below.refl w.heap.size w).alloc (Nat.le_refl _) (.cells #[.slice A a.owner.length ac, .slice A' a.next.length ac'] 30)
  obtain ⟨hown0, hbn⟩ := new_ints (w.alloc (.cells #[.slice A a.owner.length ac, .slice A' a.next.length ac'] 30))
  have hX1 := hX0.below hbn hX0.lt
  have hb2 := Below.up hbX hbn
  have ha1 := ha.below hb2
  have hd1 := Drawn.below (.refl hc) hb2
  have hown1 := hown0.more (B' := w.heap.size + 1) (by simp)
  have hw1 : w.heap.size + 1 ≤ ((w.alloc (.cells #[.slice A a.owner.length ac, .slice A' a.next.length ac'] 30)).alloc (.cells #[] 2)).heap.size := by simp
  clear hX0 hbX hown0 hbn hb2 ha
  go_enter Try.func101, Try.ntmps101
  go_wp2_with fail
  generalize (w.alloc (.cells #[.slice A a.owner.length ac, .slice A' a.next.length ac'] 30)).alloc (.cells #[] 2) = w1 at *
  go_loopw [9, 10] (fun qv i wr => ∃ (k : Nat) (l : List Int), k ≤ a.owner.length ∧ i = .int .i64 k ∧ OwnInts wr (w.heap.size + 1) qv l ∧ Hid (l.length = k) ∧ Arr wr w.heap.size 30 [.slice A a.owner.length ac, .slice A' a.next.length ac'] ∧ OA wr B M (.agg #[.slice A a.owner.length ac, .slice A' a.next.length ac']) a ∧ Drawn w wr C v n ∧ w.heap.size + 1 ≤ wr.heap.size) (fun _ i _ => a.owner.length - (intOf i).toNat)
  case atStart => exact ⟨0, [], Nat.zero_le _, rfl, by simpa using hown1, Lib.hid rfl, hX1, ha1, hd1, hw1⟩
  case round =>
    clear hown1 hX1 ha1 hd1 hw1
    obtain ⟨k, l, hk, rfl, hown, Hll, hX, ha, hd, hsz⟩ := hrel
    obtain ⟨wo, rfl⟩ : ∃ wo : World, wo = wr := ⟨_, rfl⟩
    have hal := hbig.owner
    obtain ⟨QA, qc, ef, _⟩ := hown.ints.form
    rw [Hll.out] at ef
    subst ef
    have q0 := hX.c0
    have q1 := hX.c1
    have hCl := hc.lt
    by_cases hlt : k < a.owner.length
    · have hlt2 : (k : Int) < a.owner.length := by omega
      obtain ⟨hoo, _⟩ := ha.arena.parts
      obtain ⟨b1, e1, hc1⟩ := hoo.at_ hlt
      subst e1
      by_cases ho : ix a.owner k = who
      · by_cases hln : k < a.next.length
        · have hln2 : (k : Int) < a.next.length := by omega
          obtain ⟨b2, RA, rc, cap, e2, hb2, hc2, hrow⟩ := ha.row_at hln
          simp only [Value.slice.injEq] at e2
          obtain ⟨e2, _, e3⟩ := e2
          subst e2
          subst e3
          have hdeg := hbig.deg k hln
          by_cases hr0 : 0 < (rx a.next k).length
          · have hr02 : (0 : Int) < (rx a.next k).length := by omega
            cases full
            · go_wp2_with fail
              refine (l1Once_any C v n 4 _ hd.1).mono ?_
              rintro e wp ⟨bo, rfl, hdp⟩
              have hdq := hd.trans hdp
              have hXq : Arr wp w.heap.size 30 [.slice (some b1) a.owner.length ac, .slice (some b2) a.next.length ac'] := (hdp.2.block _ hX.lt (by omega)).trans hX
              have haq := ha.drawnC hdp hCB
              have hownq := hown.drawn hdp (by omega)
              have hszq := Nat.le_trans hsz hdp.2.size
              have hcq := cell_drawn hc2 hdp (by omega)
              have hrowq := hrow.drawn hdp hCB
              have q2 := hXq.c0
              have q3 := hXq.c1
              clear hd ha hown hsz hX hrow hdp
              cases bo
              · have hcd : Cur wp.drew C v n := hdq.1.drew
                go_wp2_with fail
                go_region_law (first | (go_simp; go_at_call 94; refine (l1Below_any C v n ((rx a.next k).length : Int) _ hcd).mono ?_; rintro e w3 ⟨x, rfl, hx0, _, hx1, hd3⟩; have hx2 := hx1 hr02; have hd3' : Drawn wp w3 C v n := hd3.undrew; obtain ⟨y, rfl⟩ : ∃ y : Nat, x = (y : Int) := ⟨x.toNat, by omega⟩; have hyl : y < (rx a.next k).length := (by omega); have hX3 : Arr w3 w.heap.size 30 [.slice (some b1) a.owner.length ac, .slice (some b2) a.next.length ac'] := (hd3'.2.block _ hXq.lt (by omega)).trans hXq; have p0 := hX3.c0; have p1 := hX3.c1; have hc3 := cell_drawn hcq hd3' (by omega); have hrow3 := hrowq.drawn hd3' hCB; obtain ⟨b4, e4, hc4⟩ := hrow3.ints.at_ hyl; cases e4))
                all_goals
                  have hown3 := hownq.drawn hd3' (by omega)
                  have hsz3 := Nat.le_trans hszq hd3'.2.size
                  have hdd := hdq.trans hd3'
                  go_wp2_with (at_builtin; refine append_int _ rfl (.tmp 66) (.tmp 68) rfl (w.heap.size + 1) _ l rfl hown3 (ix (rx a.next k) y) rfl (by rw [Hll.out]; omega) hsz3 ?_; intro v1 w8 ho8 hb8 hg8 hl8)
                  exact ⟨⟨k + 1, _, by omega, by go_num, ho8, Lib.hid (by rw [List.length_append, List.length_singleton, Hll.out]), hX3.below hb8 (by omega), (haq.drawnC hd3' hCB).underB hb8 (by omega), hdd.belowB hc hb8 (by omega), Nat.le_trans hsz3 hb8.size⟩, by simp [intOf]; omega⟩
              · go_wp2_with (at_builtin; refine append_int _ rfl (.tmp 66) (.tmp 68) rfl (w.heap.size + 1) _ l rfl hownq (-1) rfl (by rw [Hll.out]; omega) hszq ?_; intro v1 w8 ho8 hb8 hg8 hl8)
                exact ⟨⟨k + 1, _, by omega, by go_num, ho8, Lib.hid (by rw [List.length_append, List.length_singleton, Hll.out]), hXq.below hb8 (by omega), haq.underB hb8 (by omega), hdq.belowB hc hb8 (by omega), Nat.le_trans hszq hb8.size⟩, by simp [intOf]; omega⟩
            · have hcd : Cur wo.drew C v n := hd.1.drew
              go_wp2_with fail
              go_region_law (first | (go_simp; go_at_call 94; refine (l1Below_any C v n ((rx a.next k).length : Int) _ hcd).mono ?_; rintro e w3 ⟨x, rfl, hx0, _, hx1, hd3⟩; have hx2 := hx1 hr02; have hd3' : Drawn wo w3 C v n := hd3.undrew; obtain ⟨y, rfl⟩ : ∃ y : Nat, x = (y : Int) := ⟨x.toNat, by omega⟩; have hyl : y < (rx a.next k).length := (by omega); have hX3 : Arr w3 w.heap.size 30 [.slice (some b1) a.owner.length ac, .slice (some b2) a.next.length ac'] := (hd3'.2.block _ hX.lt (by omega)).trans hX; have p0 := hX3.c0; have p1 := hX3.c1; have hc3 := cell_drawn hc2 hd3' (by omega); have hrow3 := hrow.drawn hd3' hCB; obtain ⟨b4, e4, hc4⟩ := hrow3.ints.at_ hyl; cases e4))
              all_goals
                have hown3 := hown.drawn hd3' (by omega)
                have hsz3 := Nat.le_trans hsz hd3'.2.size
                have hdd := hd.trans hd3'
                go_wp2_with (at_builtin; refine append_int _ rfl (.tmp 66) (.tmp 68) rfl (w.heap.size + 1) _ l rfl hown3 (ix (rx a.next k) y) rfl (by rw [Hll.out]; omega) hsz3 ?_; intro v1 w8 ho8 hb8 hg8 hl8)
                exact ⟨⟨k + 1, _, by omega, by go_num, ho8, Lib.hid (by rw [List.length_append, List.length_singleton, Hll.out]), hX3.below hb8 (by omega), (ha.drawnC hd3' hCB).underB hb8 (by omega), hdd.belowB hc hb8 (by omega), Nat.le_trans hsz3 hb8.size⟩, by simp [intOf]; omega⟩
          · have hr00 : (rx a.next k).length = 0 := by omega
            have hr02 : ¬ (0 : Int) < (rx a.next k).length := by omega
            go_wp2_with (at_builtin; refine append_int _ rfl (.tmp 66) (.tmp 68) rfl (w.heap.size + 1) _ l rfl hown (-1) rfl (by rw [Hll.out]; omega) hsz ?_; intro v1 w8 ho8 hb8 hg8 hl8)
            exact ⟨⟨k + 1, _, by omega, by go_num, ho8, Lib.hid (by rw [List.length_append, List.length_singleton, Hll.out]), hX.below hb8 (by omega), ha.underB hb8 (by omega), hd.belowB hc hb8 (by omega), Nat.le_trans hsz hb8.size⟩, by simp [intOf]; omega⟩
        · have hln2 : ¬ (k : Int) < a.next.length := by omega
          go_wp2_with (at_builtin; refine append_int _ rfl (.tmp 66) (.tmp 68) rfl (w.heap.size + 1) _ l rfl hown (-1) rfl (by rw [Hll.out]; omega) hsz ?_; intro v1 w8 ho8 hb8 hg8 hl8)
          exact ⟨⟨k + 1, _, by omega, by go_num, ho8, Lib.hid (by rw [List.length_append, List.length_singleton, Hll.out]), hX.below hb8 (by omega), ha.underB hb8 (by omega), hd.belowB hc hb8 (by omega), Nat.le_trans hsz hb8.size⟩, by simp [intOf]; omega⟩
      · go_wp2_with (at_builtin; refine append_int _ rfl (.tmp 66) (.tmp 68) rfl (w.heap.size + 1) _ l rfl hown (-1) rfl (by rw [Hll.out]; omega) hsz ?_; intro v1 w8 ho8 hb8 hg8 hl8)
        exact ⟨⟨k + 1, _, by omega, by go_num, ho8, Lib.hid (by rw [List.length_append, List.length_singleton, Hll.out]), hX.below hb8 (by omega), ha.underB hb8 (by omega), hd.belowB hc hb8 (by omega), Nat.le_trans hsz hb8.size⟩, by simp [intOf]; omega⟩
    · obtain rfl : k = a.owner.length := by omega
      have hlt2 : ¬ ((a.owner.length : Nat) : Int) < a.owner.length := by omega
      go_wp2_with fail
      clear q0 q1
      refine (l1Once_any C v n 15 _ hd.1).mono ?_
      rintro e wp ⟨bo, rfl, hdp⟩
      have hdq := hd.trans hdp
      have hownq := hown.drawn hdp (by omega)
      have hszq := Nat.le_trans hsz hdp.2.size
      clear hd ha hown hsz hX hdp
      cases bo
      · go_wp2
        go_ret
        first | exact ⟨_, rfl, l, hownq.more (by omega), hdq⟩ | exact ⟨_, l, rfl, hownq.more (by omega), hdq⟩
      · by_cases hz : 0 < a.owner.length
        · have hz2 : (0 : Int) < a.owner.length := by omega
          obtain ⟨G, cap, ef, hG1, hG2⟩ := own_form hownq (by rw [Hll.out]) hz
          simp only [Value.slice.injEq] at ef
          obtain ⟨ef, _, ef2⟩ := ef
          subst ef
          subst ef2
          go_wp2_with fail
          refine (l1Below_any C v n (a.owner.length : Int) _ hdq.1).mono ?_
          rintro e w3 ⟨x, rfl, hx0, _, hx1, hd3⟩
          have hx2 := hx1 hz2
          obtain ⟨y, rfl⟩ : ∃ y : Nat, x = (y : Int) := ⟨x.toNat, by omega⟩
          go_wp2_with fail
          refine (l1From_any C v n (-2) 9 _ hd3.1 (by omega) (by omega)).mono ?_
          rintro e w4 ⟨z, rfl, _, _, _, hd4⟩
          have hown4 := (hownq.drawn hd3 (by omega)).drawn hd4 (by omega)
          have hd5 := (hdq.trans hd3).trans hd4
          have hp1 := OwnInts.put hown4 Hll.out.symm y z
          have hfz := OwnInts.frozen' hown4 Hll.out.symm y
          have hcl : w4.cell? ⟨G, y, none⟩ = some (.int .i64 (ix l y)) := OwnInts.cell hown4 (by rw [Hll.out]; omega)
          go_wp2
          go_ret
          first | exact ⟨_, rfl, l.set y z, hp1.more (by omega), hd5.setCell hc (by show w.heap.size ≤ G; omega) _⟩ | exact ⟨_, l.set y z, rfl, hp1.more (by omega), hd5.setCell hc (by show w.heap.size ≤ G; omega) _⟩
        · have hz2 : ¬ (0 : Int) < a.owner.length := by omega
          go_wp2
          go_ret
          first | exact ⟨_, rfl, l, hownq.more (by omega), hdq⟩ | exact ⟨_, l, rfl, hownq.more (by omega), hdq⟩
end Go.Proofs.Ytogfpalgnjlfcaa
