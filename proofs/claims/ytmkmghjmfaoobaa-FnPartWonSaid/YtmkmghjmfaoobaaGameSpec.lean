/- The walk of the reference's WonIn. -/
import Derived.Test.YtmkmghjmfaoobaaGameWalks
import Derived.Test.YtmkmghjmfaoobaaSureWalks
namespace Go.Proofs.Ytmkmghjmfaoobaa
set_option linter.unusedSimpArgs false
set_option linter.unusedVariables false
open Go.RowKit

theorem OI.below' {w w' : World} {B C D : Nat} {v : Value} {l : List Int} (h : OI w B C v l) (hb : Below D w w') (hD : C ≤ D) : OI w' B C v l := h.under (hb.mono hD)
theorem OwnInts.at_block {w : World} {B b : Nat} {v : Value} {l : List Int} (h : OwnInts w B v l) (hb : v.ownBlock = some b) : OI w b (b + 1) v l := by
  refine ⟨⟨h.1, ?_⟩, fun k hk => by rw [hb] at hk; injection hk with hk; omega⟩
  rcases h.2 with hn | ⟨g, cap, cur, rfl, hg, rest⟩
  · exact .inl hn
  · have e : g = b := Option.some.inj hb
    exact .inr ⟨g, cap, cur, rfl, by omega, rest⟩
theorem take_yes {f : Int → Bool} {l : List Int} {k : Nat} {x : Int} (hk : k < l.length) (hx : ix l k = x) (h : f x = true) : (l.take (k + 1)).filter f = (l.take k).filter f ++ [x] := by
  rw [sure_take hk, hx, if_pos h]
theorem take_no {f : Int → Bool} {l : List Int} {k : Nat} {x : Int} (hk : k < l.length) (hx : ix l k = x) (h : f x = false) : (l.take (k + 1)).filter f = (l.take k).filter f := by
  rw [sure_take hk, hx, if_neg (by rw [h]; simp), List.append_nil]
theorem IsSet.pairs {s : List Int} {n : Int} (h : IsSet s n) : s.Pairwise (· < ·) := List.pairwise_iff_getElem.2 fun i j hi hj hij => by
  have := h.lt_of hij hj
  rwa [ix_lt hi, ix_lt hj] at this
theorem markedL_pairs (m : List Bool) : (markedL m).Pairwise (· < ·) := sorted_upFrom_filter _ _
theorem mem_filter_bx {s : List Int} {n : Nat} {f : Nat → Bool} {x : Int} (hs : IsSet s n) : x ∈ s.filter (fun v => f v.toNat) ↔ ∃ j : Nat, j < n ∧ x = (j : Int) ∧ (j : Int) ∈ s ∧ f j = true := by
  rw [List.mem_filter]
  constructor
  · rintro ⟨h1, h2⟩
    obtain ⟨k, hk, e⟩ := mem_ix.1 h1
    obtain ⟨j, hj, hjn⟩ := hs.vert k hk
    have ex : x = (j : Int) := by rw [← e, hj]
    subst ex
    exact ⟨j, hjn, rfl, h1, by simpa using h2⟩
  · rintro ⟨j, _, rfl, h1, h2⟩
    exact ⟨h1, by simpa using h2⟩
theorem even_filter {s : List Int} {n : Nat} {r : List Bool} {g : Duel} (hs : IsSet s n) (h : WonB g (marksL n s) r 0) : s.filter (fun v => bx r v.toNat) = markedL r :=
  lt_ext (hs.pairs.filter _) (markedL_pairs _) fun x => by
    rw [mem_filter_bx (f := fun j => bx r j) hs, mem_markedL]
    have hl : r.length = n := by rw [h.len, length_marksL]
    constructor
    · rintro ⟨j, h1, rfl, _, h2⟩; exact ⟨j, by omega, rfl, h2⟩
    · rintro ⟨j, h1, rfl, h2⟩
      have h3 := h.sub0 (v := j) h2
      exact ⟨j, by omega, rfl, (on_marksL.1 h3).2, h2⟩
theorem odd_filter {s : List Int} {n : Nat} {r : List Bool} (hs : IsSet s n) : s.filter (fun v => !bx r v.toNat) = markedL (restL (marksL n s) r) :=
  lt_ext (hs.pairs.filter _) (markedL_pairs _) fun x => by
    rw [mem_filter_bx (f := fun j => !bx r j) hs, mem_markedL]
    constructor
    · rintro ⟨j, h1, rfl, h2, h3⟩
      exact ⟨j, by simpa using h1, rfl, on_restL.2 ⟨on_marksL.2 ⟨h1, h2⟩, fun h => by unfold On at h; rw [h] at h3; cases h3⟩⟩
    · rintro ⟨j, h1, rfl, h2⟩
      obtain ⟨h3, h4⟩ := on_restL.1 h2
      obtain ⟨h5, h6⟩ := on_marksL.1 h3
      exact ⟨j, h5, rfl, h6, by rw [not_on] at h4; rw [h4]; rfl⟩

set_option maxRecDepth 100000 in
set_option maxHeartbeats 8000000 in
theorem specWonIn_any (v : Value) (g : ParityD) (u : Value) (s : List Int) (w : World) (hv : IsParity w v g) (hu : Ints w u s) (hsl : s.length ≤ 1048576) :
    Calls Try.prog 15 #[v, u] w (RetTwo w (wonE g s) (wonO g s)) := by
  obtain ⟨o, n, p, rfl, hbw, hB⟩ := parity_box hv
  obtain ⟨ha, hp⟩ := hv.parts
  obtain ⟨P, pc, rfl, hlp, hmp⟩ := hp.form
  obtain ⟨S, sc, rfl, hsl2, hsm⟩ := hu.form
  obtain ⟨he, hbe⟩ := new_ints (w.alloc (.cells #[o, n, .slice P g.prio.length pc] 32))
  obtain ⟨hod, hbo⟩ := new_ints ((w.alloc (.cells #[o, n, .slice P g.prio.length pc] 32)).alloc (.cells #[] 2))
  replace he := (OI.of he).below hbo
  replace hod := OI.of hod
  replace hbw := Below.up (Below.up hbw hbe) hbo
  replace hB := (hB.below hbe hB.lt).below hbo (hB.below hbe hB.lt).lt
  have e0 : (w.alloc (.cells #[o, n, .slice P g.prio.length pc] 32)).heap.size = w.heap.size + 1 := by simp
  have e1 : ((w.alloc (.cells #[o, n, .slice P g.prio.length pc] 32)).alloc (.cells #[] 2)).heap.size = w.heap.size + 1 + 1 := by simp
  have e2 : (((w.alloc (.cells #[o, n, .slice P g.prio.length pc] 32)).alloc (.cells #[] 2)).alloc (.cells #[] 2)).heap.size = w.heap.size + 1 + 1 + 1 := by simp
  rw [e0, e1] at he
  rw [e1, e2] at hod
  have hz0 : w.heap.size + 1 + 1 < (((w.alloc (.cells #[o, n, .slice P g.prio.length pc] 32)).alloc (.cells #[] 2)).alloc (.cells #[] 2)).heap.size := by omega
  clear hbe hbo e0 e1 e2
  have hBz := hB.lt
  have hBc0 := hB.c0
  have hBc1 := hB.c1
  have hBc2 := hB.c2
  cases hE : parityOkB g
  · have hres : wonE g s = [] := by unfold wonE; rw [hE]; rfl
    have hres2 : wonO g s = [] := by unfold wonO; rw [hE]; rfl
    rw [hres, hres2]; clear hres hres2
    go_enter Try.func15, Try.ntmps15
    go_wp2_with fail
    refine (specParityOk_any _ g _ (hv.kept (Kept.of hbw))).mono ?_
    rintro e w1 ⟨rfl, hb1⟩
    rw [hE]
    have hs1 := hb1.size
    replace he := he.below' hb1 (by omega)
    replace hod := hod.below' hb1 (by omega)
    go_wp2
    go_ret2
    exact ⟨_, _, w.heap.size + 1, w.heap.size + 1 + 1, w.heap.size + 1 + 1, w.heap.size + 1 + 1 + 1, rfl, he, hod, by omega, Below.up hbw hb1⟩
  · have hok := parityOkB_iff.1 hE
    have hle := hok.arena.le
    have hpo : g.prio.length ≤ 256 := by rw [hok.len]; exact hle
    have hD : setOkB s g.prio.length = isSetB s g.arena.owner.length := by
      unfold setOkB
      rw [decide_eq_true (by omega), Bool.true_and, hok.len]
    have HD := Lib.hid hD
    clear hD
    cases hT : isSetB s g.arena.owner.length
    · have hg : gameB g.arena s = false := by unfold gameB; rw [hT]; rfl
      have hres : wonE g s = [] := by unfold wonE; rw [hE, hg]; rfl
      have hres2 : wonO g s = [] := by unfold wonO; rw [hE, hg]; rfl
      rw [hres, hres2]; clear hres hres2 hg
      rw [hT] at HD
      go_enter Try.func15, Try.ntmps15
      go_wp2_with fail
      refine (specParityOk_any _ g _ (hv.kept (Kept.of hbw))).mono ?_
      rintro e w1 ⟨rfl, hb1⟩
      rw [hE]
      have hs1 := hb1.size
      replace he := he.below' hb1 (by omega)
      replace hod := hod.below' hb1 (by omega)
      replace hB := hB.below hb1 hB.lt
      replace hbw := Below.up hbw hb1
      clear hBc0 hBc1 hBc2
      have hBc2 := hB.c2
      go_wp2_with fail
      refine (specSetOk_any _ s _ _ (hu.kept (Kept.of hbw))).mono ?_
      rintro e w2 ⟨rfl, q, hq⟩
      have hb2 : Below w1.heap.size w1 w2 := by rw [hq]; exact ⟨rfl, rfl, rfl, Nat.le_refl _, fun _ _ => rfl⟩
      clear hq
      have hs2 := hb2.size
      rw [HD.out]
      replace he := he.below' hb2 (by omega)
      replace hod := hod.below' hb2 (by omega)
      go_wp2
      go_ret2
      exact ⟨_, _, w.heap.size + 1, w.heap.size + 1 + 1, w.heap.size + 1 + 1, w.heap.size + 1 + 1 + 1, rfl, he, hod, by omega, Below.up hbw hb2⟩
    · have hset := isSetB_iff.1 hT
      have Hset := Lib.hid hset
      have hvert := hset.vert
      have Hyes := Lib.hid (gameB_yes hT)
      have Hno := fun k j => Lib.hid (gameB_no (a := g.arena) (s := s) (k := k) (j := j))
      have Hres : Hid (gameB g.arena s = false → wonE g s = [] ∧ wonO g s = []) := Lib.hid fun hg => ⟨by unfold wonE; rw [hE, hg]; rfl, by unfold wonO; rw [hE, hg]; rfl⟩
      have Hres2 : Hid (gameB g.arena s = true → wonE g s = markedL (evenW (duelP g) (marksL g.arena.owner.length s)) ∧ wonO g s = markedL (restL (marksL g.arena.owner.length s) (evenW (duelP g) (marksL g.arena.owner.length s)))) := Lib.hid fun hg => ⟨by unfold wonE; rw [hE, hg]; rfl, by unfold wonO; rw [hE, hg]; rfl⟩
      rw [hT] at HD
      clear hset
      go_enter Try.func15, Try.ntmps15
      go_wp2_with fail
      refine (specParityOk_any _ g _ (hv.kept (Kept.of hbw))).mono ?_
      rintro e w1 ⟨rfl, hb1⟩
      rw [hE]
      have hs1 := hb1.size
      replace he := he.below' hb1 (by omega)
      replace hod := hod.below' hb1 (by omega)
      replace hB := hB.below hb1 hB.lt
      replace hbw := Below.up hbw hb1
      clear hBc0 hBc1 hBc2 hBz
      have hBc2 := hB.c2
      go_wp2_with fail
      refine (specSetOk_any _ s _ _ (hu.kept (Kept.of hbw))).mono ?_
      rintro e w2 ⟨rfl, q, hq⟩
      have hb2 : Below w1.heap.size w1 w2 := by rw [hq]; exact ⟨rfl, rfl, rfl, Nat.le_refl _, fun _ _ => rfl⟩
      clear hq
      have hs2 := hb2.size
      rw [HD.out]
      replace he := he.below' hb2 (by omega)
      replace hod := hod.below' hb2 (by omega)
      replace hB := hB.below hb2 hB.lt
      replace hbw := Below.up hbw hb2
      clear hBc2
      have hBc0 := hB.c0
      have hBc1 := hB.c1
      have hBc2 := hB.c2
      go_wp2_with fail
      refine (l7Of_any _ g _ (hv.kept (Kept.of hbw)) hok).mono ?_
      rintro e w3 ⟨u3, rfl, hs3, hb3⟩
      have hs3s := hb3.size
      obtain ⟨O, oc, PP, ppc, NN, nc, QQ, qc, K, kc, rfl⟩ := hs3.form
      replace he := he.below' hb3 (by omega)
      replace hod := hod.below' hb3 (by omega)
      replace hB := hB.below hb3 hB.lt
      replace hbw := Below.up hbw hb3
      have hbn := (Below.refl w3.heap.size w3).alloc (Nat.le_refl _) (.cells #[.slice O g.arena.owner.length oc, .slice PP g.prio.length ppc, .slice NN g.arena.next.length nc, .slice QQ g.arena.owner.length qc, .slice K g.arena.owner.length kc] 71)
      have hX := Arr.new w3 71 [.slice O g.arena.owner.length oc, .slice PP g.prio.length ppc, .slice NN g.arena.next.length nc, .slice QQ g.arena.owner.length qc, .slice K g.arena.owner.length kc]
      clear hBc0 hBc1 hBc2
      have hBz := hB.lt
      have hBc2 := hB.c2
      have hs4 := hs3.kept (Kept.of hbn)
      replace he := he.below' hbn (by omega)
      replace hod := hod.below' hbn (by omega)
      replace hB := hB.below hbn hB.lt
      replace hbw := Below.up hbw hbn
      go_wp2_with fail
      clear hBc2 hBz hbn hs3
      have hw3 : w3.heap.size < (w3.alloc (.cells #[.slice O g.arena.owner.length oc, .slice PP g.prio.length ppc, .slice NN g.arena.next.length nc, .slice QQ g.arena.owner.length qc, .slice K g.arena.owner.length kc] 71)).heap.size := by simp
      generalize w3.alloc (.cells #[.slice O g.arena.owner.length oc, .slice PP g.prio.length ppc, .slice NN g.arena.next.length nc, .slice QQ g.arena.owner.length qc, .slice K g.arena.owner.length kc] 71) = w4 at *
      have Hol := Lib.hid hok.len
      refine (l7Part_any _ s g.prio.length _ (hu.kept (Kept.of hbw)) (by rw [Hol.out]; exact hvert) (by omega)).mono ?_
      rintro e w5 ⟨u5, rfl, hm5, hb5⟩
      rw [Hol.out] at hm5
      have hmb := hm5.bools
      obtain ⟨MA, mc, ef, _⟩ := hmb.form
      rw [length_marksL] at ef
      subst ef
      have hs5s := hb5.size
      replace he := he.below' hb5 (by omega)
      replace hod := hod.below' hb5 (by omega)
      replace hbw := Below.up hbw hb5
      replace hX := hX.below hb5 hw3
      have hs5 := hs4.kept (Kept.of hb5)
      have hXz := hX.lt
      clear hs4 hm5 hB hb5
      have Hml := Lib.hid (length_marksL g.arena.owner.length s)
      have Htot : Hid (gameB g.arena s = true → Tot (duel g.arena.owner g.prio g.arena.next) (On (marksL g.arena.owner.length s))) := Lib.hid fun hg => gameB_tot g.prio hok.arena hg
      have Heven : Hid (∀ r, WonB (duelP g) (marksL g.arena.owner.length s) r 0 → r = evenW (duelP g) (marksL g.arena.owner.length s) ∧ s.filter (fun v => bx r v.toNat) = markedL r ∧ s.filter (fun v => !bx r v.toNat) = markedL (restL (marksL g.arena.owner.length s) r)) := Lib.hid fun r h => ⟨by
          have h2 := h.is_even (n := g.arena.owner.length) (hok.own (length_marksL _ _)) (length_marksL _ _)
          unfold evenL at h2
          rw [if_pos rfl] at h2
          exact h2, even_filter Hset.out h, odd_filter Hset.out⟩
      generalize marksL g.arena.owner.length s = mk at *
      go_wp2_with fail
      go_loopw [10] (fun i wr => ∃ k : Nat, k ≤ s.length ∧ i = .int .i64 k ∧ Hid (∀ j, j < k → okRow mk (rx g.arena.next (ix s j).toNat) = true) ∧ Below w5.heap.size w5 wr) (fun i _ => s.length - (intOf i).toNat)
      case atStart => exact ⟨0, Nat.zero_le _, rfl, Lib.hid (fun j hj => by omega), Below.refl _ _⟩
      case round =>
        obtain ⟨k, hk, rfl, Hm, hbr⟩ := hrel
        have hbwr := hbw.trans (hbr.mono hbw.size)
        have hbrs := hbr.size
        by_cases hlt : k < s.length
        · obtain ⟨a1, ea, hc1⟩ := (hu.kept (Kept.of hbwr)).at_ hlt
          cases ea
          obtain ⟨j, hj, hjn⟩ := hvert k hlt
          have hlt2 : (k : Int) < s.length := by omega
          have Hj := Lib.hid hj
          rw [hj] at hc1
          clear hj
          have HSS := Lib.hid (fun W (hW : Below wr.heap.size wr W) => (show W.cell? ⟨w3.heap.size, 0, none⟩ = some (.slice O g.arena.owner.length oc) ∧ W.cell? ⟨w3.heap.size, 1, none⟩ = some (.slice PP g.prio.length ppc) ∧ W.cell? ⟨w3.heap.size, 2, none⟩ = some (.slice NN g.arena.next.length nc) ∧ W.cell? ⟨w3.heap.size, 3, none⟩ = some (.slice QQ g.arena.owner.length qc) ∧ W.cell? ⟨w3.heap.size, 4, none⟩ = some (.slice K g.arena.owner.length kc) ∧ W.cell? (a1.add k) = some (.int .i64 j) from by
            obtain ⟨q0, q1, q2, q3, q4⟩ := ((hX.below hbr hXz).below hW (hX.below hbr hXz).lt).five
            exact ⟨q0, q1, q2, q3, q4, (Kept.of hW).cell hc1⟩))
          have hR0 : Below wr.heap.size wr wr.drew := ⟨rfl, rfl, rfl, Nat.le_refl _, fun _ _ => rfl⟩
          have Hcall := Lib.hid (fun W (hW : Below wr.heap.size wr W) => l7Degree_any _ g.arena g.prio _ mk j W ((hs5.kept (Kept.of hbr)).kept (Kept.of hW)) ((hmb.kept (Kept.of hbr)).kept (Kept.of hW)) hok.arena Hml.out hjn)
          clear hc1
          go_wp2_with fail
          go_region_held3 (fun W => W.cell? ⟨w3.heap.size, 0, none⟩ = some (.slice O g.arena.owner.length oc) ∧ W.cell? ⟨w3.heap.size, 1, none⟩ = some (.slice PP g.prio.length ppc) ∧ W.cell? ⟨w3.heap.size, 2, none⟩ = some (.slice NN g.arena.next.length nc) ∧ W.cell? ⟨w3.heap.size, 3, none⟩ = some (.slice QQ g.arena.owner.length qc) ∧ W.cell? ⟨w3.heap.size, 4, none⟩ = some (.slice K g.arena.owner.length kc) ∧ W.cell? (a1.add k) = some (.int .i64 j))
            (first | exact HSS.out _ hR0 | exact HSS.out _ hR6)
            (first | (go_at_call 54; refine (Hcall.out _ hR0).mono ?_; rintro e w6 ⟨rfl, hb6⟩; have hR6 := Below.up hR0 hb6))
          all_goals
            clear HSS Hcall
            have hbr6 := Below.up hbr hR6
            have hs6 := hbr6.size
            cases e : okRow mk (rx g.arena.next j)
            · have Hz := Lib.hid (okRow_cnt.2 e)
              have He := Hres.out ((Hno k j).out hlt Hj.out e)
              have Hd : Hid ((((cntTo mk (rx g.arena.next j) (rx g.arena.next j).length : Nat) : Int) == 0) = true) := Lib.hid (by rw [Hz.out]; rfl)
              have He1 := Lib.hid He.1
              have He2 := Lib.hid He.2
              have hd := Hd.out
              clear He e
              have he6 := he.below' hbr6 (by omega)
              have ho6 := hod.below' hbr6 (by omega)
              go_wp2
              go_ret2
              exact ⟨_, _, w.heap.size + 1, w.heap.size + 1 + 1, w.heap.size + 1 + 1, w.heap.size + 1 + 1 + 1, rfl, by rw [He1.out]; exact he6, by rw [He2.out]; exact ho6, by omega, Below.up hbw hbr6⟩
            · have Hnz : Hid (cntTo mk (rx g.arena.next j) (rx g.arena.next j).length ≠ 0) := Lib.hid fun h => by rw [okRow_cnt.1 h] at e; cases e
              have hd : (((cntTo mk (rx g.arena.next j) (rx g.arena.next j).length : Nat) : Int) == 0) = false := by
                have := Hnz.out
                simp; omega
              have He := Lib.hid e
              clear e
              go_wp2_with fail
              exact ⟨⟨k + 1, by omega, by go_num, Lib.hid fun i hi => by
                by_cases hik : i = k
                · subst hik; rw [Hj.out, Int.toNat_natCast]; exact He.out
                · exact Hm.out i (by omega), hbr6⟩, by simp [intOf]; omega⟩
        · obtain rfl : k = s.length := by omega
          have hlt2 : ¬ (s.length : Int) < s.length := by omega
          have Hg := Lib.hid (Hyes.out Hm.out)
          have Hx := Hres2.out Hg.out
          have Hx1 := Lib.hid Hx.1
          have Hx2 := Lib.hid Hx.2
          clear Hx Hm Hyes
          obtain ⟨q0, q1, q2, q3, q4⟩ := (hX.below hbr hXz).five
          go_wp2_with fail
          refine (l7Win_any mk.length _ g.arena g.prio _ mk _ (Lib.hid List.count_le_length) (hs5.kept (Kept.of hbr)) (hmb.kept (Kept.of hbr)) hok.arena Hml (Lib.hid Hol.out) (Lib.hid hok.prio) (Lib.hid (Htot.out Hg.out))).mono ?_
          rintro e w7 ⟨u7, r, rfl, hr7, HW, hb7⟩
          clear q0 q1 q2 q3 q4
          obtain ⟨Hr1, Hr2, Hr3⟩ := Heven.out r HW.out
          replace Hr1 := Lib.hid Hr1
          replace Hr2 := Lib.hid Hr2
          replace Hr3 := Lib.hid Hr3
          have Hrl := Lib.hid HW.out.len
          have hrb := hr7.bools
          obtain ⟨RA, rc, rfl, _⟩ := hrb.form
          have hbr7 := Below.up hbr hb7
          have hs7 := hbr7.size
          have he7 := he.below' hbr7 (by omega)
          have ho7 := hod.below' hbr7 (by omega)
          have hbw7 := Below.up hbw hbr7
          have hz7 : w.heap.size + 1 + 1 + 1 ≤ wr.heap.size := by omega
          have Hall1 := Lib.hid (show (s.take s.length).filter (fun v => bx r v.toNat) = wonE g s by rw [List.take_length, Hr2.out, Hx1.out, ← Hr1.out])
          have Hall2 := Lib.hid (show (s.take s.length).filter (fun v => !bx r v.toNat) = wonO g s by rw [List.take_length, Hr3.out, Hx2.out, ← Hr1.out])
          have HrB := Lib.hid (OB.of hr7)
          have hrlt := hr7.lt
          clear Heven HW Htot hr7 Hr1 Hr2 Hr3 Hx1 Hx2 hrb hX hs5 hmb he hod hbr hbrs hb7
          go_wp2_with fail
          go_loopw [6, 7, 12] (fun ev ov i wx => ∃ (k be bo : Nat), k ≤ s.length ∧ i = .int .i64 k ∧ OwnInts wx (w.heap.size + 1) ev ((s.take k).filter fun v => bx r v.toNat) ∧ OwnInts wx (w.heap.size + 1) ov ((s.take k).filter fun v => !bx r v.toNat) ∧ ev.ownBlock = some be ∧ ov.ownBlock = some bo ∧ Hid (be ≠ bo) ∧ Hid ((w.heap.size + 1 ≤ be ∧ be < w.heap.size + 1 + 1 + 1) ∨ w7.heap.size ≤ be) ∧ Hid ((w.heap.size + 1 ≤ bo ∧ bo < w.heap.size + 1 + 1 + 1) ∨ w7.heap.size ≤ bo) ∧ Chg (fun b => (w.heap.size + 1 ≤ b ∧ b < w.heap.size + 1 + 1 + 1) ∨ w7.heap.size ≤ b) w7 wx) (fun _ _ i _ => s.length - (intOf i).toNat)
          case atStart => exact ⟨0, w.heap.size + 1, w.heap.size + 1 + 1, Nat.zero_le _, rfl, by simpa using he7.1, by simpa using (ho7.1.more (Nat.le_succ _)), rfl, rfl, Lib.hid (by omega), Lib.hid (by omega), Lib.hid (by omega), Chg.refl _ _⟩
          case round =>
            obtain ⟨k, be, bo, hk, rfl, hev, hov, hbe, hbo, Hne, Hbe, Hbo, hch⟩ := hrel
            obtain ⟨wx, rfl⟩ : ∃ wx : World, wx = wr := ⟨_, rfl⟩
            have hchs := hch.size
            have hbwx : Below w.heap.size w wx := hbw7.trans ⟨hch.os, hch.tape, hch.output, hch.size, fun b hb => hch.block b (by omega) (by omega)⟩
            by_cases hlt : k < s.length
            · obtain ⟨a1, ea, hc1⟩ := (hu.kept (Kept.of hbwx)).at_ hlt
              cases ea
              obtain ⟨j, hj, hjn⟩ := hvert k hlt
              have hlt2 : (k : Int) < s.length := by omega
              have Hj := Lib.hid hj
              rw [hj] at hc1
              clear hj
              have hl1 := sure_take_len (f := fun v => bx r v.toNat) (l := s) (k := k)
              have hl2 := sure_take_len (f := fun v => !bx r v.toNat) (l := s) (k := k)
              have hjr : (j : Int) < r.length := by rw [Hrl.out, Hml.out]; omega
              obtain ⟨a2, ea, hc2⟩ := (OB.chg HrB.out hch fun b hb => by have := hrlt b hb; omega).bools.at_ (k := j) (by rw [Hrl.out, Hml.out]; exact hjn)
              cases ea
              have hbs : w.heap.size + 1 ≤ wx.heap.size := by omega
              have hbol := (hov.lt bo hbo).2
              have hbel := (hev.lt be hbe).2
              cases eb : bx r j
              · have Hf1 := Lib.hid (take_no (f := fun v => bx r v.toNat) hlt Hj.out (by simpa using eb))
                have Hf2 := Lib.hid (take_yes (f := fun v => !bx r v.toNat) hlt Hj.out (by simpa using eb))
                rw [eb] at hc2
                clear eb
                go_wp2_with (at_builtin; refine append_int _ rfl (.tmp 74) (.tmp 79) rfl (w.heap.size + 1) u7 _ rfl hov (j : Int) rfl (by omega) hbs ?_; intro v1 w8 ho8 hb8 hg8 hl8)
                have hev8 : OwnInts w8 (w.heap.size + 1) u6 _ := ((OI.of hev).chg (Chg.of_grown hg8) fun b hb e => by rw [hbo] at e; rw [hbe] at hb; injection e with e; injection hb with hb; have := Hne.out; omega).1
                rcases hl8 with h | h
                · exact ⟨⟨k + 1, be, bo, by omega, by go_num, by rw [Hf1.out]; exact hev8, by rw [Hf2.out]; exact ho8, hbe, by rw [h]; exact hbo, Hne, Hbe, Hbo, hch.grown hg8 fun q hq => by rw [hbo] at hq; injection hq with hq; subst hq; exact Hbo.out⟩, by simp [intOf]; omega⟩
                · exact ⟨⟨k + 1, be, wx.heap.size + 1, by omega, by go_num, by rw [Hf1.out]; exact hev8, by rw [Hf2.out]; exact ho8, hbe, h, Lib.hid (by omega), Hbe, Lib.hid (by omega), hch.grown hg8 fun q hq => by rw [hbo] at hq; injection hq with hq; subst hq; exact Hbo.out⟩, by simp [intOf]; omega⟩
              · have Hf1 := Lib.hid (take_yes (f := fun v => bx r v.toNat) hlt Hj.out (by simpa using eb))
                have Hf2 := Lib.hid (take_no (f := fun v => !bx r v.toNat) hlt Hj.out (by simpa using eb))
                rw [eb] at hc2
                clear eb
                go_wp2_with (at_builtin; refine append_int _ rfl (.tmp 67) (.tmp 72) rfl (w.heap.size + 1) u6 _ rfl hev (j : Int) rfl (by omega) hbs ?_; intro v1 w8 ho8 hb8 hg8 hl8)
                have hov8 : OwnInts w8 (w.heap.size + 1) u7 _ := ((OI.of hov).chg (Chg.of_grown hg8) fun b hb e => by rw [hbe] at e; rw [hbo] at hb; injection e with e; injection hb with hb; have := Hne.out; omega).1
                rcases hl8 with h | h
                · exact ⟨⟨k + 1, be, bo, by omega, by go_num, by rw [Hf1.out]; exact ho8, by rw [Hf2.out]; exact hov8, by rw [h]; exact hbe, hbo, Hne, Hbe, Hbo, hch.grown hg8 fun q hq => by rw [hbe] at hq; injection hq with hq; subst hq; exact Hbe.out⟩, by simp [intOf]; omega⟩
                · exact ⟨⟨k + 1, wx.heap.size + 1, bo, by omega, by go_num, by rw [Hf1.out]; exact ho8, by rw [Hf2.out]; exact hov8, h, hbo, Lib.hid (by omega), Lib.hid (by omega), Hbo, hch.grown hg8 fun q hq => by rw [hbe] at hq; injection hq with hq; subst hq; exact Hbe.out⟩, by simp [intOf]; omega⟩
            · obtain rfl : k = s.length := by omega
              have hlt2 : ¬ (s.length : Int) < s.length := by omega
              rw [Hall1.out] at hev
              rw [Hall2.out] at hov
              have h1 := hev.at_block hbe
              have h2 := hov.at_block hbo
              have hbol := (hov.lt bo hbo).2
              have hbel := (hev.lt be hbe).2
              have hne := Hne.out
              have hbe2 := Hbe.out
              have hbo2 := Hbo.out
              go_wp2
              go_ret2
              exact ⟨_, _, be, be + 1, bo, bo + 1, rfl, h1, h2, by omega, hbwx⟩
theorem markedL_len (m : List Bool) : (markedL m).length ≤ m.length := markedTo_len m m.length
theorem wonE_len (g : ParityD) (s : List Int) : (wonE g s).length ≤ 1048576 := by
  unfold wonE
  split
  · rename_i h
    rw [Bool.and_eq_true] at h
    have hok := parityOkB_iff.1 h.1
    have h1 := markedL_len (evenW (duelP g) (marksL g.arena.owner.length s))
    by_cases hx : ∃ r : List Bool, WonB (duelP g) (marksL g.arena.owner.length s) r 0
    · obtain ⟨r, hr⟩ := hx
      have h2 := evenW_len hr
      rw [length_marksL] at h2
      have := hok.arena.le
      omega
    · have h2 : evenW (duelP g) (marksL g.arena.owner.length s) = [] := by unfold evenW; rw [dif_neg hx]
      rw [h2]
      have h3 := markedL_len []
      rw [List.length_nil] at h3
      omega
  · simp
theorem wonO_len (g : ParityD) (s : List Int) : (wonO g s).length ≤ 1048576 := by
  unfold wonO
  split
  · rename_i h
    rw [Bool.and_eq_true] at h
    have hok := parityOkB_iff.1 h.1
    have h1 := markedL_len (restL (marksL g.arena.owner.length s) (evenW (duelP g) (marksL g.arena.owner.length s)))
    rw [length_restL, length_marksL] at h1
    have := hok.arena.le
    omega
  · simp
end Go.Proofs.Ytmkmghjmfaoobaa
