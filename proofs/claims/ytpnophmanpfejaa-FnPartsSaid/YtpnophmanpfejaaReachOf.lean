/- The walks of ReachOf, the program's and the reference's. No condition. -/
import Derived.Test.YtpnophmanpfejaaReachWalks
import Derived.Test.YtpnophmanpfejaaTrapWalks2
namespace Go.Proofs.Ytpnophmanpfejaa
set_option linter.unusedSimpArgs false
set_option linter.unusedVariables false
open Go.RowKit

theorem marksL_set_eq {s : List Int} {n : Nat} (hs : IsSet s n) : (fun x => bx (marksL n s) x = true) = (fun x : Nat => (x : Int) ∈ s) := by
  funext x
  apply propext
  by_cases hx : x < n
  · rw [bx_marksL hx]; simp
  · have h1 : ¬ bx (marksL n s) x = true := by simp [bx, marksL, hx]
    have h2 : ¬ (x : Int) ∈ s := fun h => by
      obtain ⟨k, hk, e⟩ := mem_ix.1 h
      have := (hs k hk).2.1
      omega
    simp [h1, h2]
noncomputable def reachS (a : ArenaD) (s : List Int) : List Bool := reachL a.next (fun _ => true) a.owner.length (fun x => (x : Int) ∈ s)
noncomputable def reachG (a : ArenaD) (s : List Int) : List Int := if arenaOkB a && isSetB s a.owner.length then markedL (reachS a s) else []
theorem reachG_len (a : ArenaD) (s : List Int) : (reachG a s).length ≤ 1048576 := by
  unfold reachG
  split
  · rename_i h
    simp only [Bool.and_eq_true] at h
    have h1 := markedTo_len (reachS a s) (reachS a s).length
    have h2 : (reachS a s).length = a.owner.length := by simp [reachS]
    have := (arenaOkB_iff.1 h.1).le
    have h3 : (markedL (reachS a s)).length ≤ (reachS a s).length := h1
    omega
  · simp

theorem below_drew1 {B : Nat} {a w : World} (h : Below B a w) : Below B a w.drew := ⟨h.os, h.tape, h.output, h.size, h.block⟩
set_option maxRecDepth 100000 in
set_option maxHeartbeats 2000000 in
theorem ReachOf_any (v : Value) (a : ArenaD) (u : Value) (s : List Int) (w : World) (hv : IsArena w v a) (hu : Ints w u s) :
    Calls Try.prog 62 #[v, u] w (RetInts w (reachG a s)) := by
  obtain ⟨o, n, rfl, hbw, hB⟩ := arena_open hv
  cases hE : arenaOkB a
  · have hres : reachG a s = [] := by unfold reachG; rw [hE]; rfl
    rw [hres]; clear hres
    go_enter Try.func62, Try.ntmps62
    have hBz := hB.lt
    have hBc0 := hB.c0
    have hBc1 := hB.c1
    go_wp2_with fail
    refine (ArenaOk_any _ a _ (hv.kept (Kept.of hbw))).mono ?_
    rintro e w1 ⟨rfl, hb1⟩
    clear hBc0 hBc1 hBz
    replace hB := hB.below hb1 hB.lt
    replace hbw := Below.up hbw hb1
    have hb1s := hb1.size
    clear hb1
    have hBz := hB.lt
    have hBc0 := hB.c0
    have hBc1 := hB.c1
    go_wp2
    go_ret
    exact .mk' (OwnInts.nil _ _) hbw
  · have hok := arenaOkB_iff.1 hE
    cases hE2 : isSetB s a.owner.length
    · have hres : reachG a s = [] := by unfold reachG; rw [hE, hE2]; rfl
      rw [hres]; clear hres
      go_enter Try.func62, Try.ntmps62
      have hBz := hB.lt
      have hBc0 := hB.c0
      have hBc1 := hB.c1
      go_wp2_with fail
      refine (ArenaOk_any _ a _ (hv.kept (Kept.of hbw))).mono ?_
      rintro e w1 ⟨rfl, hb1⟩
      clear hBc0 hBc1 hBz
      replace hB := hB.below hb1 hB.lt
      replace hbw := Below.up hbw hb1
      have hb1s := hb1.size
      clear hb1
      have hBz := hB.lt
      have hBc0 := hB.c0
      have hBc1 := hB.c1
      go_wp2_with fail
      refine (size_any _ a _ (hv.kept (Kept.of hbw))).mono ?_
      rintro e w2 ⟨rfl, hb2⟩
      clear hBc0 hBc1 hBz
      replace hB := hB.below hb2 hB.lt
      replace hbw := Below.up hbw hb2
      have hb2s := hb2.size
      clear hb2
      have hBz := hB.lt
      have hBc0 := hB.c0
      have hBc1 := hB.c1
      go_wp2_with fail
      refine (same_below (isSet_any _ s (a.owner.length : Int) _ (hu.kept (Kept.of hbw)))).mono ?_
      rintro e w3 ⟨rfl, hb3⟩
      clear hBc0 hBc1 hBz
      replace hB := hB.below hb3 hB.lt
      replace hbw := Below.up hbw hb3
      have hb3s := hb3.size
      clear hb3
      have hBz := hB.lt
      have hBc0 := hB.c0
      have hBc1 := hB.c1
      go_wp2
      go_ret
      exact .mk' (OwnInts.nil _ _) hbw
    · have hset := isSetB_iff.1 hE2
      have hres : reachG a s = markedL (reachL a.next (fun _ => true) a.owner.length (fun x => bx (marksL a.owner.length s) x = true)) := by unfold reachG reachS; rw [hE, hE2, marksL_set_eq hset]; rfl
      rw [hres]; clear hres
      have hle := hok.le
      go_enter Try.func62, Try.ntmps62
      have hBz := hB.lt
      have hBc0 := hB.c0
      have hBc1 := hB.c1
      go_wp2_with fail
      refine (ArenaOk_any _ a _ (hv.kept (Kept.of hbw))).mono ?_
      rintro e w1 ⟨rfl, hb1⟩
      clear hBc0 hBc1 hBz
      replace hB := hB.below hb1 hB.lt
      replace hbw := Below.up hbw hb1
      have hb1s := hb1.size
      clear hb1
      have hBz := hB.lt
      have hBc0 := hB.c0
      have hBc1 := hB.c1
      go_wp2_with fail
      refine (size_any _ a _ (hv.kept (Kept.of hbw))).mono ?_
      rintro e w2 ⟨rfl, hb2⟩
      clear hBc0 hBc1 hBz
      replace hB := hB.below hb2 hB.lt
      replace hbw := Below.up hbw hb2
      have hb2s := hb2.size
      clear hb2
      have hBz := hB.lt
      have hBc0 := hB.c0
      have hBc1 := hB.c1
      go_wp2_with fail
      refine (same_below (isSet_any _ s (a.owner.length : Int) _ (hu.kept (Kept.of hbw)))).mono ?_
      rintro e w3 ⟨rfl, hb3⟩
      clear hBc0 hBc1 hBz
      replace hB := hB.below hb3 hB.lt
      replace hbw := Below.up hbw hb3
      have hb3s := hb3.size
      clear hb3
      have hBz := hB.lt
      have hBc0 := hB.c0
      have hBc1 := hB.c1
      go_wp2_with fail
      clear hE hE2
      have hd : Below w3.heap.size w3 w3.drew := below_drew1 (Below.refl _ _)
      have hc1 := markOf_any _ a _ s w3.drew ((hv.kept (Kept.of hbw)).kept (Kept.of hd)) ((hu.kept (Kept.of hbw)).kept (Kept.of hd)) hset.vert (by omega)
      have Hc1 := Lib.hid hc1
      have Hc2 := Lib.hid (fun (z : Value) (m : List Bool) (W : World) (hW : Below w3.heap.size w3 W) (hz : Bools W z m) (hm : m.length = a.owner.length) => reachIn_nil _ a z m W ((hv.kept (Kept.of hbw)).kept (Kept.of hW)) hz hok hm)
      have HS := Lib.hid (fun W (hW : Below w3.heap.size w3 W) => (show W.cell? ⟨w.heap.size, 0, none⟩ = some o ∧ W.cell? ⟨w.heap.size, 1, none⟩ = some n from ⟨(hB.below hW hB.lt).c0, (hB.below hW hB.lt).c1⟩))
      clear hc1
      go_region_held3 (fun W => W.cell? ⟨w.heap.size, 0, none⟩ = some o ∧ W.cell? ⟨w.heap.size, 1, none⟩ = some n)
        (first | exact HS.out _ hd | exact HS.out _ hb4 | exact HS.out _ hb5 | exact HS.out _ hb6)
        (first | (go_at_call 118; refine Hc1.out.mono ?_; rintro e w4 ⟨u4, rfl, hm4, hb4⟩; have hb4 : Below w3.heap.size w3 w4 := below_of_drew hb4; obtain ⟨A4, c4, e4, _⟩ := hm4.bools.form; subst e4; rw [length_marksL] at hm4) | (go_at_call 117; refine (Hc2.out _ _ _ hb4 hm4.bools (length_marksL _ _)).mono ?_; rintro e w5 ⟨u5, rfl, hm5, hb5⟩; replace hb5 : Below w3.heap.size w3 w5 := Below.up hb4 hb5; obtain ⟨A5, c5, e5, _⟩ := hm5.bools.form; subst e5; rw [length_reachL] at hm5) | (go_at_call 116; refine (listOf_any _ _ _ hm5.bools (by simp; omega)).mono ?_; rintro e w6 ⟨u6, rfl, hm6, hb6⟩; replace hb6 : Below w3.heap.size w3 w6 := Below.up hb5 hb6; obtain ⟨A6, c6, e6, _⟩ := hm6.ints.form; subst e6))
      go_wp2
      go_ret
      exact .mk' (hm6.more (by have := hbw.size; have := hb5.size; omega)) (Below.up hbw hb6)

theorem reach_beyond {next : List (List Int)} {n : Nat} {S : Nat → Prop} (hn : next.length = n) (hv : ∀ k, k < n → Vert (rx next k) n) (x : Nat) :
    Reached next (fun _ => true) S x ↔ (S x ∨ Beyond next (bx (List.replicate n true)) S x) := by
  have hst : ∀ u y, StepIn next (fun _ => true) u y → StepIn next (bx (List.replicate n true)) u y := fun u y h => by
    have hu : u < n := by
      rcases Nat.lt_or_ge u n with h1 | h1
      · exact h1
      · have : rx next u = [] := by simp [rx, List.getD, List.getElem?_eq_none (by omega : next.length ≤ u)]
        have h2 := h.1
        rw [this] at h2
        cases h2
    obtain ⟨k, hk, e⟩ := mem_ix.1 h.1
    obtain ⟨j, e2, hj⟩ := hv u hu k hk
    have : y = j := by omega
    subst this
    exact ⟨h.1, by simp [bx, hj]⟩
  constructor
  · rintro ⟨u, hu, hw⟩
    induction hw with
    | refl => exact .inl hu
    | tail _ s ih => exact .inr (Beyond.step ih (hst _ _ s))
  · rintro (h | ⟨u, y, hu, s, hw⟩)
    · exact ⟨x, h, .refl _⟩
    · exact ⟨u, hu, Ways.head ⟨s.1, rfl⟩ (hw.mono fun _ _ s => ⟨s.1, rfl⟩)⟩

set_option maxRecDepth 100000 in
set_option maxHeartbeats 2000000 in
theorem specReachOf_any (v : Value) (a : ArenaD) (u : Value) (s : List Int) (w : World) (hv : IsArena w v a) (hu : Ints w u s) :
    Calls Try.prog 63 #[v, u] w (RetInts w (reachG a s)) := by
  obtain ⟨o, n, rfl, hbw, hB⟩ := arena_open hv
  obtain ⟨ho, hn⟩ := hv.parts
  obtain ⟨A, c, rfl, hlc, hcm⟩ := ho.form
  obtain ⟨A', c', rfl, hlc', hcm'⟩ := hn.form
  obtain ⟨US, uc, rfl, huc, hum⟩ := hu.form
  have hlo : (a.owner.length : Int) ≤ 9223372036854775807 := by omega
  cases hE : arenaOkB a
  · have hres : reachG a s = [] := by unfold reachG; rw [hE]; rfl
    rw [hres]; clear hres
    go_enter Try.func63, Try.ntmps63
    have hBz := hB.lt
    have hBc0 := hB.c0
    have hBc1 := hB.c1
    go_wp2_with fail
    refine (specArenaOk_any _ a _ (hv.kept (Kept.of hbw))).mono ?_
    rintro e w1 ⟨rfl, hb1⟩
    clear hBc0 hBc1 hBz
    replace hB := hB.below hb1 hB.lt
    replace hbw := Below.up hbw hb1
    have hb1s := hb1.size
    clear hb1
    have hBz := hB.lt
    have hBc0 := hB.c0
    have hBc1 := hB.c1
    obtain ⟨hown, hbn⟩ := new_ints w1
    go_wp2
    go_ret
    exact .mk' (hown.more hbw.size) (Below.up hbw hbn)
  · have hok := arenaOkB_iff.1 hE
    cases hE2 : isSetB s a.owner.length
    · have hres : reachG a s = [] := by unfold reachG; rw [hE, hE2]; rfl
      rw [hres]; clear hres
      go_enter Try.func63, Try.ntmps63
      have hBz := hB.lt
      have hBc0 := hB.c0
      have hBc1 := hB.c1
      go_wp2_with fail
      refine (specArenaOk_any _ a _ (hv.kept (Kept.of hbw))).mono ?_
      rintro e w1 ⟨rfl, hb1⟩
      clear hBc0 hBc1 hBz
      replace hB := hB.below hb1 hB.lt
      replace hbw := Below.up hbw hb1
      have hb1s := hb1.size
      clear hb1
      have hBz := hB.lt
      have hBc0 := hB.c0
      have hBc1 := hB.c1
      go_wp2_with fail
      refine (drew_below (l1Set_any _ s (a.owner.length : Int) _ (hu.kept (Kept.of hbw)) (by omega) (by omega))).mono ?_
      rintro e w2 ⟨rfl, hb2⟩
      clear hBc0 hBc1 hBz
      replace hB := hB.below hb2 hB.lt
      replace hbw := Below.up hbw hb2
      have hb2s := hb2.size
      clear hb2
      have hBz := hB.lt
      have hBc0 := hB.c0
      have hBc1 := hB.c1
      obtain ⟨hown, hbn⟩ := new_ints w2
      go_wp2
      go_ret
      exact .mk' (hown.more hbw.size) (Below.up hbw hbn)
    · have hset := isSetB_iff.1 hE2
      have hres : reachG a s = markedL (reachS a s) := by unfold reachG; rw [hE, hE2]; rfl
      rw [hres]; clear hres
      have hle := hok.le
      have hsl := hset.length_le
      have Hlen := Lib.hid hok.len
      go_enter Try.func63, Try.ntmps63
      have hBz := hB.lt
      have hBc0 := hB.c0
      have hBc1 := hB.c1
      go_wp2_with fail
      refine (specArenaOk_any _ a _ (hv.kept (Kept.of hbw))).mono ?_
      rintro e w1 ⟨rfl, hb1⟩
      clear hBc0 hBc1 hBz
      replace hB := hB.below hb1 hB.lt
      replace hbw := Below.up hbw hb1
      have hb1s := hb1.size
      clear hb1
      have hBz := hB.lt
      have hBc0 := hB.c0
      have hBc1 := hB.c1
      go_wp2_with fail
      refine (drew_below (l1Set_any _ s (a.owner.length : Int) _ (hu.kept (Kept.of hbw)) (by omega) (by omega))).mono ?_
      rintro e w2 ⟨rfl, hb2⟩
      clear hBc0 hBc1 hBz
      replace hB := hB.below hb2 hB.lt
      replace hbw := Below.up hbw hb2
      have hb2s := hb2.size
      clear hb2
      have hBz := hB.lt
      have hBc0 := hB.c0
      have hBc1 := hB.c1
      go_wp2_with fail
      clear hE hE2
      have hn256 : a.next.length ≤ 256 := by rw [Hlen.out]; exact hle
      have hd : Below w2.heap.size w2 w2.drew := below_drew1 (Below.refl _ _)
      have Hc1 := Lib.hid (l1Everywhere_any a.next.length w2.drew (by omega))
      have Hc2 := Lib.hid (fun (z : Value) (m : List Bool) (W : World) (hW : Below w2.heap.size w2 W) (hz : Bools W z m) (hm : m.length = a.next.length) => l1Beyond_any _ a.next z m _ s W ((hn.kept (Kept.of hbw)).kept (Kept.of hW)) hz ((hu.kept (Kept.of hbw)).kept (Kept.of hW)) hm (fun k hk => by rw [Hlen.out] at hk ⊢; exact (hok.set hk).vert) (by rw [Hlen.out]; exact hset.vert) hn256 (by omega))
      have HS := Lib.hid (fun W (hW : Below w2.heap.size w2 W) => (show W.cell? ⟨w.heap.size, 1, none⟩ = some (.slice A' a.next.length c') from (hB.below hW hB.lt).c1))
      go_region_held3 (fun W => W.cell? ⟨w.heap.size, 1, none⟩ = some (.slice A' a.next.length c'))
        (first | exact HS.out _ hd | exact HS.out _ hb4 | exact HS.out _ hb5)
        (first | (go_at_call 119; refine Hc1.out.mono ?_; rintro e w4 ⟨u4, rfl, hm4, hb4⟩; have hb4 : Below w2.heap.size w2 w4 := below_of_drew hb4; obtain ⟨A4, c4, e4, _⟩ := hm4.bools.form; subst e4; rw [List.length_replicate] at hm4) | (go_at_call 88; refine (Hc2.out _ _ _ hb4 hm4.bools (by simp)).mono ?_; rintro e w5 ⟨u5, rfl, hm5, hb5⟩; replace hm5 := hm5.more hb4.size; replace hb5 : Below w2.heap.size w2 w5 := Below.up hb4 hb5; obtain ⟨g5, c5, e5, hg5, _⟩ := OwnBools.form hm5 (by simp; rw [Hlen.out]; exact hok.pos); subst e5; rw [length_beyondL] at hm5))
      have hbw5 := Below.up hbw hb5
      have hw2 := hbw.size
      have hm5' : OwnBools w5 w2.heap.size (.slice (some ⟨g5, 0, none⟩) a.next.length c5) (beyondL a.next (bx (List.replicate a.next.length true)) a.next.length (fun x => (x : Int) ∈ s)) := hm5
      clear hm5 HS Hc1 Hc2 hb4 hb5 hm4
      clear hBc0 hBc1 hBz
      go_wp2
      go_loopw [7] (fun i wr => ∃ (k : Nat) (m : List Bool), k ≤ s.length ∧ i = .int .i64 k ∧ OwnBools wr w2.heap.size (.slice (some ⟨g5, 0, none⟩) a.next.length c5) m ∧ Hid (m.length = a.next.length) ∧ Hid (∀ x, x < a.next.length → (bx m x = true ↔ ((x : Int) ∈ s.take k ∨ Beyond a.next (bx (List.replicate a.next.length true)) (fun x => (x : Int) ∈ s) x))) ∧ Below w.heap.size w wr) (fun i _ => s.length - (intOf i).toNat)
      case atStart => exact ⟨0, _, Nat.zero_le _, rfl, hm5', Lib.hid (by simp), Lib.hid (fun x hx => by rw [bx_beyondL hx]; simp), hbw5⟩
      case round =>
        obtain ⟨k, m, hk, rfl, hM, Hml, Hm, hbr⟩ := hrel
        by_cases hlt : k < s.length
        · obtain ⟨a1, ea, hc1⟩ := (hu.kept (Kept.of hbr)).at_ hlt
          subst ea
          obtain ⟨j, hj, hjn⟩ := hset.vert k hlt
          have Hj := Lib.hid hj
          rw [hj] at hc1
          clear hj
          have hjn2 : j < a.next.length := by rw [Hlen.out]; exact hjn
          have hc2 := hM.cell (k := j) (by rw [Hml.out]; exact hjn2)
          have hf2 := hM.frozen Hml.out.symm j
          have hs2 := hM.set_ Hml.out.symm j true
          have hjn' : (j : Int) < a.next.length := by omega
          have hlt' : (k : Int) < s.length := by omega
          go_wp2
          refine ⟨⟨k + 1, _, by omega, by go_num, hs2, Lib.hid (by rw [List.length_set]; exact Hml.out), Lib.hid (fun x hx => ?_), hbr.setCell (by simp; omega) _⟩, by simp [intOf]; omega⟩
          rw [bx_set (by rw [Hml.out]; exact hjn2), take_ix hlt, Hj.out]
          by_cases e : x = j
          · subst e; simp
          · rw [if_neg e, Hm.out x hx]
            have : ¬ (x : Int) = (j : Int) := by omega
            simp [this]
        · obtain rfl : k = s.length := by omega
          have hmm : m = reachS a s := bools_ext' (by rw [Hml.out]; simp [reachS]; exact Hlen.out) fun x hx => by
            have hx' : x < a.owner.length := by simpa [reachS] using hx
            rw [Hm.out x (by rw [Hlen.out]; exact hx'), List.take_length]
            unfold reachS
            rw [bx_reachL hx', reach_beyond (n := a.next.length) rfl (fun k hk => by rw [Hlen.out] at hk ⊢; exact (hok.set hk).vert)]
          subst hmm
          go_wp2_with fail
          refine (l1Marked_any _ _ _ hM.bools (by rw [Hml.out]; omega)).mono ?_
          rintro e w9 ⟨u9, rfl, ho9, hb9⟩
          go_wp2
          go_ret
          exact .at_ hbr ho9 hb9
end Go.Proofs.Ytpnophmanpfejaa
