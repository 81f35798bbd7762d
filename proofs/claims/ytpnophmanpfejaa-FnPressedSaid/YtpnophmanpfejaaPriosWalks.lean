/- The walks of PriosIn, of the program and of the reference. -/
import Derived.Test.YtpnophmanpfejaaSortWalks
import Derived.Test.YtpnophmanpfejaaPriosPlain
import Derived.Test.YtpnophmanpfejaaPkB
import Derived.Deep.RegionHeld3
namespace Go.Proofs.Ytpnophmanpfejaa
set_option linter.unusedSimpArgs false
set_option linter.unusedVariables false
open Go.RowKit Go.Sort

theorem Compact_any (B : Nat) (v : Value) (l : List Int) (w : World) (hown : OwnInts w B v l) (hl : l.length ≤ 1099511627776) :
    Calls Try.prog 131 #[v] w fun e w' => ∃ u, e = .returned u ∧ OwnInts w' B u (Lib.compact l) ∧ w.grownBy w' v.ownBlock := by
  have hc := hown
  by_cases hl0 : l = []
  · subst hl0
    obtain ⟨A, c, rfl, _⟩ := hown.ints.form
    refine (Try.slices_Compact_int_empty A c w).mono ?_
    rintro e w' ⟨rfl, hw⟩
    subst w'
    exact ⟨_, rfl, hc, World.grownBy.refl _ _⟩
  rcases hown.2 with ⟨rfl, h0⟩ | ⟨g, cap, cur, rfl, hB, hg, hnc, hcm, hsz, htake⟩
  · exact absurd (List.eq_nil_of_length_eq_zero h0) hl0
  have hglt : g < w.heap.size := (Array.getElem?_eq_some_iff.1 hg).1
  have hH : Holds (Value.int .i64) w g 0 l.toArray := fun j hj => by
    have hj' : j < l.length := by simpa using hj
    refine ⟨?_, frozen_of_row w g _ _ _ hg⟩
    have := hc.cells (g := g) rfl j (.int .i64 l[j]) (by simp [hj'])
    rw [Nat.zero_add]
    have e : ((⟨g, 0, none⟩ : Addr).add j) = ⟨g, j, none⟩ := by unfold Addr.add; split <;> simp_all
    rw [e] at this
    rw [this]
    simp [hj']
  refine (Try.slices_Compact_int g 0 cap l w hH (by omega) hnc).mono ?_
  rintro e w' ⟨rfl, n, rfl⟩
  have hg1 : (Sort.ahead w n).heap[g]? = some (.cells cur 2 (0, 0)) := hg
  have hlen : (Lib.compact l).length ≤ l.length := compact_len l
  refine ⟨_, rfl, ⟨by simp, .inr ⟨g, cap, _, rfl, hB, heap_putRow _ _ _ _ hg1, by omega, hcm, by simp [putCells, hsz], ?_⟩⟩, ⟨rfl, rfl, rfl, by simp, fun k hk hne => ?_⟩⟩
  · apply List.ext_getElem
    · simp [putCells, hsz]; omega
    · intro i h1 h2
      have hi : i < (Lib.compact l).length := by simpa using h2
      have hil : i < l.length := by omega
      simp [putCells, hi, hil, List.getElem?_append_left hi]
      omega
  · have hkg : k ≠ g := fun e => hne (by rw [e]; rfl)
    exact heap_putRow_other _ _ _ _ hkg

theorem OwnInts.some2 {b : Nat} {v v' : Value} (h : v'.ownBlock = v.ownBlock ∨ v'.ownBlock = some b) (hv : v.ownBlock ≠ none) : v'.ownBlock ≠ none := by
  rcases h with h | h
  · rw [h]; exact hv
  · rw [h]; simp
def priosG (g : ParityD) (l : List Int) : List Int := if parityOkB g && isSetB l g.arena.owner.length then priosL g.prio l else []
theorem map_take_prio {prio l : List Int} {k j : Nat} (hk : k < l.length) (hj : ix l k = (j : Int)) : (l.take (k + 1)).map (fun x => ix prio x.toNat) = (l.take k).map (fun x => ix prio x.toNat) ++ [ix prio j] := by
  rw [take_ix hk, List.map_append, hj]; rfl
theorem len_map_take (l : List Int) (f : Int → Int) (k : Nat) : ((l.take k).map f).length ≤ l.length := by rw [List.length_map, List.length_take]; omega

set_option maxHeartbeats 1000000 in
theorem priosIn_any (v : Value) (g : ParityD) (u : Value) (l : List Int) (w : World) (hv : IsParity w v g) (hu : Ints w u l) (hr : ∀ k, k < l.length → ∃ j : Nat, ix l k = (j : Int) ∧ j < g.prio.length) (hl : l.length ≤ 1048576) :
    Calls Try.prog 77 #[v, u] w (RetInts w (priosL g.prio l)) := by
  obtain ⟨o, n, p, rfl, hbw, hB⟩ := parity_box hv
  obtain ⟨ha, hp⟩ := hv.parts
  obtain ⟨A, c, rfl, hlc, hcm⟩ := hp.form
  obtain ⟨A', c', rfl, hlc', hcm'⟩ := hu.form
  obtain ⟨hown, hbn⟩ := new_ints (w.alloc (.cells #[o, n, .slice A g.prio.length c] 32))
  have hsz := Lib.hid (show (w.alloc (.cells #[o, n, .slice A g.prio.length c] 32)).heap.size = w.heap.size + 1 by simp)
  have hres := Lib.hid (show priosL g.prio l = Lib.compact (sortL (l.map fun x => ix g.prio x.toNat)) from (compact_sortL _).symm)
  generalize priosL g.prio l = R at *
  have hw0 := hbw.size
  go_enter Try.func77, Try.ntmps77
  go_wp2
  have hnn0 : (Value.slice (some ⟨(w.alloc (.cells #[o, n, .slice A g.prio.length c] 32)).heap.size, 0, none⟩) 0 0).ownBlock ≠ none := by simp [Value.ownBlock]
  generalize w.alloc (.cells #[o, n, .slice A g.prio.length c] 32) = w0 at *
  generalize w0.alloc (.cells #[] 2) = w1 at *
  have hbw00 := Lib.hid hbw
  go_loopw [5, 11] (fun v i wr => ∃ k : Nat, k ≤ l.length ∧ i = .int .i64 k ∧ OwnInts wr w0.heap.size v ((l.take k).map fun v => ix g.prio v.toNat) ∧ Below w0.heap.size w0 wr ∧ v.ownBlock ≠ none) (fun _ i _ => l.length - (intOf i).toNat)
  case atStart => exact ⟨0, Nat.zero_le _, rfl, by rw [← hsz.out]; simpa using hown, hbn, by rw [← hsz.out]; exact hnn0⟩
  case round =>
    obtain ⟨k, hk, rfl, hown, hbr, hnn⟩ := hrel
    have hbs := hbr.size
    replace hB := hB.below hbr hB.lt
    replace hbw := Below.up hbw hbr
    have hbrs := hbr.size
    have hBc2 := hB.c2
    by_cases hlt : k < l.length
    · have hu1 := (hu.kept (Kept.of hbw))
      have hp1 := (hp.kept (Kept.of hbw))
      obtain ⟨a1, rfl, hc1⟩ := hu1.at_ hlt
      obtain ⟨j, hj, hjl⟩ := hr k hlt
      obtain ⟨a2, rfl, hc2⟩ := hp1.at_ hjl
      have hlen := len_map_take l (fun v => ix g.prio v.toNat) k
      have Hs := Lib.hid (map_take_prio (prio := g.prio) hlt hj)
      rw [hj] at hc1
      have hjl' : (j : Int) < g.prio.length := by omega
      clear hj
      go_wp2_with (at_builtin; refine append_int _ rfl (.tmp 15) (.tmp 21) rfl w0.heap.size u5 _ rfl hown (ix g.prio j) rfl (by omega) hbs ?_; intro v1 w1 ho1 hb1 hg1 hl1)
      exact ⟨⟨k + 1, by omega, by go_num, by rw [Hs.out]; exact ho1, hbr.trans hb1, OwnInts.some2 hl1 hnn⟩, by simp [intOf]; omega⟩
    · obtain rfl : k = l.length := by omega
      rw [List.take_length] at hown
      go_wp2_with (first
        | (go_at_call 130; refine (Sort_any _ _ _ _ hown hnn (by simp; omega)).mono ?_; rintro e w4 ⟨rfl, ho4, hg4⟩)
        | (go_at_call 131; refine (Compact_any _ _ _ _ ho4 (by simp; omega)).mono ?_; rintro e w5 ⟨v5, rfl, ho5, hg5⟩))
      go_ret
      rw [hres.out]
      have hb4 : Below w0.heap.size w0 w4 := hbr.grown hg4 hbs fun k hk => (hown.lt k hk).1
      have hb5 : Below w0.heap.size w0 w5 := hb4.grown hg5 hb4.size fun k hk => (ho4.lt k hk).1
      exact .at_ hbw00.out ho5 hb5

set_option maxHeartbeats 1000000 in
theorem PriosIn_any (v : Value) (g : ParityD) (u : Value) (l : List Int) (w : World) (hv : IsParity w v g) (hu : Ints w u l) (hl : l.length ≤ 1048576) :
    Calls Try.prog 19 #[v, u] w (RetInts w (priosG g l)) := by
  obtain ⟨o, n, p, rfl, hbw, hB⟩ := parity_box hv
  obtain ⟨ha, hp⟩ := hv.parts
  cases hE : parityOkB g
  · have hres : priosG g l = [] := by unfold priosG; rw [hE]; rfl
    rw [hres]; clear hres
    go_enter Try.func19, Try.ntmps19
    have hBz := hB.lt
    have hBc0 := hB.c0
    have hBc1 := hB.c1
    have hBc2 := hB.c2
    go_wp2_with fail
    refine (ParityOk_any _ g _ (hv.kept (Kept.of hbw))).mono ?_
    rintro e w1 ⟨rfl, hb1⟩
    clear hBc0 hBc1 hBc2 hBz
    replace hB := hB.below hb1 hB.lt
    replace hbw := Below.up hbw hb1
    have hb1s := hb1.size
    clear hb1
    have hBz := hB.lt
    have hBc0 := hB.c0
    have hBc1 := hB.c1
    have hBc2 := hB.c2
    go_wp2
    go_ret
    exact .mk' (OwnInts.nil _ _) hbw
  · have hok := parityOkB_iff.1 hE
    cases hE2 : isSetB l g.arena.owner.length
    · have hres : priosG g l = [] := by unfold priosG; rw [hE, hE2]; rfl
      rw [hres]; clear hres
      go_enter Try.func19, Try.ntmps19
      have hBz := hB.lt
      have hBc0 := hB.c0
      have hBc1 := hB.c1
      have hBc2 := hB.c2
      go_wp2_with fail
      refine (ParityOk_any _ g _ (hv.kept (Kept.of hbw))).mono ?_
      rintro e w1 ⟨rfl, hb1⟩
      clear hBc0 hBc1 hBc2 hBz
      replace hB := hB.below hb1 hB.lt
      replace hbw := Below.up hbw hb1
      have hb1s := hb1.size
      clear hb1
      have hBz := hB.lt
      have hBc0 := hB.c0
      have hBc1 := hB.c1
      have hBc2 := hB.c2
      go_wp2_with fail
      refine (size_any _ g.arena _ (ha.kept (Kept.of hbw))).mono ?_
      rintro e w2 ⟨rfl, hb2⟩
      clear hBc0 hBc1 hBc2 hBz
      replace hB := hB.below hb2 hB.lt
      replace hbw := Below.up hbw hb2
      have hb2s := hb2.size
      clear hb2
      have hBz := hB.lt
      have hBc0 := hB.c0
      have hBc1 := hB.c1
      have hBc2 := hB.c2
      go_wp2_with fail
      refine (same_below (isSet_any _ l _ _ (hu.kept (Kept.of hbw)))).mono ?_
      rintro e w3 ⟨rfl, hb3⟩
      clear hBc0 hBc1 hBc2 hBz
      replace hB := hB.below hb3 hB.lt
      replace hbw := Below.up hbw hb3
      have hb3s := hb3.size
      clear hb3
      have hBz := hB.lt
      have hBc0 := hB.c0
      have hBc1 := hB.c1
      have hBc2 := hB.c2
      go_wp2
      go_ret
      exact .mk' (OwnInts.nil _ _) hbw
    · have hres : priosG g l = priosL g.prio l := by unfold priosG; rw [hE, hE2]; rfl
      have hr : ∀ k, k < l.length → ∃ j : Nat, ix l k = (j : Int) ∧ j < g.prio.length := fun k hk => by rw [hok.len]; exact (isSetB_iff.1 hE2).at_ hk
      rw [hres]; clear hres
      go_enter Try.func19, Try.ntmps19
      have hBz := hB.lt
      have hBc0 := hB.c0
      have hBc1 := hB.c1
      have hBc2 := hB.c2
      go_wp2_with fail
      refine (ParityOk_any _ g _ (hv.kept (Kept.of hbw))).mono ?_
      rintro e w1 ⟨rfl, hb1⟩
      clear hBc0 hBc1 hBc2 hBz
      replace hB := hB.below hb1 hB.lt
      replace hbw := Below.up hbw hb1
      have hb1s := hb1.size
      clear hb1
      have hBz := hB.lt
      have hBc0 := hB.c0
      have hBc1 := hB.c1
      have hBc2 := hB.c2
      go_wp2_with fail
      refine (size_any _ g.arena _ (ha.kept (Kept.of hbw))).mono ?_
      rintro e w2 ⟨rfl, hb2⟩
      clear hBc0 hBc1 hBc2 hBz
      replace hB := hB.below hb2 hB.lt
      replace hbw := Below.up hbw hb2
      have hb2s := hb2.size
      clear hb2
      have hBz := hB.lt
      have hBc0 := hB.c0
      have hBc1 := hB.c1
      have hBc2 := hB.c2
      go_wp2_with fail
      refine (same_below (isSet_any _ l _ _ (hu.kept (Kept.of hbw)))).mono ?_
      rintro e w3 ⟨rfl, hb3⟩
      clear hBc0 hBc1 hBc2 hBz
      replace hB := hB.below hb3 hB.lt
      replace hbw := Below.up hbw hb3
      have hb3s := hb3.size
      clear hb3
      have hBz := hB.lt
      have hBc0 := hB.c0
      have hBc1 := hB.c1
      have hBc2 := hB.c2
      go_wp2_with fail
      refine (priosIn_any _ g _ l _ (hv.kept (Kept.of hbw)) (hu.kept (Kept.of hbw)) hr hl).mono ?_
      rintro e w9 ⟨u9, rfl, ho9, hb9⟩
      go_wp2
      go_ret
      exact .at_ hbw ho9 hb9

set_option maxHeartbeats 1000000 in
theorem l4Prios_any (v : Value) (g : ParityD) (u : Value) (l : List Int) (w : World) (hv : IsParity w v g) (hu : Ints w u l) (hr : ∀ k, k < l.length → ∃ j : Nat, ix l k = (j : Int) ∧ j < g.prio.length) (hl : l.length ≤ 1048576) :
    Calls Try.prog 73 #[v, u] w (RetInts w (priosL g.prio l)) := by
  obtain ⟨o, n, p, rfl, hbw, hB⟩ := parity_box hv
  obtain ⟨ha, hp⟩ := hv.parts
  obtain ⟨A, c, rfl, hlc, hcm⟩ := hp.form
  obtain ⟨A', c', rfl, hlc', hcm'⟩ := hu.form
  obtain ⟨hown, hbn⟩ := new_ints (w.alloc (.cells #[o, n, .slice A g.prio.length c] 32))
  have hsz := Lib.hid (show (w.alloc (.cells #[o, n, .slice A g.prio.length c] 32)).heap.size = w.heap.size + 1 by simp)
  have hres := Lib.hid (show priosL g.prio l = intoAll [] (l.map fun x => ix g.prio x.toNat) from rfl)
  generalize priosL g.prio l = R at *
  have hw0 := hbw.size
  go_enter Try.func73, Try.ntmps73
  go_wp2
  generalize w.alloc (.cells #[o, n, .slice A g.prio.length c] 32) = w0 at *
  generalize w0.alloc (.cells #[] 2) = w1 at *
  go_loopw [5, 6] (fun v i wr => ∃ k : Nat, k ≤ l.length ∧ i = .int .i64 k ∧ OwnInts wr w0.heap.size v (intoAll [] ((l.take k).map fun v => ix g.prio v.toNat)) ∧ Below w0.heap.size w0 wr) (fun _ i _ => l.length - (intOf i).toNat)
  case atStart => exact ⟨0, Nat.zero_le _, rfl, by rw [← hsz.out]; simpa [intoAll] using hown, hbn⟩
  case round =>
    obtain ⟨k, hk, rfl, hown, hbr⟩ := hrel
    have hbs := hbr.size
    replace hB := hB.below hbr hB.lt
    replace hbw := Below.up hbw hbr
    have hbrs := hbr.size
    have hBc2 := hB.c2
    by_cases hlt : k < l.length
    · have hu1 := (hu.kept (Kept.of hbw))
      have hp1 := (hp.kept (Kept.of hbw))
      obtain ⟨a1, rfl, hc1⟩ := hu1.at_ hlt
      obtain ⟨j, hj, hjl⟩ := hr k hlt
      obtain ⟨a2, rfl, hc2⟩ := hp1.at_ hjl
      have hlen : (intoAll [] ((l.take k).map fun v => ix g.prio v.toNat)).length ≤ 1048576 := by
        have h1 := intoAll_len [] ((l.take k).map fun v => ix g.prio v.toNat)
        have h2 := len_map_take l (fun v => ix g.prio v.toNat) k
        simp only [List.length_nil, Nat.zero_add] at h1
        omega
      have Hs := Lib.hid (show intoAll [] ((l.take (k + 1)).map fun v => ix g.prio v.toNat) = intoL (intoAll [] ((l.take k).map fun v => ix g.prio v.toNat)) (ix g.prio j) by
        rw [map_take_prio (prio := g.prio) hlt hj]; unfold intoAll; rw [List.foldl_append]; rfl)
      rw [hj] at hc1
      have hjl' : (j : Int) < g.prio.length := by omega
      clear hj
      go_wp2
      generalize intoAll [] ((l.take k).map fun v => ix g.prio v.toNat) = acc at *
      go_region_held3 (fun W => W.cell? ⟨w.heap.size, 2, none⟩ = some (.slice (some a2) g.prio.length c) ∧ W.cell? (a1.add k) = some (.int .i64 j) ∧ W.cell? (a2.add j) = some (.int .i64 (ix g.prio j)))
        (first | exact ⟨hBc2, hc1, hc2⟩ | exact ⟨(Kept.of hb2).cell hBc2, (Kept.of hb2).cell hc1, (Kept.of hb2).cell hc2⟩)
        (first | (go_at_call 129; refine (l1Into_any w0.heap.size _ acc (ix g.prio j) _ hown.drew hbs hlen).mono ?_; rintro e w2 ⟨v2, rfl, ho2, hb2⟩))
      go_wp2
      exact ⟨⟨k + 1, by omega, by go_num, by rw [Hs.out]; exact ho2, hbr.trans ((below_of_drew hb2).mono hbs)⟩, by simp [intOf]; omega⟩
    · obtain rfl : k = l.length := by omega
      rw [List.take_length] at hown
      go_wp2
      go_ret
      exact .mk' (by rw [hres.out]; exact hown.more (by omega)) hbw

set_option maxHeartbeats 1000000 in
theorem specPriosIn_any (v : Value) (g : ParityD) (u : Value) (l : List Int) (w : World) (hv : IsParity w v g) (hu : Ints w u l) (hl : l.length ≤ 1048576) :
    Calls Try.prog 16 #[v, u] w (RetInts w (priosG g l)) := by
  obtain ⟨o, n, p, rfl, hbw, hB⟩ := parity_box hv
  cases hE : parityOkB g
  · have hres : priosG g l = [] := by unfold priosG; rw [hE]; rfl
    rw [hres]; clear hres
    go_enter Try.func16, Try.ntmps16
    have hBz := hB.lt
    have hBc0 := hB.c0
    have hBc1 := hB.c1
    have hBc2 := hB.c2
    go_wp2_with fail
    refine (specParityOk_any _ g _ (hv.kept (Kept.of hbw))).mono ?_
    rintro e w1 ⟨rfl, hb1⟩
    clear hBc0 hBc1 hBc2 hBz
    replace hB := hB.below hb1 hB.lt
    replace hbw := Below.up hbw hb1
    have hb1s := hb1.size
    clear hb1
    have hBz := hB.lt
    have hBc0 := hB.c0
    have hBc1 := hB.c1
    have hBc2 := hB.c2
    obtain ⟨hown, hbn⟩ := new_ints w1
    go_wp2
    go_ret
    exact .at_ hbw hown hbn
  · have hok := parityOkB_iff.1 hE
    cases hE2 : isSetB l g.prio.length
    · have hres : priosG g l = [] := by unfold priosG; rw [hE, ← hok.len, hE2]; rfl
      rw [hres]; clear hres
      go_enter Try.func16, Try.ntmps16
      have hBz := hB.lt
      have hBc0 := hB.c0
      have hBc1 := hB.c1
      have hBc2 := hB.c2
      go_wp2_with fail
      refine (specParityOk_any _ g _ (hv.kept (Kept.of hbw))).mono ?_
      rintro e w1 ⟨rfl, hb1⟩
      clear hBc0 hBc1 hBc2 hBz
      replace hB := hB.below hb1 hB.lt
      replace hbw := Below.up hbw hb1
      have hb1s := hb1.size
      clear hb1
      have hBz := hB.lt
      have hBc0 := hB.c0
      have hBc1 := hB.c1
      have hBc2 := hB.c2
      go_wp2_with fail
      refine (l4Set_any _ g _ l _ (hv.kept (Kept.of hbw)) (hu.kept (Kept.of hbw))).mono ?_
      rintro e w2 ⟨rfl, hb2⟩
      clear hBc0 hBc1 hBc2 hBz
      replace hB := hB.below hb2 hB.lt
      replace hbw := Below.up hbw hb2
      have hb2s := hb2.size
      clear hb2
      have hBz := hB.lt
      have hBc0 := hB.c0
      have hBc1 := hB.c1
      have hBc2 := hB.c2
      obtain ⟨hown, hbn⟩ := new_ints w2
      go_wp2
      go_ret
      exact .at_ hbw hown hbn
    · have hres : priosG g l = priosL g.prio l := by unfold priosG; rw [hE, ← hok.len, hE2]; rfl
      have hr : ∀ k, k < l.length → ∃ j : Nat, ix l k = (j : Int) ∧ j < g.prio.length := fun k hk => (isSetB_iff.1 hE2).at_ hk
      rw [hres]; clear hres
      go_enter Try.func16, Try.ntmps16
      have hBz := hB.lt
      have hBc0 := hB.c0
      have hBc1 := hB.c1
      have hBc2 := hB.c2
      go_wp2_with fail
      refine (specParityOk_any _ g _ (hv.kept (Kept.of hbw))).mono ?_
      rintro e w1 ⟨rfl, hb1⟩
      clear hBc0 hBc1 hBc2 hBz
      replace hB := hB.below hb1 hB.lt
      replace hbw := Below.up hbw hb1
      have hb1s := hb1.size
      clear hb1
      have hBz := hB.lt
      have hBc0 := hB.c0
      have hBc1 := hB.c1
      have hBc2 := hB.c2
      go_wp2_with fail
      refine (l4Set_any _ g _ l _ (hv.kept (Kept.of hbw)) (hu.kept (Kept.of hbw))).mono ?_
      rintro e w2 ⟨rfl, hb2⟩
      clear hBc0 hBc1 hBc2 hBz
      replace hB := hB.below hb2 hB.lt
      replace hbw := Below.up hbw hb2
      have hb2s := hb2.size
      clear hb2
      have hBz := hB.lt
      have hBc0 := hB.c0
      have hBc1 := hB.c1
      have hBc2 := hB.c2
      go_wp2_with fail
      refine (l4Prios_any _ g _ l _ (hv.kept (Kept.of hbw)) (hu.kept (Kept.of hbw)) hr hl).mono ?_
      rintro e w9 ⟨u9, rfl, ho9, hb9⟩
      go_wp2
      go_ret
      exact .at_ hbw ho9 hb9
theorem priosG_len {g : ParityD} {l : List Int} (hl : l.length ≤ 1048576) : (priosG g l).length ≤ 1048576 := by
  unfold priosG
  split
  · exact Nat.le_trans (priosL_len _ _) hl
  · simp
end Go.Proofs.Ytpnophmanpfejaa
