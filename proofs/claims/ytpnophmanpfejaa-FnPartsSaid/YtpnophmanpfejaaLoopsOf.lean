/- The walks of LoopsOf, the program's. No condition. -/
import Derived.Test.YtpnophmanpfejaaLoopsWalk
import Derived.Test.YtpnophmanpfejaaReachOf
namespace Go.Proofs.Ytpnophmanpfejaa
set_option linter.unusedSimpArgs false
set_option linter.unusedVariables false
open Go.RowKit

theorem markedL_marksL {s : List Int} {n : Nat} (hs : IsSet s n) : markedL (marksL n s) = s :=
  lt_ext (sorted_upFrom_filter _ _) (List.pairwise_iff_getElem.2 fun i j hi hj hij => by
    have := hs.lt_of hij hj
    rwa [ix_lt hi, ix_lt hj] at this) fun x => by
    rw [mem_markedL]
    constructor
    · rintro ⟨j, hj, rfl, h⟩
      rw [length_marksL] at hj
      rw [bx_marksL hj] at h
      simpa using h
    · intro h
      obtain ⟨k, hk, rfl⟩ := mem_ix.1 h
      obtain ⟨j, e, hj⟩ := hs.vert k hk
      refine ⟨j, by simpa using hj, e, ?_⟩
      rw [bx_marksL hj, ← e]
      simpa using h
noncomputable def loopsG (a : ArenaD) (s : List Int) : List (List Int) := if arenaOkB a && isSetB s a.owner.length then loopsL (EdgeM a.next (marksL a.owner.length s)) s else []

set_option maxRecDepth 100000 in
set_option maxHeartbeats 2000000 in
theorem loopsOf_any (v : Value) (a : ArenaD) (u : Value) (s : List Int) (w : World) (hv : IsArena w v a) (hu : Ints w u s) (hok : ArenaOk a) (hset : IsSet s a.owner.length) :
    Calls Try.prog 105 #[v, u] w (RetRows w (loopsL (EdgeM a.next (marksL a.owner.length s)) s)) := by
  have HE := Lib.hid (markedL_marksL hset)
  obtain ⟨o, n, rfl, hbw, hB⟩ := arena_open hv
  obtain ⟨ho, hn⟩ := hv.parts
  obtain ⟨A', c', rfl, hlc', hcm'⟩ := hn.form
  have hle := hok.le
  have Hlen := Lib.hid hok.len
  have hvl := hset.vert
  have hrs : ∀ k, k < a.next.length → IsSet (rx a.next k) a.next.length := fun k hk => by
    rw [Hlen.out] at hk ⊢
    exact hok.set hk
  go_enter Try.func105, Try.ntmps105
  have hBz := hB.lt
  have hBc0 := hB.c0
  have hBc1 := hB.c1
  go_wp2_with fail
  generalize w.alloc (.cells #[o, .slice A' a.next.length c'] 30) = w3 at *
  have hd : Below w3.heap.size w3 w3.drew := below_drew1 (Below.refl _ _)
  have hc1 := markOf_any _ a _ s w3.drew ((hv.kept (Kept.of hbw)).kept (Kept.of hd)) ((hu.kept (Kept.of hbw)).kept (Kept.of hd)) hset.vert (by omega)
  have Hc1 := Lib.hid hc1
  have Hc2 := Lib.hid (fun (z : Value) (W : World) (hW : Below w3.heap.size w3 W) (hz : Bools W z (marksL a.owner.length s)) => loopsIn_any _ z a.next (marksL a.owner.length s) W (hn.kept (Kept.of (Below.up hbw hW))) hz (by rw [length_marksL]; exact Hlen.out.symm) (by rw [Hlen.out]; omega) hrs)
  have HS := Lib.hid (fun W (hW : Below w3.heap.size w3 W) => (show W.cell? ⟨w.heap.size, 0, none⟩ = some o ∧ W.cell? ⟨w.heap.size, 1, none⟩ = some (.slice A' a.next.length c') from ⟨(hB.below hW hB.lt).c0, (hB.below hW hB.lt).c1⟩))
  clear hc1 hrs
  go_region_held3 (fun W => W.cell? ⟨w.heap.size, 0, none⟩ = some o ∧ W.cell? ⟨w.heap.size, 1, none⟩ = some (.slice A' a.next.length c'))
    (first | exact HS.out _ hd | exact HS.out _ hb4 | exact HS.out _ hb5)
    (first | (go_at_call 118; refine Hc1.out.mono ?_; rintro e w4 ⟨u4, rfl, hm4, hb4⟩; have hb4 : Below w3.heap.size w3 w4 := below_of_drew hb4; obtain ⟨A4, c4, e4, _⟩ := hm4.bools.form; subst e4; rw [length_marksL] at hm4) | (go_at_call 147; refine (Hc2.out _ _ hb4 hm4.bools).mono ?_; rintro e w5 ⟨u5, rfl, hm5, hb5⟩; rw [HE.out] at hm5; replace hb5 : Below w3.heap.size w3 w5 := Below.up hb4 hb5; obtain ⟨vs5, hm5⟩ := hm5; obtain ⟨A5, c5, e5⟩ := hm5.form; subst e5))
  go_wp2
  go_ret
  exact .mk' ⟨vs5, hm5.mono (by have := hbw.size; have := hb4.size; omega) (Nat.le_refl _)⟩ (Below.up hbw hb5)

set_option maxRecDepth 100000 in
set_option maxHeartbeats 2000000 in
theorem LoopsOf_any (v : Value) (a : ArenaD) (u : Value) (s : List Int) (w : World) (hv : IsArena w v a) (hu : Ints w u s) :
    Calls Try.prog 44 #[v, u] w (RetRows w (loopsG a s)) := by
  obtain ⟨o, n, rfl, hbw, hB⟩ := arena_open hv
  cases hE : arenaOkB a
  · have hres : loopsG a s = [] := by unfold loopsG; rw [hE]; rfl
    rw [hres]; clear hres
    go_enter Try.func44, Try.ntmps44
    have hBz := hB.lt
    have hBc0 := hB.c0
    have hBc1 := hB.c1
    go_wp2_with fail
    refine (ArenaOk_any _ a _ (hv.kept (Kept.of hbw))).mono ?_
    rintro e w1 ⟨rfl, hb1⟩
    clear hBc0 hBc1 hBz
    replace hB := hB.below hb1 hB.lt
    replace hbw := Below.up hbw hb1
    have hb1s := hb1.size
    clear hb1
    have hBz := hB.lt
    have hBc0 := hB.c0
    have hBc1 := hB.c1
    go_wp2
    go_ret
    exact .mk' ⟨[], nil_rows _ _ _⟩ hbw
  · have hok := arenaOkB_iff.1 hE
    cases hE2 : isSetB s a.owner.length
    · have hres : loopsG a s = [] := by unfold loopsG; rw [hE, hE2]; rfl
      rw [hres]; clear hres
      go_enter Try.func44, Try.ntmps44
      have hBz := hB.lt
      have hBc0 := hB.c0
      have hBc1 := hB.c1
      go_wp2_with fail
      refine (ArenaOk_any _ a _ (hv.kept (Kept.of hbw))).mono ?_
      rintro e w1 ⟨rfl, hb1⟩
      clear hBc0 hBc1 hBz
      replace hB := hB.below hb1 hB.lt
      replace hbw := Below.up hbw hb1
      have hb1s := hb1.size
      clear hb1
      have hBz := hB.lt
      have hBc0 := hB.c0
      have hBc1 := hB.c1
      go_wp2_with fail
      refine (size_any _ a _ (hv.kept (Kept.of hbw))).mono ?_
      rintro e w2 ⟨rfl, hb2⟩
      clear hBc0 hBc1 hBz
      replace hB := hB.below hb2 hB.lt
      replace hbw := Below.up hbw hb2
      have hb2s := hb2.size
      clear hb2
      have hBz := hB.lt
      have hBc0 := hB.c0
      have hBc1 := hB.c1
      go_wp2_with fail
      refine (same_below (isSet_any _ s (a.owner.length : Int) _ (hu.kept (Kept.of hbw)))).mono ?_
      rintro e w3 ⟨rfl, hb3⟩
      clear hBc0 hBc1 hBz
      replace hB := hB.below hb3 hB.lt
      replace hbw := Below.up hbw hb3
      have hb3s := hb3.size
      clear hb3
      have hBz := hB.lt
      have hBc0 := hB.c0
      have hBc1 := hB.c1
      go_wp2
      go_ret
      exact .mk' ⟨[], nil_rows _ _ _⟩ hbw
    · have hset := isSetB_iff.1 hE2
      have hres : loopsG a s = loopsL (EdgeM a.next (marksL a.owner.length s)) s := by unfold loopsG; rw [hE, hE2]; rfl
      rw [hres]; clear hres
      go_enter Try.func44, Try.ntmps44
      have hBz := hB.lt
      have hBc0 := hB.c0
      have hBc1 := hB.c1
      go_wp2_with fail
      refine (ArenaOk_any _ a _ (hv.kept (Kept.of hbw))).mono ?_
      rintro e w1 ⟨rfl, hb1⟩
      clear hBc0 hBc1 hBz
      replace hB := hB.below hb1 hB.lt
      replace hbw := Below.up hbw hb1
      have hb1s := hb1.size
      clear hb1
      have hBz := hB.lt
      have hBc0 := hB.c0
      have hBc1 := hB.c1
      go_wp2_with fail
      refine (size_any _ a _ (hv.kept (Kept.of hbw))).mono ?_
      rintro e w2 ⟨rfl, hb2⟩
      clear hBc0 hBc1 hBz
      replace hB := hB.below hb2 hB.lt
      replace hbw := Below.up hbw hb2
      have hb2s := hb2.size
      clear hb2
      have hBz := hB.lt
      have hBc0 := hB.c0
      have hBc1 := hB.c1
      go_wp2_with fail
      refine (same_below (isSet_any _ s (a.owner.length : Int) _ (hu.kept (Kept.of hbw)))).mono ?_
      rintro e w3 ⟨rfl, hb3⟩
      clear hBc0 hBc1 hBz
      replace hB := hB.below hb3 hB.lt
      replace hbw := Below.up hbw hb3
      have hb3s := hb3.size
      clear hb3
      have hBz := hB.lt
      have hBc0 := hB.c0
      have hBc1 := hB.c1
      go_wp2_with fail
      clear hE hE2
      refine (loopsOf_any _ a _ s _ (hv.kept (Kept.of hbw)) (hu.kept (Kept.of hbw)) hok hset).mono ?_
      rintro e w9 ⟨u9, rfl, ho9, hb9⟩
      have hw3 := hbw.size
      obtain ⟨vs9, ho9⟩ := ho9
      obtain ⟨A9, c9, e9⟩ := ho9.form
      subst e9
      go_wp2
      go_ret
      exact .mk' ⟨vs9, ho9.mono (by omega) (Nat.le_refl _)⟩ (Below.up hbw hb9)
end Go.Proofs.Ytpnophmanpfejaa
