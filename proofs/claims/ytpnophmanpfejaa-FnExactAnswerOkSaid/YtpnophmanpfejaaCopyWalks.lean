/- The walks of the functions that copy rows and arenas. Conditions: the lengths. -/
import Derived.Test.YtpnophmanpfejaaAppend
import Derived.Test.YtpnophmanpfejaaSetWalks2
import Derived.Test.YtpnophmanpfejaaArenaWalks2
import Derived.Test.YtpnophmanpfejaaSame
import Derived.Deep.RegionLaw
namespace Go.Proofs.Ytpnophmanpfejaa
set_option linter.unusedSimpArgs false
set_option linter.unusedVariables false
open Go.RowKit

set_option maxHeartbeats 400000 in
theorem l1Copy_any (v : Value) (l : List Int) (w : World) (hv : Ints w v l) (hl : l.length ≤ 1048576) :
    Calls Try.prog 140 #[v] w (RetInts w l) := by
  obtain ⟨A, c, rfl, hlc, hcm⟩ := hv.form
  obtain ⟨hown, hbn⟩ := new_ints w
  have hv1 := hv.kept (Kept.of hbn)
  have hs : w.heap.size ≤ (w.alloc (.cells #[] 2)).heap.size := by simp
  go_enter Try.func140, Try.ntmps140
  go_wp2_with (at_builtin; refine append_ints _ rfl (.tmp 3) (.tmp 4) rfl w.heap.size _ [] rfl hown _ l rfl hv1 (by simp; omega) hs ?_; intro v1 w1 ho1 hb1 hg1 hl1)
  go_ret
  exact .mk' (by simpa using ho1) (hbn.trans hb1)

theorem ORw.form' {w : World} {B C : Nat} {v : Value} {ll : List (List Int)} (h : ORw w B C v ll) : ∃ A c, v = .slice A ll.length c := by
  obtain ⟨vs, h⟩ := h
  obtain ⟨A, c, h1, _⟩ := h.rows.form
  exact ⟨A, c, h1⟩
theorem rx_snoc {ll : List (List Int)} {k : Nat} (hk : k < ll.length) : ll.take (k + 1) = ll.take k ++ [rx ll k] := by
  rw [rx_lt hk, List.take_succ_eq_append_getElem hk]
set_option maxHeartbeats 1000000 in
theorem copyLists_any (v : Value) (ll : List (List Int)) (w : World) (hv : Rows w v ll) (h1 : ll.length ≤ 1048576) (h2 : ∀ k, k < ll.length → (rx ll k).length ≤ 1048576) :
    Calls Try.prog 159 #[v] w (RetRows w ll) := by
  obtain ⟨A, c, rfl, hlc, hcm⟩ := hv.form
  obtain ⟨hown, hbn⟩ := new_rows w
  have Hall := Lib.hid (show ll.take ll.length = ll from List.take_length)
  go_enter Try.func159, Try.ntmps159
  go_wp2
  generalize w.alloc (.cells #[] 22) = w0 at *
  go_loopw [3, 9] (fun v i wr => ∃ (k : Nat) (vs : List Value), k ≤ ll.length ∧ i = .int .i64 k ∧ RowsV wr w.heap.size wr.heap.size v vs (ll.take k) ∧ Below w.heap.size w wr) (fun _ i _ => ll.length - (intOf i).toNat)
  case atStart => exact ⟨0, [], Nat.zero_le _, rfl, hown, hbn⟩
  case round =>
    obtain ⟨k, vs, hk, rfl, hown, hbw⟩ := hrel
    have hbs := hbw.size
    by_cases hlt : k < ll.length
    · obtain ⟨a2, R, r, rfl, hc2, hrow⟩ := ((hv.kept (Kept.of hbw))).at_ hlt
      have hl2 := h2 k hlt
      have Hs := Lib.hid (rx_snoc hlt)
      obtain ⟨hn0, hbn1⟩ := new_ints wr
      have hrow1 := hrow.kept (Kept.of hbn1)
      have hs1 : wr.heap.size ≤ (wr.alloc (.cells #[] 2)).heap.size := by simp
      have hlen : (ll.take k).length ≤ ll.length := by simp; omega
      go_wp2_with (first | (at_builtin; refine append_ints _ rfl (.tmp 14) (.tmp 15) rfl wr.heap.size (.slice (some ⟨wr.heap.size, 0, none⟩) 0 0) [] rfl hn0 (.slice R (rx ll k).length r) (rx ll k) rfl hrow1 (by simp; omega) hs1 ?_; intro v1 w1 ho1 hb1 hg1 hl1; rw [List.nil_append] at ho1; obtain ⟨A1, c1, e1, _⟩ := ho1.ints.form; subst e1; have hbW := hbn1.trans hb1; have hR1 := hown.kept (Only.of_below (B := wr.heap.size) (C := wr.heap.size) hbW) (.inl (Nat.le_refl _)); have hbs1 := Nat.le_trans hbs hbW.size) | (at_builtin; refine append_one elem_rows w1 rfl (.tmp 13) (.tmp 17) rfl w.heap.size u3 (ll.take k).length vs rfl hR1.own (.slice A1 (rx ll k).length c1) rfl rfl (by omega) hbs1 ?_; intro v2 w2 ho2 hg2 hl2))
      have hR2 := hR1.mono (Nat.le_refl _) (C' := w1.heap.size) hbW.size
      have hnew : OI w1 w.heap.size w1.heap.size (.slice A1 (rx ll k).length c1) (rx ll k) := ⟨ho1.more hbs, fun b hb => (ho1.lt b hb).2⟩
      have hne : ∀ j, j < (ll.take k).length → ∀ b, (vx vs j).ownBlock = some b → (Value.slice A1 (rx ll k).length c1).ownBlock ≠ some b := fun j hj b hb e => by
        have h3 := (hR1.row j hj).2 b hb
        have h4 := (ho1.lt b e).1
        omega
      exact ⟨⟨k + 1, _, by omega, by go_num, by rw [Hs.out]; exact RowsV.snoc hR2 hnew hne ho2 hg2 hg2.size (Nat.le_refl _), (hbw.trans (hbW.mono hbs)).grown hg2 hbs1 fun b hb => (hown.own.lt b hb).1⟩, by simp [intOf]; omega⟩
    · obtain rfl : k = ll.length := by omega
      rw [Hall.out] at hown
      go_wp2
      go_ret
      exact .mk' ⟨vs, hown⟩ hbw

def RetArena (w : World) (a : ArenaD) (e : Ending) (w' : World) : Prop := ∃ u, e = .returned u ∧ OA w' w.heap.size w'.heap.size u a ∧ Below w.heap.size w w'
theorem RetArena.mk' {w w' : World} {a : ArenaD} {u : Value} (h1 : OA w' w.heap.size w'.heap.size u a) (h2 : Below w.heap.size w w') : RetArena w a (.returned u) w' := ⟨u, rfl, h1, h2⟩

set_option maxRecDepth 100000 in
set_option maxHeartbeats 2000000 in
theorem copyArena_any (v : Value) (a : ArenaD) (w : World) (hv : IsArena w v a) (h0 : a.owner.length ≤ 1048576) (h1 : a.next.length ≤ 1048576) (h2 : ∀ k, k < a.next.length → (rx a.next k).length ≤ 1048576) :
    Calls Try.prog 145 #[v] w (RetArena w a) := by
  obtain ⟨o, n, rfl, hbw, hB, _⟩ := arena_box hv
  obtain ⟨ho, hn⟩ := hv.parts
  obtain ⟨A, c, rfl, hlc, hcm⟩ := ho.form
  obtain ⟨A', c', rfl, hlc', hcm'⟩ := hn.form
  have hR : Arr ((w.alloc (.cells #[.slice A a.owner.length c, .slice A' a.next.length c'] 30)).alloc (.cells #[.slice none 0 0, .slice none 0 0] 30)) (w.heap.size + 1) 30 [.slice none 0 0, .slice none 0 0] := by
    simpa using Arr.new (w.alloc (.cells #[.slice A a.owner.length c, .slice A' a.next.length c'] 30)) 30 [.slice none 0 0, .slice none 0 0]
  replace hB := hB.alloc (.cells #[.slice none 0 0, .slice none 0 0] 30)
  replace hbw := hbw.alloc hbw.size (.cells #[.slice none 0 0, .slice none 0 0] 30)
  have hBc0 := hB.c0
  have hBc1 := hB.c1
  go_enter Try.func145, Try.ntmps145
  go_wp2_with fail
  generalize (w.alloc (.cells #[.slice A a.owner.length c, .slice A' a.next.length c'] 30)).alloc (.cells #[.slice none 0 0, .slice none 0 0] 30) = w0 at *
  obtain ⟨hn0', hbn'⟩ := new_ints w0
  have hn0 : OwnInts (w0.alloc (.cells #[] 2)).drew w0.heap.size (.slice (some ⟨w0.heap.size, 0, none⟩) 0 0) [] := hn0'
  have hbn : Below w0.heap.size w0 (w0.alloc (.cells #[] 2)).drew := ⟨hbn'.os, hbn'.tape, hbn'.output, hbn'.size, hbn'.block⟩
  clear hn0' hbn'
  have hbs0 : w0.heap.size ≤ (w0.alloc (.cells #[] 2)).drew.heap.size := hbn.size
  have ho1 : Ints (w0.alloc (.cells #[] 2)).drew (.slice A a.owner.length c) a.owner := ((ho.kept (Kept.of hbw))).kept (Kept.of hbn)
  have hcall := fun W (hW : Kept w0 W) => copyLists_any _ a.next W (((hn.kept (Kept.of hbw))).kept hW) h1 h2
  have Hc := Lib.hid hcall
  clear hcall
  go_region_held3 (fun W => W.cell? ⟨w.heap.size, 0, none⟩ = some (.slice A a.owner.length c) ∧ W.cell? ⟨w.heap.size, 1, none⟩ = some (.slice A' a.next.length c'))
    (first | exact ⟨hB.c0, hB.c1⟩ | exact ⟨(hB.below hbn hB.lt).c0, (hB.below hbn hB.lt).c1⟩ | exact ⟨((hB.below hbn hB.lt).below hb1 hB.lt).c0, ((hB.below hbn hB.lt).below hb1 hB.lt).c1⟩ | exact ⟨hB5.c0, hB5.c1⟩ | exact ⟨((hB5.far (p := ⟨w.heap.size + 1, 0, none⟩) (by simp) _).far (p := ⟨w.heap.size + 1, 1, none⟩) (by simp) _).c0, ((hB5.far (p := ⟨w.heap.size + 1, 0, none⟩) (by simp) _).far (p := ⟨w.heap.size + 1, 1, none⟩) (by simp) _).c1⟩)
    (first | (refine step_append_ints _ rfl (.tmp 3) (.tmp 5) rfl w0.heap.size (.slice (some ⟨w0.heap.size, 0, none⟩) 0 0) [] rfl hn0 _ a.owner rfl ho1 (by simp; omega) hbs0 ?_; intro v1 w1 ho2 hb1 hg1 hl1; rw [List.nil_append] at ho2; obtain ⟨A2, c2, e2, _⟩ := ho2.ints.form; subst e2) | (go_at_call 159; refine (Hc.out _ (Kept.of (hbn.trans hb1))).mono ?_; rintro e w5 ⟨u5, rfl, hr5, hb5⟩; obtain ⟨A5, c5, e5⟩ := hr5.form'; subst e5; have hB5 := ((hB.below hbn hB.lt).below hb1 hB.lt).below hb5 (Nat.lt_of_lt_of_le hB.lt (hbn.trans hb1).size); have hR5 := ((hR.below hbn hR.lt).below hb1 hR.lt).below hb5 (Nat.lt_of_lt_of_le hR.lt (hbn.trans hb1).size); have q0 := hR5.c0; have q1 := hR5.c1; have q2 := hR5.frozen 0; have q3 := hR5.frozen 1))
  clear q0 q1 q2 q3
  have hbs1 := (hbn.trans hb1).size
  have hbs5 := hb5.size
  have hw0 := hR.lt
  have hR6 := (hR5.set_ 0 (.slice A2 a.owner.length c2)).set_ 1 (.slice A5 a.next.length c5)
  have hbw6 : Below w.heap.size w ((w5.setCell ⟨w.heap.size + 1, 0, none⟩ (.slice A2 a.owner.length c2)).setCell ⟨w.heap.size + 1, 1, none⟩ (.slice A5 a.next.length c5)) :=
    ((Below.up (Below.up hbw (hbn.trans hb1)) hb5).setCell (by simp) _).setCell (by simp) _
  have hch : ∀ b, w0.heap.size ≤ b → ((w5.setCell ⟨w.heap.size + 1, 0, none⟩ (.slice A2 a.owner.length c2)).setCell ⟨w.heap.size + 1, 1, none⟩ (.slice A5 a.next.length c5)).heap[b]? = w5.heap[b]? := fun b hb => by
    rw [Below.heap_setCell _ _ _ _ (by simp; omega), Below.heap_setCell _ _ _ _ (by simp; omega)]
  have hsz : ((w5.setCell ⟨w.heap.size + 1, 0, none⟩ (.slice A2 a.owner.length c2)).setCell ⟨w.heap.size + 1, 1, none⟩ (.slice A5 a.next.length c5)).heap.size = w5.heap.size := by simp
  generalize (w5.setCell ⟨w.heap.size + 1, 0, none⟩ (.slice A2 a.owner.length c2)).setCell ⟨w.heap.size + 1, 1, none⟩ (.slice A5 a.next.length c5) = w6 at *
  have q0 := hR6.c0
  have q1 := hR6.c1
  obtain ⟨vs, hr5⟩ := hr5
  have ho6 : OI w6 w.heap.size w6.heap.size (.slice A2 a.owner.length c2) a.owner := ((OI.of ho2).below hb5).mono (by have := hbw.size; omega) (by omega) |>.heap fun b hb => hch b (ho2.lt b hb).1
  have hr6 : RowsV w6 w.heap.size w6.heap.size (.slice A5 a.next.length c5) vs a.next := (hr5.mono (by have := hbw.size; omega) (by omega)).heap (fun b hb => hch b (by have := (hr5.own.lt b hb).1; omega)) fun k hk b hb => hch b (by have := ((hr5.row k hk).1.lt b hb).1; omega)
  go_wp2
  refine bodyPost_ret (v := .agg #[.slice A2 a.owner.length c2, .slice A5 a.next.length c5]) (by simp [results, Try.results145, go_sem, q0, q1]) rfl ?_
  exact .mk' ⟨_, _, vs, rfl, ho6, hr6, fun b hb k hk e => by have h3 := (ho2.lt b hb).2; have h4 := ((hr5.row k hk).1.lt b e).1; omega⟩ hbw6

set_option maxRecDepth 100000 in
set_option maxHeartbeats 2000000 in
theorem l1CopyArena_any (v : Value) (a : ArenaD) (w : World) (hv : IsArena w v a) (h0 : a.owner.length ≤ 1048576) (h1 : a.next.length ≤ 1048576) (h2 : ∀ k, k < a.next.length → (rx a.next k).length ≤ 1048576) :
    Calls Try.prog 133 #[v] w (RetArena w a) := by
  obtain ⟨o, n, rfl, hbw, hB, _⟩ := arena_box hv
  obtain ⟨ho, hn⟩ := hv.parts
  obtain ⟨A, c, rfl, hlc, hcm⟩ := ho.form
  obtain ⟨A', c', rfl, hlc', hcm'⟩ := hn.form
  have hR : Arr ((w.alloc (.cells #[.slice A a.owner.length c, .slice A' a.next.length c'] 30)).alloc (.cells #[.slice none 0 0, .slice none 0 0] 30)) (w.heap.size + 1) 30 [.slice none 0 0, .slice none 0 0] := by
    simpa using Arr.new (w.alloc (.cells #[.slice A a.owner.length c, .slice A' a.next.length c'] 30)) 30 [.slice none 0 0, .slice none 0 0]
  replace hB := hB.alloc (.cells #[.slice none 0 0, .slice none 0 0] 30)
  replace hbw := hbw.alloc hbw.size (.cells #[.slice none 0 0, .slice none 0 0] 30)
  go_enter Try.func133, Try.ntmps133
  have hBz := hB.lt
  have hBc0 := hB.c0
  have hBc1 := hB.c1
  have hRz := hR.lt
  have hRc0 := hR.c0
  have hRc1 := hR.c1
  go_wp2_with fail
  refine (l1Copy_any _ a.owner _ (ho.kept (Kept.of hbw)) h0).mono ?_
  rintro e w1 ⟨u1, rfl, ho1, hb1⟩
  obtain ⟨A1, c1, e1, _⟩ := ho1.ints.form
  subst e1
  have hbs1 := hb1.size
  have hw1 := hbw.size
  have ho2 := (OI.of ho1).mono (B' := w.heap.size + 2) (by simp) (Nat.le_refl _)
  clear hBc0 hBc1 hRc0 hRc1 hBz hRz
  replace hB := hB.below hb1 hB.lt
  replace hR := hR.below hb1 hR.lt
  replace hbw := Below.up hbw hb1
  have hb1s := hb1.size
  clear hb1
  have hBz := hB.lt
  have hBc0 := hB.c0
  have hBc1 := hB.c1
  have hRz := hR.lt
  have hRc0 := hR.c0
  have hRc1 := hR.c1
  have hRw1 := hR.lt
  clear hbs1 hw1 hb1s
  go_wp2
  have hX0 : Arr (w1.alloc (.cells #[.slice A1 a.owner.length c1, .slice none 0 0] 30)) w1.heap.size 30 [.slice A1 a.owner.length c1, .slice none 0 0] := Arr.new _ _ _
  have hbn := (Below.refl w1.heap.size w1).alloc (Nat.le_refl _) (.cells #[.slice A1 a.owner.length c1, .slice none 0 0] 30)
  replace ho2 := ho2.below hbn
  have hXl : w1.heap.size + 1 ≤ (w1.alloc (.cells #[.slice A1 a.owner.length c1, .slice none 0 0] 30)).heap.size := by simp
  have hrows := nil_rows (w1.alloc (.cells #[.slice A1 a.owner.length c1, .slice none 0 0] 30)) (w1.heap.size + 1) (w1.alloc (.cells #[.slice A1 a.owner.length c1, .slice none 0 0] 30)).heap.size
  clear ho1
  clear hBc0 hBc1 hRc0 hRc1 hBz hRz
  replace hB := hB.below hbn hB.lt
  replace hR := hR.below hbn hR.lt
  replace hbw := Below.up hbw hbn
  have hbns := hbn.size
  clear hbn
  have hBz := hB.lt
  have hBc0 := hB.c0
  have hBc1 := hB.c1
  have hRz := hR.lt
  have hRc0 := hR.c0
  have hRc1 := hR.c1
  clear hBc0 hBc1 hRc0 hRc1 hBz hRz
  have Hall := Lib.hid (show a.next.take a.next.length = a.next from List.take_length)
  generalize w1.alloc (.cells #[.slice A1 a.owner.length c1, .slice none 0 0] 30) = w2 at *
  go_loopw [4] (fun i wr => ∃ (k : Nat) (nv : Value) (vs : List Value), k ≤ a.next.length ∧ i = .int .i64 k ∧ Arr wr w.heap.size 30 [.slice A a.owner.length c, .slice A' a.next.length c'] ∧ Arr wr (w.heap.size + 1) 30 [.slice none 0 0, .slice none 0 0] ∧ Arr wr w1.heap.size 30 [.slice A1 a.owner.length c1, nv] ∧ OI wr (w.heap.size + 2) w1.heap.size (.slice A1 a.owner.length c1) a.owner ∧ RowsV wr (w1.heap.size + 1) wr.heap.size nv vs (a.next.take k) ∧ Below w.heap.size w wr) (fun i _ => a.next.length - (intOf i).toNat)
  case atStart => exact ⟨0, _, [], Nat.zero_le _, rfl, hB, hR, hX0, ho2, hrows, hbw⟩
  case round =>
    obtain ⟨k, nv, vs, hk, rfl, hB, hR, hX, hoi, hrw, hbw⟩ := hrel
    have hXlt := hX.lt
    have hBc0 := hB.c0
    have hBc1 := hB.c1
    by_cases hlt : k < a.next.length
    · obtain ⟨N, nc, en, _⟩ := hrw.rows.form
      have hlk : (a.next.take k).length = k := by simp; omega
      rw [hlk] at en
      have Hlk := Lib.hid hlk
      clear hlk
      subst en
      have hXc1 := hX.c1
      obtain ⟨a2, R, r, rfl, hc2, hrow⟩ := ((hn.kept (Kept.of hbw))).at_ hlt
      have hlt' : (k : Int) < a.next.length := by omega
      have hlen : (a.next.take k).length ≤ a.next.length := by simp; omega
      have Hs := Lib.hid (rx_snoc hlt)
      have Hc := Lib.hid (l1Copy_any _ (rx a.next k) wr.drew (hrow.kept (Kept.drew _)) (h2 k hlt))
      go_wp2_with fail
      go_region_law (first | (go_simp; go_at_call 140; refine Hc.out.mono ?_; rintro e w5 ⟨u5, rfl, ho5, hb5⟩; replace ho5 : OwnInts w5 wr.heap.size _ _ := ho5; replace hb5 := below_of_drew hb5; obtain ⟨A5, c5, e5, _⟩ := ho5.ints.form; subst e5; have q1 := (hB.below hb5 hB.lt).c1; have q3 := (hX.below hb5 hX.lt).c1; have q8 := ((hX.below hb5 hX.lt).alloc (.cells #[.slice A5 (rx a.next k).length c5] 22)).c1; have q4 := (Kept.of hb5).cell hc2; have hrw5 := (hrw.kept (Only.of_below (B := wr.heap.size) (C := wr.heap.size) hb5) (.inl (Nat.le_refl _)))) | (refine step_append_one elem_rows w5 rfl (.tmp 17) (.tmp 24) rfl (w1.heap.size + 1) (.slice N k nc) (a.next.take k).length vs rfl hrw5.own (.slice A5 (rx a.next k).length c5) rfl rfl (by omega) (by have := hb5.size; omega) ?_; intro v7 w7 ho7 hg7 hl7; have hbX : Below (w1.heap.size + 1) wr w7 := (hb5.mono (by omega)).grown hg7 (by have := hb5.size; omega) (fun b hb => (hrw5.own.lt b hb).1); have hX7 := hX.below hbX (Nat.lt_succ_self _); have q5 := hX7.c1; have q6 := hX7.frozen 1; obtain ⟨A7, c7, e7, _⟩ := SlF.of_own ho7; rw [Hlk.out] at e7; subst e7))
      all_goals
        have hbs5 := hb5.size
        have hB7 := (hB.below hbX (by omega)).far (p := ⟨w1.heap.size, 1, none⟩) (by simp; omega) (.slice A7 (k + 1) c7)
        have hR7 := (hR.below hbX (by omega)).far (p := ⟨w1.heap.size, 1, none⟩) (by simp; omega) (.slice A7 (k + 1) c7)
        have hX8 := hX7.set_ 1 (.slice A7 (k + 1) c7)
        have hoi7 := (hoi.heap fun b hb => hbX.block b (by have := hoi.2 b hb; omega)).heap (w' := w7.setCell ⟨w1.heap.size, 1, none⟩ (.slice A7 (k + 1) c7)) fun b hb => Below.heap_setCell _ _ _ _ (by have := hoi.2 b hb; simp; omega)
        have hnew : OI w5 (w1.heap.size + 1) w5.heap.size (.slice A5 (rx a.next k).length c5) (rx a.next k) := ⟨ho5.more (by omega), fun b hb => (ho5.lt b hb).2⟩
        have hne : ∀ j, j < (a.next.take k).length → ∀ b, (vx vs j).ownBlock = some b → (Value.slice A5 (rx a.next k).length c5).ownBlock ≠ some b := fun j hj b hb e => by
          have h3 := (hrw5.row j hj).2 b hb
          have h4 := (ho5.lt b e).1
          omega
        have hrw7 := RowsV.snoc (hrw5.mono (Nat.le_refl _) (C' := w5.heap.size) hbs5) hnew hne ho7 hg7 hg7.size (Nat.le_refl _)
        have hrw8 := hrw7.heap (w' := w7.setCell ⟨w1.heap.size, 1, none⟩ (.slice A7 (k + 1) c7)) (fun b hb => Below.heap_setCell _ _ _ _ (by have := (hrw7.own.lt b hb).1; simp; omega)) (fun j hj b hb => Below.heap_setCell _ _ _ _ (by have := ((hrw7.row j hj).1.lt b hb).1; simp; omega))
        have hbw8 : Below w.heap.size w (w7.setCell ⟨w1.heap.size, 1, none⟩ (.slice A7 (k + 1) c7)) := (hbw.trans (hbX.mono (by omega))).setCell (by simp; omega) _
        have hsz8 : (w7.setCell ⟨w1.heap.size, 1, none⟩ (.slice A7 (k + 1) c7)).heap.size = w7.heap.size := by simp
        have Hsz8 := Lib.hid hsz8
        clear hsz8 q1 q3 q4 q5 q6 q8
        go_wp2
        exact ⟨⟨k + 1, _, _, by omega, by go_num, hB7, hR7, hX8, hoi7, by rw [Hs.out, Hsz8.out]; exact hrw8, hbw8⟩, by simp [intOf]; omega⟩
    · obtain rfl : k = a.next.length := by omega
      rw [Hall.out] at hrw
      have hXc0 := hX.c0
      have hXc1 := hX.c1
      have hRc0 := hR.c0
      have hRc1 := hR.c1
      have hRf0 := hR.frozen 0
      have hRf1 := hR.frozen 1
      obtain ⟨N, nc, en, _⟩ := hrw.rows.form
      subst en
      go_wp2
      have hR6 := (hR.set_ 0 (.slice A1 a.owner.length c1)).set_ 1 (.slice N a.next.length nc)
      have hbw6 : Below w.heap.size w ((wr.setCell ⟨w.heap.size + 1, 0, none⟩ (.slice A1 a.owner.length c1)).setCell ⟨w.heap.size + 1, 1, none⟩ (.slice N a.next.length nc)) := (hbw.setCell (by simp) _).setCell (by simp) _
      have hch : ∀ b, w.heap.size + 2 ≤ b → ((wr.setCell ⟨w.heap.size + 1, 0, none⟩ (.slice A1 a.owner.length c1)).setCell ⟨w.heap.size + 1, 1, none⟩ (.slice N a.next.length nc)).heap[b]? = wr.heap[b]? := fun b hb => by
        rw [Below.heap_setCell _ _ _ _ (by simp; omega), Below.heap_setCell _ _ _ _ (by simp; omega)]
      have hsz : ((wr.setCell ⟨w.heap.size + 1, 0, none⟩ (.slice A1 a.owner.length c1)).setCell ⟨w.heap.size + 1, 1, none⟩ (.slice N a.next.length nc)).heap.size = wr.heap.size := by simp
      generalize (wr.setCell ⟨w.heap.size + 1, 0, none⟩ (.slice A1 a.owner.length c1)).setCell ⟨w.heap.size + 1, 1, none⟩ (.slice N a.next.length nc) = w6 at *
      have q0 := hR6.c0
      have q1 := hR6.c1
      have ho6 : OI w6 w.heap.size w6.heap.size (.slice A1 a.owner.length c1) a.owner := (hoi.heap fun b hb => hch b (hoi.1.lt b hb).1).mono (by omega) (by omega)
      have hr6 : RowsV w6 w.heap.size w6.heap.size (.slice N a.next.length nc) vs a.next := (hrw.heap (fun b hb => hch b (by have := (hrw.own.lt b hb).1; omega)) fun k hk b hb => hch b (by have := ((hrw.row k hk).1.lt b hb).1; omega)).mono (by omega) (by omega)
      refine bodyPost_ret (v := .agg #[.slice A1 a.owner.length c1, .slice N a.next.length nc]) (by simp [results, Try.results133, go_sem, q0, q1]) rfl ?_
      exact .mk' ⟨_, _, vs, rfl, ho6, hr6, fun b hb k hk e => by have h3 := hoi.2 b hb; have h4 := ((hrw.row k hk).1.lt b e).1; omega⟩ hbw6
end Go.Proofs.Ytpnophmanpfejaa
