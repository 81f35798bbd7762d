/- The walks of FixedBy, both ways, and of fixedBy. Conditions of fixedBy: a valid arena, a plan as long. Printed by gen_fixed.py. -/
import Derived.Test.YtpnophmanpfejaaFullWalks
import Derived.Test.YtpnophmanpfejaaPkB
import Derived.Deep.RegionHeld3
namespace Go.Proofs.Ytpnophmanpfejaa
set_option linter.unusedSimpArgs false
set_option linter.unusedVariables false
open Go.RowKit

theorem chg_setCell (w : World) (p : Addr) (u : Value) : Chg (fun b => b = p.block) w (w.setCell p u) := ⟨rfl, rfl, rfl, by simp, fun k _ hne => Below.heap_setCell _ _ _ _ (fun e => hne e)⟩
def fixAt (a : ArenaD) (plan : List Int) (v : Nat) : List Int := if 0 ≤ ix plan v then [ix plan v] else rx a.next v
def fixTo (a : ArenaD) (plan : List Int) (k : Nat) : List (List Int) := (List.range a.next.length).map fun v => if v < k then fixAt a plan v else rx a.next v
@[simp] theorem length_fixTo (a : ArenaD) (plan : List Int) (k : Nat) : (fixTo a plan k).length = a.next.length := by simp [fixTo]
theorem rx_fixTo {a : ArenaD} {plan : List Int} {k v : Nat} (h : v < a.next.length) : rx (fixTo a plan k) v = if v < k then fixAt a plan v else rx a.next v := by simp [rx, fixTo, h]
theorem fixTo_zero (a : ArenaD) (plan : List Int) : fixTo a plan 0 = a.next := by
  apply rows_ext (by simp)
  intro j hj
  rw [rx_fixTo hj, if_neg (by omega)]
theorem fixTo_set {a : ArenaD} {plan : List Int} {k : Nat} (hk : k < a.next.length) : (fixTo a plan k).set k (fixAt a plan k) = fixTo a plan (k + 1) := by
  apply rows_ext (by simp)
  intro j hj
  rw [length_fixTo] at hj
  rw [rx_set (by simpa using hk), rx_fixTo hj, rx_fixTo hj]
  by_cases e : j = k
  · subst e; rw [if_pos rfl, if_pos (by omega)]
  · rw [if_neg e]
    by_cases e2 : j < k
    · rw [if_pos e2, if_pos (by omega)]
    · rw [if_neg e2, if_neg (by omega)]
theorem fixTo_same {a : ArenaD} {plan : List Int} {k : Nat} (h : ¬ 0 ≤ ix plan k) : fixTo a plan k = fixTo a plan (k + 1) := by
  apply rows_ext (by simp)
  intro j hj
  rw [length_fixTo] at hj
  rw [rx_fixTo hj, rx_fixTo hj]
  by_cases e : j = k
  · subst e; rw [if_neg (by omega), if_pos (by omega)]; unfold fixAt; rw [if_neg h]
  · by_cases e2 : j < k
    · rw [if_pos e2, if_pos (by omega)]
    · rw [if_neg e2, if_neg (by omega)]
def fixA (a : ArenaD) (plan : List Int) : ArenaD := ⟨a.owner, fixTo a plan a.next.length⟩
/-- A row is put in the place of another one. -/
theorem RowsV.put {w : World} {B C G k cap n : Nat} {y : Value} {vs : List Value} {ll : List (List Int)} {l : List Int} (h : RowsV w B C (.slice (some ⟨G, 0, none⟩) n cap) vs ll) (hn : ll.length = n) (hk : k < ll.length) (hy : OI w B C y l)
    (hne : ∀ j, j < ll.length → ∀ b, (vx vs j).ownBlock = some b → y.ownBlock ≠ some b) : RowsV (w.setCell ⟨G, k, none⟩ y) B C (.slice (some ⟨G, 0, none⟩) n cap) (vs.set k y) (ll.set k l) := by
  subst hn
  have hl := h.len
  have hst := World.ownsRow.stored h.own k y
  have hfar : ∀ j, j < ll.length → ∀ b, (vx vs j).ownBlock = some b → b ≠ G := fun j hj b hb e => by
    subst e; exact owns_ne h.own (h.row j hj).1 row_type_ne rfl hb
  have hfy : ∀ b, y.ownBlock = some b → b ≠ G := fun b hb e => by subst e; exact owns_ne h.own hy.1 row_type_ne rfl hb
  have hrow : ∀ j, j < ll.length → OI (w.setCell ⟨G, k, none⟩ y) B C (vx (vs.set k y) j) (rx (ll.set k l) j) := fun j hj => by
    rw [vx_set (by omega), rx_set hk]
    by_cases e : j = k
    · rw [if_pos e, if_pos e]
      exact hy.heap fun b hb => Below.heap_setCell _ _ _ _ (fun e => hfy b hb e)
    · rw [if_neg e, if_neg e]
      exact (h.row j hj).heap fun b hb => Below.heap_setCell _ _ _ _ (fun e => hfar j hj b hb e)
  refine ⟨by simpa using hl, by simpa using hst.1, h.lt, fun j hj => hrow j (by simpa using hj), fun i j hi hj hij b hb => ?_⟩
  rw [List.length_set] at hi hj
  rw [vx_set (by omega)] at hb ⊢
  by_cases ei : i = k
  · rw [if_pos ei] at hb
    rw [if_neg (by omega)]
    intro hb2
    exact hne j hj b hb2 hb
  · rw [if_neg ei] at hb
    by_cases ej : j = k
    · rw [if_pos ej]
      exact hne i hi b hb
    · rw [if_neg ej]
      exact h.ne i j hi hj hij b hb

set_option maxRecDepth 100000 in
set_option maxHeartbeats 2000000 in
theorem fixedBy_any (v : Value) (a : ArenaD) (u : Value) (plan : List Int) (w : World) (hv : IsArena w v a) (hu : Ints w u plan) (hok : ArenaOk a) (hpl : plan.length = a.owner.length) :
    Calls Try.prog 139 #[v, u] w (RetArena w (fixA a plan)) := by
  obtain ⟨o, n, rfl, hbw, hB, _⟩ := arena_box hv
  have hR : Arr ((w.alloc (.cells #[o, n] 30)).alloc (.cells #[.slice none 0 0, .slice none 0 0] 30)) (w.heap.size + 1) 30 [.slice none 0 0, .slice none 0 0] := by
    simpa using Arr.new (w.alloc (.cells #[o, n] 30)) 30 [.slice none 0 0, .slice none 0 0]
  replace hB := hB.alloc (.cells #[.slice none 0 0, .slice none 0 0] 30)
  replace hbw := hbw.alloc hbw.size (.cells #[.slice none 0 0, .slice none 0 0] 30)
  obtain ⟨A2, c2, rfl, hlc2, hcm2⟩ := hu.form
  have hle := hok.le
  have hlen := Lib.hid hok.len
  have hpos := hok.pos
  have Hpl := Lib.hid hpl
  clear hpl
  have hRl0 := hR.lt
  go_enter Try.func139, Try.ntmps139
  have hBz := hB.lt
  have hBc0 := hB.c0
  have hBc1 := hB.c1
  have hRz := hR.lt
  have hRc0 := hR.c0
  have hRc1 := hR.c1
  go_wp2_with fail
  generalize (w.alloc (.cells #[o, n] 30)).alloc (.cells #[.slice none 0 0, .slice none 0 0] 30) = w0 at *
  refine (copyArena_any _ a _ (hv.kept (Kept.of hbw)) (by omega) (by rw [hlen.out]; omega) (fun k hk => by have := (hok.deg (v := k) (by rw [← hlen.out]; exact hk)).2; omega)).mono ?_
  rintro e w3 ⟨u3, rfl, hu3, hb3⟩
  obtain ⟨o', n', vs, rfl, hoi, hrw, hne⟩ := hu3
  clear hBc0 hBc1 hRc0 hRc1 hBz hRz
  replace hB := hB.below hb3 hB.lt
  replace hR := hR.below hb3 hR.lt
  replace hbw := Below.up hbw hb3
  have hb3s := hb3.size
  clear hb3
  have hBz := hB.lt
  have hBc0 := hB.c0
  have hBc1 := hB.c1
  have hRz := hR.lt
  have hRc0 := hR.c0
  have hRc1 := hR.c1
  obtain ⟨N, nc, en, _⟩ := hrw.rows.form
  subst en
  obtain ⟨O, oc, eo, _⟩ := hoi.ints.form
  subst eo
  rcases hrw.own.2 with ⟨hnil, h0⟩ | ⟨G, cap, cur, eN, hG0, hG1, hcap, hcm, _⟩
  · rw [hlen.out] at h0; omega
  · simp only [Value.slice.injEq, true_and] at eN
    obtain ⟨rfl, rfl⟩ := eN
    have hG2 := (Array.getElem?_eq_some_iff.1 hG1).1
    clear hG1
    have hX0 : Arr (w3.alloc (.cells #[.slice O a.owner.length oc, .slice (some ⟨G, 0, none⟩) a.next.length nc] 30)) w3.heap.size 30 [.slice O a.owner.length oc, .slice (some ⟨G, 0, none⟩) a.next.length nc] := Arr.new _ _ _
    have hbn := (Below.refl w3.heap.size w3).alloc (Nat.le_refl _) (.cells #[.slice O a.owner.length oc, .slice (some ⟨G, 0, none⟩) a.next.length nc] 30)
    replace hoi := hoi.below hbn
    replace hrw := (hrw.kept (Only.of_below (B := w3.heap.size) (C := w3.heap.size) hbn) (.inl (Nat.le_refl _))).mono (Nat.le_refl _) hbn.size
    go_wp2
    clear hBc0 hBc1 hRc0 hRc1 hBz hRz
    replace hB := hB.below hbn hB.lt
    replace hR := hR.below hbn hR.lt
    replace hbw := Below.up hbw hbn
    have hbns := hbn.size
    clear hbn
    have hBz := hB.lt
    have hBc0 := hB.c0
    have hBc1 := hB.c1
    have hRz := hR.lt
    have hRc0 := hR.c0
    have hRc1 := hR.c1
    clear hBc0 hBc1 hRc0 hRc1 hBz hRz
    generalize w3.alloc (.cells #[.slice O a.owner.length oc, .slice (some ⟨G, 0, none⟩) a.next.length nc] 30) = w4 at *
    have hw4 := hX0.lt
    have Hrw4 := Lib.hid hrw.own
    have Hu4 := Lib.hid ((hu.kept (Kept.of hbw)))
    go_loopw [12] (fun i wr => ∃ (k : Nat) (vs : List Value), k ≤ plan.length ∧ i = .int .i64 k ∧ RowsV wr w0.heap.size wr.heap.size (.slice (some ⟨G, 0, none⟩) a.next.length nc) vs (fixTo a plan k) ∧ (∀ b, (Value.slice O a.owner.length oc).ownBlock = some b → ∀ j, j < a.next.length → (vx vs j).ownBlock ≠ some b) ∧ Chg (fun b => b = G) w4 wr) (fun i _ => plan.length - (intOf i).toNat)
    case atStart => exact ⟨0, vs, Nat.zero_le _, rfl, by rw [fixTo_zero]; exact hrw, hne, Chg.refl _ _⟩
    case round =>
      obtain ⟨k, vs, hk, rfl, hrw, hne, hch⟩ := hrel
      have Hne := Lib.hid hne
      clear hne
      have hsz4 := hch.size
      have hX : Arr wr w3.heap.size 30 _ := (hch.block w3.heap.size hw4 (by omega)).trans hX0
      have hXc0 := hX.c0
      have hXc1 := hX.c1
      have hbw5 : Below w.heap.size w wr := hbw.trans ⟨hch.os, hch.tape, hch.output, hch.size, fun b hb => hch.block b (by have := hbw.size; omega) (by omega)⟩
      by_cases hlt : k < plan.length
      · have hkn : k < a.next.length := by rw [hlen.out, ← Hpl.out]; exact hlt
        obtain ⟨a1, ea, hc1⟩ := (hu.kept (Kept.of hbw5)).at_ hlt
        subst ea
        have hkn' : (k : Int) < a.next.length := by omega
        by_cases e : 0 ≤ ix plan k
        · have Hs := Lib.hid (fixTo_set (a := a) (plan := plan) hkn)
          have Hat := Lib.hid (show fixAt a plan k = [ix plan k] by unfold fixAt; rw [if_pos e])
          have hro := hrw.own
          rw [length_fixTo] at hro
          have hcG := hro.cellAt k (by omega)
          have hvl : vs.length = a.next.length := by rw [hrw.len, length_fixTo]
          rw [List.getElem?_eq_getElem (by omega), ← vx_lt (by omega)] at hcG
          have hfG := hro.frozenAt k
          have hnew := ione_new wr (ix plan k)
          have hbn5 := (Below.refl wr.heap.size wr).alloc (Nat.le_refl _) (.cells #[.int .i64 (ix plan k)] 2)
          have hGw : G < wr.heap.size := by omega
          have Hvl := Lib.hid hvl
          clear hvl
          go_wp2
          clear hcG hfG
          have hrwA := (hrw.kept (Only.of_below (B := wr.heap.size) (C := wr.heap.size) hbn5) (.inl (Nat.le_refl _))).mono (Nat.le_refl _) hbn5.size
          have hyo : OI (wr.alloc (.cells #[.int .i64 (ix plan k)] 2)) w0.heap.size (wr.alloc (.cells #[.int .i64 (ix plan k)] 2)).heap.size (.slice (some ⟨wr.heap.size, 0, none⟩) 1 1) [ix plan k] :=
            ⟨IArr.own (B := w0.heap.size) hnew (by omega) (by simp), fun b hb => by simp [Value.ownBlock] at hb; subst hb; simp⟩
          have hfar : ∀ j, j < (fixTo a plan k).length → ∀ b, (vx vs j).ownBlock = some b → (Value.slice (some ⟨wr.heap.size, 0, none⟩) 1 1).ownBlock ≠ some b := fun j hj b hb e => by
            have h3 := ((hrw.row j hj).1.lt b hb).2
            simp [Value.ownBlock] at e
            omega
          have hswap := World.setCell_alloc_past (w := wr) (.cells #[.int .i64 (ix plan k)] 2) G k (.slice (some ⟨wr.heap.size, 0, none⟩) 1 1) hGw
          have hput := RowsV.put hrwA (length_fixTo _ _ _) (by rw [length_fixTo]; exact hkn) hyo hfar
          have hszW : ((wr.setCell ⟨G, k, none⟩ (.slice (some ⟨wr.heap.size, 0, none⟩) 1 1)).alloc (.cells #[.int .i64 (ix plan k)] 2)).heap.size = (wr.alloc (.cells #[.int .i64 (ix plan k)] 2)).heap.size := by simp
          have hchW := (hch.trans (Chg.of_below hbn5)).trans (chg_setCell (wr.alloc (.cells #[.int .i64 (ix plan k)] 2)) ⟨G, k, none⟩ (.slice (some ⟨wr.heap.size, 0, none⟩) 1 1))
          rw [hswap] at hput hchW
          refine ⟨⟨k + 1, vs.set k (.slice (some ⟨wr.heap.size, 0, none⟩) 1 1), by omega, by go_num, by rw [hszW, ← Hs.out, Hat.out]; exact hput, fun b hb j hj hb2 => ?_, hchW⟩, by simp [intOf]; omega⟩
          rw [vx_set (by rw [Hvl.out]; exact hkn)] at hb2
          by_cases ej : j = k
          · rw [if_pos ej] at hb2
            have := hoi.2 b hb
            simp [Value.ownBlock] at hb2
            omega
          · rw [if_neg ej] at hb2
            exact Hne.out b hb j hj hb2
        · have Hs := Lib.hid (fixTo_same (a := a) e)
          go_wp2
          exact ⟨⟨k + 1, vs, by omega, by go_num, by rw [← Hs.out]; exact hrw, Hne.out, hch⟩, by simp [intOf]; omega⟩
      · obtain rfl : k = plan.length := by omega
        have hkk : a.next.length = plan.length := by rw [hlen.out, Hpl.out]
        have Hkk := Lib.hid hkk
        replace hR := (hch.block (w.heap.size + 1) hR.lt (by have := hbw.size; omega)).trans hR
        replace hR : Arr wr (w.heap.size + 1) 30 _ := hR
        have hRc0 := hR.c0
        have hRc1 := hR.c1
        have hRf0 := hR.frozen 0
        have hRf1 := hR.frozen 1
        clear hkk
        go_wp2
        have hR6 := (hR.set_ 0 (.slice O a.owner.length oc)).set_ 1 (.slice (some ⟨G, 0, none⟩) a.next.length nc)
        have hbw6 : Below w.heap.size w ((wr.setCell ⟨w.heap.size + 1, 0, none⟩ (.slice O a.owner.length oc)).setCell ⟨w.heap.size + 1, 1, none⟩ (.slice (some ⟨G, 0, none⟩) a.next.length nc)) := (hbw5.setCell (by simp) _).setCell (by simp) _
        have hcb : ∀ b, w0.heap.size ≤ b → ((wr.setCell ⟨w.heap.size + 1, 0, none⟩ (.slice O a.owner.length oc)).setCell ⟨w.heap.size + 1, 1, none⟩ (.slice (some ⟨G, 0, none⟩) a.next.length nc)).heap[b]? = wr.heap[b]? := fun b hb => by
          rw [Below.heap_setCell _ _ _ _ (by simp; omega), Below.heap_setCell _ _ _ _ (by simp; omega)]
        have hsz : ((wr.setCell ⟨w.heap.size + 1, 0, none⟩ (.slice O a.owner.length oc)).setCell ⟨w.heap.size + 1, 1, none⟩ (.slice (some ⟨G, 0, none⟩) a.next.length nc)).heap.size = wr.heap.size := by simp
        generalize (wr.setCell ⟨w.heap.size + 1, 0, none⟩ (.slice O a.owner.length oc)).setCell ⟨w.heap.size + 1, 1, none⟩ (.slice (some ⟨G, 0, none⟩) a.next.length nc) = w6 at *
        have q0 := hR6.c0
        have q1 := hR6.c1
        have hoi5 : OI wr w0.heap.size w3.heap.size (.slice O a.owner.length oc) a.owner := hoi.chg hch fun b hb e => by rw [e] at hb; exact owns_ne Hrw4.out hoi.1 row_type_ne rfl hb
        have hr5 : RowsV wr w0.heap.size wr.heap.size (.slice (some ⟨G, 0, none⟩) a.next.length nc) vs (fixTo a plan a.next.length) := by rw [Hkk.out]; rw [Hkk.out] at hrw; exact hrw
        have ho6 : OI w6 w.heap.size w6.heap.size (.slice O a.owner.length oc) a.owner := OI.mono (OI.heap (w := wr) hoi5 fun b hb => hcb b (hoi5.1.lt b hb).1) (by omega) (by omega)
        have hr6 : RowsV w6 w.heap.size w6.heap.size (.slice (some ⟨G, 0, none⟩) a.next.length nc) vs (fixTo a plan a.next.length) := (hr5.heap (fun b hb => hcb b (hr5.own.lt b hb).1) fun k hk b hb => hcb b ((hr5.row k hk).1.lt b hb).1).mono (by omega) (by omega)
        refine bodyPost_ret (v := .agg #[.slice O a.owner.length oc, .slice (some ⟨G, 0, none⟩) a.next.length nc]) (by simp [results, Try.results139, go_sem, q0, q1]) rfl ?_
        exact .mk' ⟨_, _, vs, rfl, ho6, hr6, fun b hb j hj => Hne.out b hb j (by simpa [fixA] using hj)⟩ hbw6

def RetArenaB (w : World) (a : ArenaD) (b : Bool) (e : Ending) (w' : World) : Prop := ∃ u, e = .returned (.tuple #[u, .bool b]) ∧ OA w' w.heap.size w'.heap.size u a ∧ Below w.heap.size w w'
theorem RetArenaB.mk' {w w' : World} {a : ArenaD} {b : Bool} {u : Value} (h1 : OA w' w.heap.size w'.heap.size u a) (h2 : Below w.heap.size w w') : RetArenaB w a b (.returned (.tuple #[u, .bool b])) w' := ⟨u, rfl, h1, h2⟩
theorem OA.none' (w : World) (B C : Nat) : OA w B C (.agg #[.slice none 0 0, .slice none 0 0]) ⟨[], []⟩ :=
  ⟨_, _, [], rfl, ⟨OwnInts.nil _ _, fun b hb => by simp [Value.ownBlock] at hb⟩, nil_rows _ _ _, fun b hb => by simp [Value.ownBlock] at hb⟩
def fixG (a : ArenaD) (who : Int) (plan : List Int) : ArenaD := if planOkB a who plan then fixA a plan else ⟨[], []⟩
theorem fixA_bulk {a : ArenaD} {plan : List Int} (hok : ArenaOk a) : bulkA (fixA a plan) ≤ 8192 := by
  have h1 := hok.le
  have h2 := hok.len
  have h3 : sizeR (fixTo a plan a.next.length) ≤ (fixTo a plan a.next.length).length * 16 := offR_mul (fun k hk => by
    rw [length_fixTo] at hk
    rw [rx_fixTo hk, if_pos hk]
    unfold fixAt
    split
    · simp
    · exact (hok.deg (by omega)).2) (Nat.le_refl _)
  rw [length_fixTo] at h3
  unfold bulkA fixA
  simp only [length_fixTo]
  omega
theorem fixG_bulk (a : ArenaD) (who : Int) (plan : List Int) : bulkA (fixG a who plan) ≤ 8192 := by
  unfold fixG
  split
  · rename_i h
    unfold planOkB at h
    rw [Bool.and_eq_true] at h
    exact fixA_bulk (arenaOkB_iff.1 h.1)
  · simp [bulkA, sizeR]

theorem RowsV.drew {w : World} {B C : Nat} {v : Value} {vs : List Value} {ll : List (List Int)} (h : RowsV w B C v vs ll) : RowsV w.drew B C v vs ll := ⟨h.len, h.own, h.lt, h.row, h.ne⟩
end Go.Proofs.Ytpnophmanpfejaa
