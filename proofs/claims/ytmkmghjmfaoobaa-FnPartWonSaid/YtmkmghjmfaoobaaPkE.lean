/- Texts of this claim that go together: FixedWalks, OnlyWalks, OnlyWalks2, Grow. Conditions: those that each theorem names. -/
import Derived.Test.YtmkmghjmfaoobaaPkD
import Derived.Test.YtmkmghjmfaoobaaPkB
import Derived.Deep.RegionHeld3
/- The walks of FixedBy, both ways, and of fixedBy. Conditions of fixedBy: a valid arena, a plan as long. Printed by gen_fixed.py. -/
namespace Go.Proofs.Ytmkmghjmfaoobaa
set_option linter.unusedSimpArgs false
set_option linter.unusedVariables false
open Go.RowKit

theorem chg_setCell (w : World) (p : Addr) (u : Value) : Chg (fun b => b = p.block) w (w.setCell p u) := ⟨rfl, rfl, rfl, by simp, fun k _ hne => Below.heap_setCell _ _ _ _ (fun e => hne e)⟩
def fixAt (a : ArenaD) (plan : List Int) (v : Nat) : List Int := if 0 ≤ ix plan v then [ix plan v] else rx a.next v
def fixTo (a : ArenaD) (plan : List Int) (k : Nat) : List (List Int) := (List.range a.next.length).map fun v => if v < k then fixAt a plan v else rx a.next v
@[simp] theorem length_fixTo (a : ArenaD) (plan : List Int) (k : Nat) : (fixTo a plan k).length = a.next.length := by simp [fixTo]
theorem rx_fixTo {a : ArenaD} {plan : List Int} {k v : Nat} (h : v < a.next.length) : rx (fixTo a plan k) v = if v < k then fixAt a plan v else rx a.next v := by simp [rx, fixTo, h]
theorem fixTo_zero (a : ArenaD) (plan : List Int) : fixTo a plan 0 = a.next := by
  apply rows_ext (by simp)
  intro j hj
  rw [rx_fixTo hj, if_neg (by omega)]
theorem fixTo_set {a : ArenaD} {plan : List Int} {k : Nat} (hk : k < a.next.length) : (fixTo a plan k).set k (fixAt a plan k) = fixTo a plan (k + 1) := by
  apply rows_ext (by simp)
  intro j hj
  rw [length_fixTo] at hj
  rw [rx_set (by simpa using hk), rx_fixTo hj, rx_fixTo hj]
  by_cases e : j = k
  · subst e; rw [if_pos rfl, if_pos (by omega)]
  · rw [if_neg e]
    by_cases e2 : j < k
    · rw [if_pos e2, if_pos (by omega)]
    · rw [if_neg e2, if_neg (by omega)]
theorem fixTo_same {a : ArenaD} {plan : List Int} {k : Nat} (h : ¬ 0 ≤ ix plan k) : fixTo a plan k = fixTo a plan (k + 1) := by
  apply rows_ext (by simp)
  intro j hj
  rw [length_fixTo] at hj
  rw [rx_fixTo hj, rx_fixTo hj]
  by_cases e : j = k
  · subst e; rw [if_neg (by omega), if_pos (by omega)]; unfold fixAt; rw [if_neg h]
  · by_cases e2 : j < k
    · rw [if_pos e2, if_pos (by omega)]
    · rw [if_neg e2, if_neg (by omega)]
def fixA (a : ArenaD) (plan : List Int) : ArenaD := ⟨a.owner, fixTo a plan a.next.length⟩
/-- A row is put in the place of another one. -/
theorem RowsV.put {w : World} {B C G k cap n : Nat} {y : Value} {vs : List Value} {ll : List (List Int)} {l : List Int} (h : RowsV w B C (.slice (some ⟨G, 0, none⟩) n cap) vs ll) (hn : ll.length = n) (hk : k < ll.length) (hy : OI w B C y l)
    (hne : ∀ j, j < ll.length → ∀ b, (vx vs j).ownBlock = some b → y.ownBlock ≠ some b) : RowsV (w.setCell ⟨G, k, none⟩ y) B C (.slice (some ⟨G, 0, none⟩) n cap) (vs.set k y) (ll.set k l) := by
  subst hn
  have hl := h.len
  have hst := World.ownsRow.stored h.own k y
  have hfar : ∀ j, j < ll.length → ∀ b, (vx vs j).ownBlock = some b → b ≠ G := fun j hj b hb e => by
    subst e; exact owns_ne h.own (h.row j hj).1 row_type_ne rfl hb
  have hfy : ∀ b, y.ownBlock = some b → b ≠ G := fun b hb e => by subst e; exact owns_ne h.own hy.1 row_type_ne rfl hb
  have hrow : ∀ j, j < ll.length → OI (w.setCell ⟨G, k, none⟩ y) B C (vx (vs.set k y) j) (rx (ll.set k l) j) := fun j hj => by
    rw [vx_set (by omega), rx_set hk]
    by_cases e : j = k
    · rw [if_pos e, if_pos e]
      exact hy.heap fun b hb => Below.heap_setCell _ _ _ _ (fun e => hfy b hb e)
    · rw [if_neg e, if_neg e]
      exact (h.row j hj).heap fun b hb => Below.heap_setCell _ _ _ _ (fun e => hfar j hj b hb e)
  refine ⟨by simpa using hl, by simpa using hst.1, h.lt, fun j hj => hrow j (by simpa using hj), fun i j hi hj hij b hb => ?_⟩
  rw [List.length_set] at hi hj
  rw [vx_set (by omega)] at hb ⊢
  by_cases ei : i = k
  · rw [if_pos ei] at hb
    rw [if_neg (by omega)]
    intro hb2
    exact hne j hj b hb2 hb
  · rw [if_neg ei] at hb
    by_cases ej : j = k
    · rw [if_pos ej]
      exact hne i hi b hb
    · rw [if_neg ej]
      exact h.ne i j hi hj hij b hb

set_option maxRecDepth 100000 in
set_option maxHeartbeats 2000000 in
theorem fixedBy_any (v : Value) (a : ArenaD) (u : Value) (plan : List Int) (w : World) (hv : IsArena w v a) (hu : Ints w u plan) (hok : ArenaOk a) (hpl : plan.length = a.owner.length) :
    Calls Try.prog 102 #[v, u] w (RetArena w (fixA a plan)) := by
  obtain ⟨o, n, rfl, hbw, hB, _⟩ := arena_box hv
  have hR : Arr ((w.alloc (.cells #[o, n] 30)).alloc (.cells #[.slice none 0 0, .slice none 0 0] 30)) (w.heap.size + 1) 30 [.slice none 0 0, .slice none 0 0] := by
    simpa using Arr.new (w.alloc (.cells #[o, n] 30)) 30 [.slice none 0 0, .slice none 0 0]
  replace hB := hB.alloc (.cells #[.slice none 0 0, .slice none 0 0] 30)
  replace hbw := hbw.alloc hbw.size (.cells #[.slice none 0 0, .slice none 0 0] 30)
  obtain ⟨A2, c2, rfl, hlc2, hcm2⟩ := hu.form
  have hle := hok.le
  have hlen := Lib.hid hok.len
  have hpos := hok.pos
  have Hpl := Lib.hid hpl
  clear hpl
  have hRl0 := hR.lt
  go_enter Try.func102, Try.ntmps102
  have hBz := hB.lt
  have hBc0 := hB.c0
  have hBc1 := hB.c1
  have hRz := hR.lt
  have hRc0 := hR.c0
  have hRc1 := hR.c1
  go_wp2_with fail
  generalize (w.alloc (.cells #[o, n] 30)).alloc (.cells #[.slice none 0 0, .slice none 0 0] 30) = w0 at *
  refine (copyArena_any _ a _ (hv.kept (Kept.of hbw)) (by omega) (by rw [hlen.out]; omega) (fun k hk => by have := (hok.deg (v := k) (by rw [← hlen.out]; exact hk)).2; omega)).mono ?_
  rintro e w3 ⟨u3, rfl, hu3, hb3⟩
  obtain ⟨o', n', vs, rfl, hoi, hrw, hne⟩ := hu3
  clear hBc0 hBc1 hRc0 hRc1 hBz hRz
  replace hB := hB.below hb3 hB.lt
  replace hR := hR.below hb3 hR.lt
  replace hbw := Below.up hbw hb3
  have hb3s := hb3.size
  clear hb3
  have hBz := hB.lt
  have hBc0 := hB.c0
  have hBc1 := hB.c1
  have hRz := hR.lt
  have hRc0 := hR.c0
  have hRc1 := hR.c1
  obtain ⟨N, nc, en, _⟩ := hrw.rows.form
  subst en
  obtain ⟨O, oc, eo, _⟩ := hoi.ints.form
  subst eo
  rcases hrw.own.2 with ⟨hnil, h0⟩ | ⟨G, cap, cur, eN, hG0, hG1, hcap, hcm, _⟩
  · rw [hlen.out] at h0; omega
  · simp only [Value.slice.injEq, true_and] at eN
    obtain ⟨rfl, rfl⟩ := eN
    have hG2 := (Array.getElem?_eq_some_iff.1 hG1).1
    clear hG1
    have hX0 : Arr (w3.alloc (.cells #[.slice O a.owner.length oc, .slice (some ⟨G, 0, none⟩) a.next.length nc] 30)) w3.heap.size 30 [.slice O a.owner.length oc, .slice (some ⟨G, 0, none⟩) a.next.length nc] := Arr.new _ _ _
    have hbn := (Below.refl w3.heap.size w3).alloc (Nat.le_refl _) (.cells #[.slice O a.owner.length oc, .slice (some ⟨G, 0, none⟩) a.next.length nc] 30)
    replace hoi := hoi.below hbn
    replace hrw := (hrw.kept (Only.of_below (B := w3.heap.size) (C := w3.heap.size) hbn) (.inl (Nat.le_refl _))).mono (Nat.le_refl _) hbn.size
    go_wp2
    clear hBc0 hBc1 hRc0 hRc1 hBz hRz
    replace hB := hB.below hbn hB.lt
    replace hR := hR.below hbn hR.lt
    replace hbw := Below.up hbw hbn
    have hbns := hbn.size
    clear hbn
    have hBz := hB.lt
    have hBc0 := hB.c0
    have hBc1 := hB.c1
    have hRz := hR.lt
    have hRc0 := hR.c0
    have hRc1 := hR.c1
    clear hBc0 hBc1 hRc0 hRc1 hBz hRz
    generalize w3.alloc (.cells #[.slice O a.owner.length oc, .slice (some ⟨G, 0, none⟩) a.next.length nc] 30) = w4 at *
    have hw4 := hX0.lt
    have Hrw4 := Lib.hid hrw.own
    have Hu4 := Lib.hid ((hu.kept (Kept.of hbw)))
    go_loopw [12] (fun i wr => ∃ (k : Nat) (vs : List Value), k ≤ plan.length ∧ i = .int .i64 k ∧ RowsV wr w0.heap.size wr.heap.size (.slice (some ⟨G, 0, none⟩) a.next.length nc) vs (fixTo a plan k) ∧ (∀ b, (Value.slice O a.owner.length oc).ownBlock = some b → ∀ j, j < a.next.length → (vx vs j).ownBlock ≠ some b) ∧ Chg (fun b => b = G) w4 wr) (fun i _ => plan.length - (intOf i).toNat)
    case atStart => exact ⟨0, vs, Nat.zero_le _, rfl, by rw [fixTo_zero]; exact hrw, hne, Chg.refl _ _⟩
    case round =>
      obtain ⟨k, vs, hk, rfl, hrw, hne, hch⟩ := hrel
      have Hne := Lib.hid hne
      clear hne
      have hsz4 := hch.size
      have hX : Arr wr w3.heap.size 30 _ := (hch.block w3.heap.size hw4 (by omega)).trans hX0
      have hXc0 := hX.c0
      have hXc1 := hX.c1
      have hbw5 : Below w.heap.size w wr := hbw.trans ⟨hch.os, hch.tape, hch.output, hch.size, fun b hb => hch.block b (by have := hbw.size; omega) (by omega)⟩
      by_cases hlt : k < plan.length
      · have hkn : k < a.next.length := by rw [hlen.out, ← Hpl.out]; exact hlt
        obtain ⟨a1, ea, hc1⟩ := (hu.kept (Kept.of hbw5)).at_ hlt
        subst ea
        have hkn' : (k : Int) < a.next.length := by omega
        by_cases e : 0 ≤ ix plan k
        · have Hs := Lib.hid (fixTo_set (a := a) (plan := plan) hkn)
          have Hat := Lib.hid (show fixAt a plan k = [ix plan k] by unfold fixAt; rw [if_pos e])
          have hro := hrw.own
          rw [length_fixTo] at hro
          have hcG := hro.cellAt k (by omega)
          have hvl : vs.length = a.next.length := by rw [hrw.len, length_fixTo]
          rw [List.getElem?_eq_getElem (by omega), ← vx_lt (by omega)] at hcG
          have hfG := hro.frozenAt k
          have hnew := ione_new wr (ix plan k)
          have hbn5 := (Below.refl wr.heap.size wr).alloc (Nat.le_refl _) (.cells #[.int .i64 (ix plan k)] 2)
          have hGw : G < wr.heap.size := by omega
          have Hvl := Lib.hid hvl
          clear hvl
          go_wp2
          clear hcG hfG
          have hrwA := (hrw.kept (Only.of_below (B := wr.heap.size) (C := wr.heap.size) hbn5) (.inl (Nat.le_refl _))).mono (Nat.le_refl _) hbn5.size
          have hyo : OI (wr.alloc (.cells #[.int .i64 (ix plan k)] 2)) w0.heap.size (wr.alloc (.cells #[.int .i64 (ix plan k)] 2)).heap.size (.slice (some ⟨wr.heap.size, 0, none⟩) 1 1) [ix plan k] :=
            ⟨IArr.own (B := w0.heap.size) hnew (by omega) (by simp), fun b hb => by simp [Value.ownBlock] at hb; subst hb; simp⟩
          have hfar : ∀ j, j < (fixTo a plan k).length → ∀ b, (vx vs j).ownBlock = some b → (Value.slice (some ⟨wr.heap.size, 0, none⟩) 1 1).ownBlock ≠ some b := fun j hj b hb e => by
            have h3 := ((hrw.row j hj).1.lt b hb).2
            simp [Value.ownBlock] at e
            omega
          have hswap := World.setCell_alloc_past (w := wr) (.cells #[.int .i64 (ix plan k)] 2) G k (.slice (some ⟨wr.heap.size, 0, none⟩) 1 1) hGw
          have hput := RowsV.put hrwA (length_fixTo _ _ _) (by rw [length_fixTo]; exact hkn) hyo hfar
          have hszW : ((wr.setCell ⟨G, k, none⟩ (.slice (some ⟨wr.heap.size, 0, none⟩) 1 1)).alloc (.cells #[.int .i64 (ix plan k)] 2)).heap.size = (wr.alloc (.cells #[.int .i64 (ix plan k)] 2)).heap.size := by simp
          have hchW := (hch.trans (Chg.of_below hbn5)).trans (chg_setCell (wr.alloc (.cells #[.int .i64 (ix plan k)] 2)) ⟨G, k, none⟩ (.slice (some ⟨wr.heap.size, 0, none⟩) 1 1))
          rw [hswap] at hput hchW
          refine ⟨⟨k + 1, vs.set k (.slice (some ⟨wr.heap.size, 0, none⟩) 1 1), by omega, by go_num, by rw [hszW, ← Hs.out, Hat.out]; exact hput, fun b hb j hj hb2 => ?_, hchW⟩, by simp [intOf]; omega⟩
          rw [vx_set (by rw [Hvl.out]; exact hkn)] at hb2
          by_cases ej : j = k
          · rw [if_pos ej] at hb2
            have := hoi.2 b hb
            simp [Value.ownBlock] at hb2
            omega
          · rw [if_neg ej] at hb2
            exact Hne.out b hb j hj hb2
        · have Hs := Lib.hid (fixTo_same (a := a) e)
          go_wp2
          exact ⟨⟨k + 1, vs, by omega, by go_num, by rw [← Hs.out]; exact hrw, Hne.out, hch⟩, by simp [intOf]; omega⟩
      · obtain rfl : k = plan.length := by omega
        have hkk : a.next.length = plan.length := by rw [hlen.out, Hpl.out]
        have Hkk := Lib.hid hkk
        replace hR := (hch.block (w.heap.size + 1) hR.lt (by have := hbw.size; omega)).trans hR
        replace hR : Arr wr (w.heap.size + 1) 30 _ := hR
        have hRc0 := hR.c0
        have hRc1 := hR.c1
        have hRf0 := hR.frozen 0
        have hRf1 := hR.frozen 1
        clear hkk
        go_wp2
        have hR6 := (hR.set_ 0 (.slice O a.owner.length oc)).set_ 1 (.slice (some ⟨G, 0, none⟩) a.next.length nc)
        have hbw6 : Below w.heap.size w ((wr.setCell ⟨w.heap.size + 1, 0, none⟩ (.slice O a.owner.length oc)).setCell ⟨w.heap.size + 1, 1, none⟩ (.slice (some ⟨G, 0, none⟩) a.next.length nc)) := (hbw5.setCell (by simp) _).setCell (by simp) _
        have hcb : ∀ b, w0.heap.size ≤ b → ((wr.setCell ⟨w.heap.size + 1, 0, none⟩ (.slice O a.owner.length oc)).setCell ⟨w.heap.size + 1, 1, none⟩ (.slice (some ⟨G, 0, none⟩) a.next.length nc)).heap[b]? = wr.heap[b]? := fun b hb => by
          rw [Below.heap_setCell _ _ _ _ (by simp; omega), Below.heap_setCell _ _ _ _ (by simp; omega)]
        have hsz : ((wr.setCell ⟨w.heap.size + 1, 0, none⟩ (.slice O a.owner.length oc)).setCell ⟨w.heap.size + 1, 1, none⟩ (.slice (some ⟨G, 0, none⟩) a.next.length nc)).heap.size = wr.heap.size := by simp
        generalize (wr.setCell ⟨w.heap.size + 1, 0, none⟩ (.slice O a.owner.length oc)).setCell ⟨w.heap.size + 1, 1, none⟩ (.slice (some ⟨G, 0, none⟩) a.next.length nc) = w6 at *
        have q0 := hR6.c0
        have q1 := hR6.c1
        have hoi5 : OI wr w0.heap.size w3.heap.size (.slice O a.owner.length oc) a.owner := hoi.chg hch fun b hb e => by rw [e] at hb; exact owns_ne Hrw4.out hoi.1 row_type_ne rfl hb
        have hr5 : RowsV wr w0.heap.size wr.heap.size (.slice (some ⟨G, 0, none⟩) a.next.length nc) vs (fixTo a plan a.next.length) := by rw [Hkk.out]; rw [Hkk.out] at hrw; exact hrw
        have ho6 : OI w6 w.heap.size w6.heap.size (.slice O a.owner.length oc) a.owner := OI.mono (OI.heap (w := wr) hoi5 fun b hb => hcb b (hoi5.1.lt b hb).1) (by omega) (by omega)
        have hr6 : RowsV w6 w.heap.size w6.heap.size (.slice (some ⟨G, 0, none⟩) a.next.length nc) vs (fixTo a plan a.next.length) := (hr5.heap (fun b hb => hcb b (hr5.own.lt b hb).1) fun k hk b hb => hcb b ((hr5.row k hk).1.lt b hb).1).mono (by omega) (by omega)
        refine bodyPost_ret (v := .agg #[.slice O a.owner.length oc, .slice (some ⟨G, 0, none⟩) a.next.length nc]) (by simp [results, Try.results102, go_sem, q0, q1]) rfl ?_
        exact .mk' ⟨_, _, vs, rfl, ho6, hr6, fun b hb j hj => Hne.out b hb j (by simpa [fixA] using hj)⟩ hbw6

def RetArenaB (w : World) (a : ArenaD) (b : Bool) (e : Ending) (w' : World) : Prop := ∃ u, e = .returned (.tuple #[u, .bool b]) ∧ OA w' w.heap.size w'.heap.size u a ∧ Below w.heap.size w w'
theorem RetArenaB.mk' {w w' : World} {a : ArenaD} {b : Bool} {u : Value} (h1 : OA w' w.heap.size w'.heap.size u a) (h2 : Below w.heap.size w w') : RetArenaB w a b (.returned (.tuple #[u, .bool b])) w' := ⟨u, rfl, h1, h2⟩
theorem OA.none' (w : World) (B C : Nat) : OA w B C (.agg #[.slice none 0 0, .slice none 0 0]) ⟨[], []⟩ :=
  ⟨_, _, [], rfl, ⟨OwnInts.nil _ _, fun b hb => by simp [Value.ownBlock] at hb⟩, nil_rows _ _ _, fun b hb => by simp [Value.ownBlock] at hb⟩
def fixG (a : ArenaD) (who : Int) (plan : List Int) : ArenaD := if planOkB a who plan then fixA a plan else ⟨[], []⟩
theorem fixA_bulk {a : ArenaD} {plan : List Int} (hok : ArenaOk a) : bulkA (fixA a plan) ≤ 8192 := by
  have h1 := hok.le
  have h2 := hok.len
  have h3 : sizeR (fixTo a plan a.next.length) ≤ (fixTo a plan a.next.length).length * 16 := offR_mul (fun k hk => by
    rw [length_fixTo] at hk
    rw [rx_fixTo hk, if_pos hk]
    unfold fixAt
    split
    · simp
    · exact (hok.deg (by omega)).2) (Nat.le_refl _)
  rw [length_fixTo] at h3
  unfold bulkA fixA
  simp only [length_fixTo]
  omega
theorem fixG_bulk (a : ArenaD) (who : Int) (plan : List Int) : bulkA (fixG a who plan) ≤ 8192 := by
  unfold fixG
  split
  · rename_i h
    unfold planOkB at h
    rw [Bool.and_eq_true] at h
    exact fixA_bulk (arenaOkB_iff.1 h.1)
  · simp [bulkA, sizeR]

theorem RowsV.drew {w : World} {B C : Nat} {v : Value} {vs : List Value} {ll : List (List Int)} (h : RowsV w B C v vs ll) : RowsV w.drew B C v vs ll := ⟨h.len, h.own, h.lt, h.row, h.ne⟩
end Go.Proofs.Ytmkmghjmfaoobaa

/- The walks of OnlyBy, both ways, and of what they call. No condition but the lists' lengths. -/
namespace Go.Proofs.Ytmkmghjmfaoobaa
set_option linter.unusedSimpArgs false
set_option linter.unusedVariables false
open Go.RowKit

def pickAt (a : ArenaD) (picks : List Int) (v : Nat) : Bool := decide (ix picks v = -1) || hasB (rx a.next v) (ix picks v)
def pickAll (a : ArenaD) (picks : List Int) : Bool := decide (∀ v, v < picks.length → pickAt a picks v = true)
def picksB (g : ParityD) (picks : List Int) : Bool := decide (picks.length = g.prio.length) && pickAll g.arena picks
theorem pickAll_bad {a : ArenaD} {picks : List Int} {v : Nat} (hv : v < picks.length) (h : pickAt a picks v = false) : pickAll a picks = false := by
  unfold pickAll; rw [decide_eq_false_iff_not]; intro h'; rw [h' v hv] at h; cases h
def onlyOkB (g : ParityD) (picks : List Int) : Bool := parityOkB g && picksB g picks
def onlyP (g : ParityD) (picks : List Int) : ParityD := ⟨fixA g.arena picks, g.prio⟩
def onlyG (g : ParityD) (picks : List Int) : ParityD := if onlyOkB g picks then onlyP g picks else ⟨⟨[], []⟩, []⟩
theorem onlyG_bulk (g : ParityD) (picks : List Int) : bulkP (onlyG g picks) ≤ 16384 := by
  unfold onlyG
  split
  · rename_i h
    unfold onlyOkB at h
    rw [Bool.and_eq_true] at h
    have hok := parityOkB_iff.1 h.1
    have h1 := fixA_bulk (plan := picks) hok.arena
    have h2 := hok.len
    have h3 := hok.arena.le
    unfold bulkP onlyP
    simp only
    omega
  · simp [bulkP, bulkA, sizeR]

set_option maxRecDepth 100000 in
set_option maxHeartbeats 2000000 in
theorem arePicks_any (v : Value) (g : ParityD) (u : Value) (l : List Int) (w : World) (hv : IsParity w v g) (hu : Ints w u l) (hok : ParityOk g) :
    Calls Try.prog 65 #[v, u] w fun e w' => e = .returned (.bool (picksB g l)) ∧ Below w.heap.size w w' := by
  obtain ⟨o, n, p, rfl, hbw, hB⟩ := parity_box hv
  obtain ⟨ha, hp⟩ := hv.parts
  obtain ⟨ho, hn⟩ := ha.parts
  obtain ⟨A', c', rfl, hlc', hcm'⟩ := hn.form
  obtain ⟨P, pc, rfl, hpl, hpm⟩ := hp.form
  obtain ⟨S, sc, rfl, hsl, hsm⟩ := hu.form
  by_cases h1 : l.length = g.prio.length
  · have hd1 : ((l.length : Int) != (g.prio.length : Int)) = false := by simp [h1]
    have hres : picksB g l = pickAll g.arena l := by unfold picksB; rw [decide_eq_true h1]; rfl
    rw [hres]; clear hres
    obtain ⟨res, hres⟩ : ∃ r, pickAll g.arena l = r := ⟨_, rfl⟩
    rw [hres]
    have Hres := Lib.hid hres
    clear hres
    have Hlen := Lib.hid hok.arena.len
    have Hol := Lib.hid hok.len
    have H1 := Lib.hid h1
    clear h1
    go_enter Try.func65, Try.ntmps65
    have hBz := hB.lt
    have hBc0 := hB.c0
    have hBc1 := hB.c1
    have hBc2 := hB.c2
    go_wp2
    clear hd1
    generalize w.alloc (.cells #[o, .slice A' g.arena.next.length c', .slice P g.prio.length pc] 32) = w0 at *
    have hu1 := (hu.kept (Kept.of hbw))
    have hn1 := (hn.kept (Kept.of hbw))
    go_loop [15] (fun i => ∃ k : Nat, k ≤ l.length ∧ i = .int .i64 k ∧ ∀ j, j < k → pickAt g.arena l j = true) (fun i => l.length - (intOf i).toNat)
    case atStart => exact ⟨0, Nat.zero_le _, rfl, fun j hj => by omega⟩
    case round =>
      obtain ⟨k, hk, rfl, hm⟩ := hrel
      have Hm := Lib.hid hm
      clear hm
      by_cases hlt : k < l.length
      · have hkn : k < g.arena.next.length := by rw [Hlen.out, ← Hol.out, ← H1.out]; exact hlt
        obtain ⟨a1, ea, hc1⟩ := hu1.at_ hlt
        subst ea
        obtain ⟨a4, R, r, ea, hc4, hrow⟩ := hn1.at_ hkn
        subst ea
        have hkl : (k : Int) < g.arena.next.length := by omega
        have hbad : pickAt g.arena l k = false → res = false := fun h => by rw [← Hres.out]; exact pickAll_bad hlt h
        have hcont := Contains_any _ (rx g.arena.next k) (ix l k) w0 hrow
        by_cases e3 : ix l k = -1
        · have hd3 : (ix l k != -1) = false := by simpa using e3
          have Hat := Lib.hid (show pickAt g.arena l k = true by unfold pickAt; rw [decide_eq_true e3]; rfl)
          clear hbad e3 hcont
          go_wp2
          exact ⟨⟨k + 1, by omega, by go_num, fun i hi => by
            by_cases ei : i = k
            · rw [ei]; exact Hat.out
            · exact Hm.out i (by omega)⟩, by simp [intOf]; omega⟩
        · have hd3 : (ix l k != -1) = true := by simpa using e3
          have hat : pickAt g.arena l k = hasB (rx g.arena.next k) (ix l k) := by unfold pickAt; rw [decide_eq_false e3]; rfl
          cases e4 : hasB (rx g.arena.next k) (ix l k)
          · have hr : res = false := hbad (by rw [hat, e4])
            subst hr
            rw [e4] at hcont
            clear hbad e3 e4 hat
            go_wp2_with (go_at_call 101; refine hcont.mono ?_; rintro e w' ⟨rfl, hw⟩; subst w')
            go_ret
            exact ⟨rfl, hbw⟩
          · have Hat := Lib.hid (hat.trans e4)
            rw [e4] at hcont
            clear hbad e3 e4 hat
            go_wp2_with (go_at_call 101; refine hcont.mono ?_; rintro e w' ⟨rfl, hw⟩; subst w')
            exact ⟨⟨k + 1, by omega, by go_num, fun i hi => by
              by_cases ei : i = k
              · rw [ei]; exact Hat.out
              · exact Hm.out i (by omega)⟩, by simp [intOf]; omega⟩
      · have hr : res = true := by
          rw [← Hres.out]; unfold pickAll; rw [decide_eq_true_eq]; exact fun j hj => Hm.out j (by omega)
        subst hr
        go_wp2
        go_ret
        exact ⟨rfl, hbw⟩
  · have hd1 : ((l.length : Int) != (g.prio.length : Int)) = true := by simp; omega
    have hres : picksB g l = false := by unfold picksB; rw [decide_eq_false h1]; rfl
    rw [hres]; clear hres
    go_enter Try.func65, Try.ntmps65
    have hBz := hB.lt
    have hBc0 := hB.c0
    have hBc1 := hB.c1
    have hBc2 := hB.c2
    go_wp2
    go_ret
    exact ⟨rfl, hbw⟩

/-- An arena and a row elsewhere make a game. -/
theorem OP.join' {w : World} {B C B1 C1 : Nat} {o n p : Value} {g : ParityD} (h1 : OA w B1 C1 (.agg #[o, n]) g.arena) (h2 : OI w B C p g.prio) (hd : ∀ b, p.ownBlock = some b → b < B1 ∨ C1 ≤ b) (hB : B ≤ B1) (hC : C1 ≤ C) : OP w B C (.agg #[o, n, p]) g := by
  obtain ⟨o', n', vs, he, h3, h4, h5⟩ := h1
  simp only [Value.agg.injEq, Array.mk.injEq, List.cons.injEq, and_true] at he
  obtain ⟨rfl, rfl⟩ := he
  refine ⟨o, n, p, vs, rfl, h3.mono hB hC, h4.mono hB hC, h2, h5, fun b hb e => ?_, fun b hb k hk e => ?_⟩
  · have h6 := hd b hb; have h7 := (h3.1.lt b e).1; have h8 := h3.2 b e; omega
  · have h6 := hd b hb; have h7 := ((h4.row k hk).1.lt b e).1; have h8 := (h4.row k hk).2 b e; omega
theorem OP.heapFrom {w w' : World} {B C : Nat} {v : Value} {g : ParityD} (h : OP w B C v g) (hh : ∀ b, B ≤ b → w'.heap[b]? = w.heap[b]?) : OP w' B C v g := by
  obtain ⟨o, n, p, vs, rfl, h1, h2, h3, h4, h5, h6⟩ := h
  exact ⟨o, n, p, vs, rfl, h1.heap' fun b hb => hh b (h1.1.lt b hb).1, h2.heap (fun b hb => hh b (h2.own.lt b hb).1) (fun k hk b hb => hh b ((h2.row k hk).1.lt b hb).1), h3.heap' fun b hb => hh b (h3.1.lt b hb).1, h4, h5, h6⟩
def RetParity (w : World) (g : ParityD) (e : Ending) (w' : World) : Prop := ∃ u, e = .returned u ∧ OP w' w.heap.size w'.heap.size u g ∧ Below w.heap.size w w'
theorem RetParity.mk' {w w' : World} {g : ParityD} {u : Value} (h1 : OP w' w.heap.size w'.heap.size u g) (h2 : Below w.heap.size w w') : RetParity w g (.returned u) w' := ⟨u, rfl, h1, h2⟩
def RetParityB (w : World) (g : ParityD) (b : Bool) (e : Ending) (w' : World) : Prop := ∃ u, e = .returned (.tuple #[u, .bool b]) ∧ OP w' w.heap.size w'.heap.size u g ∧ Below w.heap.size w w'
theorem RetParityB.mk' {w w' : World} {g : ParityD} {b : Bool} {u : Value} (h1 : OP w' w.heap.size w'.heap.size u g) (h2 : Below w.heap.size w w') : RetParityB w g b (.returned (.tuple #[u, .bool b])) w' := ⟨u, rfl, h1, h2⟩
theorem OP.none' (w : World) (B C : Nat) : OP w B C (.agg #[.slice none 0 0, .slice none 0 0, .slice none 0 0]) ⟨⟨[], []⟩, []⟩ :=
  ⟨_, _, _, [], rfl, ⟨OwnInts.nil _ _, fun b hb => by simp [Value.ownBlock] at hb⟩, nil_rows _ _ _, ⟨OwnInts.nil _ _, fun b hb => by simp [Value.ownBlock] at hb⟩, fun b hb => by simp [Value.ownBlock] at hb, fun b hb => by simp [Value.ownBlock] at hb, fun b hb => by simp [Value.ownBlock] at hb⟩

set_option maxRecDepth 100000 in
set_option maxHeartbeats 4000000 in
theorem onlyBy_any (v : Value) (g : ParityD) (u : Value) (l : List Int) (w : World) (hv : IsParity w v g) (hu : Ints w u l) (hok : ParityOk g) (hl : l.length = g.prio.length) :
    Calls Try.prog 67 #[v, u] w (RetParity w (onlyP g l)) := by
  obtain ⟨o, n, p, rfl, hbw, hB⟩ := parity_box hv
  obtain ⟨ha, hp⟩ := hv.parts
  obtain ⟨P, pc, rfl, hpl, hpm⟩ := hp.form
  have hR : Arr ((w.alloc (.cells #[o, n, .slice P g.prio.length pc] 32)).alloc (.cells #[.slice none 0 0, .slice none 0 0, .slice none 0 0] 32)) (w.heap.size + 1) 32 [.slice none 0 0, .slice none 0 0, .slice none 0 0] := by
    simpa using Arr.new (w.alloc (.cells #[o, n, .slice P g.prio.length pc] 32)) 32 [.slice none 0 0, .slice none 0 0, .slice none 0 0]
  replace hB := hB.alloc (.cells #[.slice none 0 0, .slice none 0 0, .slice none 0 0] 32)
  replace hbw := hbw.alloc hbw.size (.cells #[.slice none 0 0, .slice none 0 0, .slice none 0 0] 32)
  have hBc0 := hB.c0
  have hBc1 := hB.c1
  have hBc2 := hB.c2
  have hle := hok.arena.le
  have hpo := Lib.hid hok.len
  have hlen : l.length = g.arena.owner.length := by rw [hl, hpo.out]
  have hp256 : g.prio.length ≤ 256 := by rw [hpo.out]; exact hle
  have Hlen := Lib.hid hlen
  clear hl hlen
  go_enter Try.func67, Try.ntmps67
  go_wp2_with fail
  generalize (w.alloc (.cells #[o, n, .slice P g.prio.length pc] 32)).alloc (.cells #[.slice none 0 0, .slice none 0 0, .slice none 0 0] 32) = w0 at *
  obtain ⟨hn0', hbn'⟩ := new_ints w0
  have hn0 : OwnInts (w0.alloc (.cells #[] 2)).drew w0.heap.size (.slice (some ⟨w0.heap.size, 0, none⟩) 0 0) [] := hn0'
  have hbn : Below w0.heap.size w0 (w0.alloc (.cells #[] 2)).drew := ⟨hbn'.os, hbn'.tape, hbn'.output, hbn'.size, hbn'.block⟩
  clear hn0' hbn'
  have hszA : (w0.alloc (.cells #[] 2)).drew.heap.size = w0.heap.size + 1 := by simp
  have HszA := Lib.hid hszA
  clear hszA
  have hbd : Below w0.heap.size w0 w0.drew := ⟨rfl, rfl, rfl, Nat.le_refl _, fun _ _ => rfl⟩
  have hcall := fun W (hW : Below w0.heap.size w0 W) => fixedBy_any _ g.arena _ l W (((ha.kept (Kept.of hbw))).kept (Kept.of hW)) (((hu.kept (Kept.of hbw))).kept (Kept.of hW)) hok.arena Hlen.out
  have Hc := Lib.hid hcall
  have Hp := Lib.hid (fun W (hW : Below w0.heap.size w0 W) => ((hp.kept (Kept.of hbw))).kept (Kept.of hW))
  have HS := Lib.hid (fun W (hW : Below w0.heap.size w0 W) => (show W.cell? ⟨w.heap.size, 0, none⟩ = some o ∧ W.cell? ⟨w.heap.size, 1, none⟩ = some n ∧ W.cell? ⟨w.heap.size, 2, none⟩ = some (.slice P g.prio.length pc) from ⟨(hB.below hW hB.lt).c0, (hB.below hW hB.lt).c1, (hB.below hW hB.lt).c2⟩))
  clear hcall
  go_region_held3 (fun W => W.cell? ⟨w.heap.size, 0, none⟩ = some o ∧ W.cell? ⟨w.heap.size, 1, none⟩ = some n ∧ W.cell? ⟨w.heap.size, 2, none⟩ = some (.slice P g.prio.length pc))
    (first | exact HS.out _ hbd | exact HS.out _ hbn | exact HS.out _ hR5 | exact HS.out _ hR5a | exact HS.out _ hR6 | exact ⟨(((hB6.far (p := ⟨w.heap.size + 1, 0, none⟩) (by simp) _).far (p := ⟨w.heap.size + 1, 1, none⟩) (by simp) _).far (p := ⟨w.heap.size + 1, 2, none⟩) (by simp) _).c0, (((hB6.far (p := ⟨w.heap.size + 1, 0, none⟩) (by simp) _).far (p := ⟨w.heap.size + 1, 1, none⟩) (by simp) _).far (p := ⟨w.heap.size + 1, 2, none⟩) (by simp) _).c1, (((hB6.far (p := ⟨w.heap.size + 1, 0, none⟩) (by simp) _).far (p := ⟨w.heap.size + 1, 1, none⟩) (by simp) _).far (p := ⟨w.heap.size + 1, 2, none⟩) (by simp) _).c2⟩)
    (first | (go_at_call 102; refine (Hc.out w0.drew hbd).mono ?_; rintro e w5 ⟨u5, rfl, hu5, hb5⟩; obtain ⟨F1, f1, F2, f2, hf⟩ := OA.form hu5; subst hf; replace hu5 : OA w5 w0.heap.size w5.heap.size _ _ := hu5; have hR5 : Below w0.heap.size w0 w5 := below_of_drew hb5; have hR5a := hR5.alloc hR5.size (.cells #[] 2); obtain ⟨hn5, hbn5⟩ := new_ints w5; have hbs5 : w5.heap.size ≤ (w5.alloc (.cells #[] 2)).heap.size := by simp) | (go_at_call 102; refine (Hc.out _ hbn).mono ?_; rintro e w5 ⟨u5, rfl, hu5, hb5⟩; obtain ⟨F1, f1, F2, f2, hf⟩ := OA.form hu5; subst hf; rw [HszA.out] at hu5; have hn5 := hn0.below hb5 (Nat.le_refl _); have hR5 := hbn.trans (hb5.mono hbn.size)) | (refine step_append_ints (w5.alloc (.cells #[] 2)) rfl (.tmp 9) (.tmp 11) rfl w5.heap.size (.slice (some ⟨w5.heap.size, 0, none⟩) 0 0) [] rfl hn5 (.slice P g.prio.length pc) g.prio rfl (Hp.out _ hR5a) (by simp; omega) hbs5 ?_; intro v6 w6 ho6 hb6 hg6 hl6; have hR6 := hR5.trans ((hbn5.trans hb6).mono hR5.size); have hu6 := hu5.below (hbn5.trans hb6); have ho6a := ho6.more (B' := w0.heap.size) hR5.size; have hd6 : ∀ b, v6.ownBlock = some b → b < w0.heap.size ∨ w5.heap.size ≤ b := fun b hb => .inr (ho6.lt b hb).1; have hB1 : w0.heap.size ≤ w0.heap.size := Nat.le_refl _; rw [List.nil_append] at ho6; obtain ⟨Q, qc, eq6, _⟩ := ho6.ints.form; subst eq6; have hB6 := hB.below hR6 hB.lt; have hX6 := hR.below hR6 hR.lt; have q0 := hX6.c0; have q1 := hX6.c1; have q2 := hX6.c2; have q3 := hX6.frozen 0; have q4 := hX6.frozen 1; have q5 := hX6.frozen 2) | (refine step_append_ints w5 rfl (.tmp 9) (.tmp 11) rfl w0.heap.size (.slice (some ⟨w0.heap.size, 0, none⟩) 0 0) [] rfl hn5 (.slice P g.prio.length pc) g.prio rfl (Hp.out _ hR5) (by simp; omega) hR5.size ?_; intro v6 w6 ho6 hb6 hg6 hl6; have hR6 := hR5.trans hb6; have hu6 := hu5.kept (Only.grown (B := w0.heap.size) (C := w0.heap.size + 1) hg6 (fun k hk => by simp [Value.ownBlock] at hk; omega)) (.inr (Nat.le_refl _)); have ho6a := ho6; have hd6 : ∀ b, v6.ownBlock = some b → b < w0.heap.size + 1 ∨ w5.heap.size ≤ b := fun b hb => (hl6.elim (fun e => .inl (by rw [e] at hb; have h := Option.some.inj hb; simp at h; omega)) (fun e => .inr (by rw [e] at hb; have h := Option.some.inj hb; omega))); have hB1 : w0.heap.size ≤ w0.heap.size + 1 := Nat.le_succ _; rw [List.nil_append] at ho6; obtain ⟨Q, qc, eq6, _⟩ := ho6.ints.form; subst eq6; have hB6 := hB.below hR6 hB.lt; have hX6 := hR.below hR6 hR.lt; have q0 := hX6.c0; have q1 := hX6.c1; have q2 := hX6.c2; have q3 := hX6.frozen 0; have q4 := hX6.frozen 1; have q5 := hX6.frozen 2))
  all_goals
    clear q0 q1 q2 q3 q4 q5
    have hs6 := hb6.size
    have hs5 := hR5.size
    have hw0 := hbw.size
    have hRl := hR.lt
    have hX7 := ((hX6.set_ 0 (.slice F1 (fixA g.arena l).owner.length f1)).set_ 1 (.slice F2 (fixA g.arena l).next.length f2)).set_ 2 (.slice Q g.prio.length qc)
    have hbw7 : Below w.heap.size w (((w6.setCell ⟨w.heap.size + 1, 0, none⟩ (.slice F1 (fixA g.arena l).owner.length f1)).setCell ⟨w.heap.size + 1, 1, none⟩ (.slice F2 (fixA g.arena l).next.length f2)).setCell ⟨w.heap.size + 1, 2, none⟩ (.slice Q g.prio.length qc)) := (((Below.up hbw hR6).setCell (by simp) _).setCell (by simp) _).setCell (by simp) _
    have hcb : ∀ b, w0.heap.size ≤ b → (((w6.setCell ⟨w.heap.size + 1, 0, none⟩ (.slice F1 (fixA g.arena l).owner.length f1)).setCell ⟨w.heap.size + 1, 1, none⟩ (.slice F2 (fixA g.arena l).next.length f2)).setCell ⟨w.heap.size + 1, 2, none⟩ (.slice Q g.prio.length qc)).heap[b]? = w6.heap[b]? := fun b hb => by
      rw [Below.heap_setCell _ _ _ _ (by simp; omega), Below.heap_setCell _ _ _ _ (by simp; omega), Below.heap_setCell _ _ _ _ (by simp; omega)]
    have hsz : (((w6.setCell ⟨w.heap.size + 1, 0, none⟩ (.slice F1 (fixA g.arena l).owner.length f1)).setCell ⟨w.heap.size + 1, 1, none⟩ (.slice F2 (fixA g.arena l).next.length f2)).setCell ⟨w.heap.size + 1, 2, none⟩ (.slice Q g.prio.length qc)).heap.size = w6.heap.size := by simp
    generalize ((w6.setCell ⟨w.heap.size + 1, 0, none⟩ (.slice F1 (fixA g.arena l).owner.length f1)).setCell ⟨w.heap.size + 1, 1, none⟩ (.slice F2 (fixA g.arena l).next.length f2)).setCell ⟨w.heap.size + 1, 2, none⟩ (.slice Q g.prio.length qc) = w7 at *
    have q0 := hX7.c0
    have q1 := hX7.c1
    have q2 := hX7.c2
    have hop : OP w6 w0.heap.size w6.heap.size (.agg #[.slice F1 (fixA g.arena l).owner.length f1, .slice F2 (fixA g.arena l).next.length f2, .slice Q g.prio.length qc]) (onlyP g l) :=
      OP.join' (g := onlyP g l) hu6 ⟨ho6a, fun b hb => (ho6a.lt b hb).2⟩ hd6 hB1 (by omega)
    go_wp2
    refine bodyPost_ret (v := .agg #[.slice F1 (fixA g.arena l).owner.length f1, .slice F2 (fixA g.arena l).next.length f2, .slice Q g.prio.length qc]) (by simp [results, Try.results67, go_sem, q0, q1, q2]) rfl ?_
    exact .mk' ((hop.heapFrom hcb).mono (by omega) (by omega)) hbw7

end Go.Proofs.Ytmkmghjmfaoobaa

/- The walk of OnlyBy, the reference's. No condition but the lists' lengths. Printed by gen_only.py. -/
namespace Go.Proofs.Ytmkmghjmfaoobaa
set_option linter.unusedSimpArgs false
set_option linter.unusedVariables false
open Go.RowKit

theorem below_drew1' {B : Nat} {a w : World} (h : Below B a w) : Below B a w.drew := ⟨h.os, h.tape, h.output, h.size, h.block⟩
/-- append_one, where the walk has reckoned the place of the new cell. -/
theorem append_oneH {ops : Array Oper} {rest : List Oper} {o : Oper} {a : Act} {Q : Exit → Act → World → Prop} {t e : TypeId} {z : Value} (E : Elem t e z) (w0 : World) (hgd : o.guard = none) (s x : Operand)
    (ho : o.op = .call { callee := .builtin .append, args := #[s, x], argTypes := #[t, t] })
    (B : Nat) (v : Value) (n : Nat) (xs : List Value) (hs : a.eval s = v) (hown : w0.ownsRow B e 1 v n xs) (y : Value) (hy : y.oneCell' = true) (H : Nat) (hH : w0.heap.size = H)
    (hx : a.eval x = .slice (some ⟨H, 0, none⟩) 1 1) (hn : n ≤ 1099511627776) (hB : B ≤ w0.heap.size)
    (h : ∀ v' w', w'.ownsRow B e 1 v' (n + 1) (xs ++ [y]) → w0.grownBy w' v.ownBlock → (v'.ownBlock = v.ownBlock ∨ v'.ownBlock = some (w0.heap.size + 1)) → wpList Try.prog ops Q rest (a.put o.dst v') w') :
    wpList Try.prog ops Q (o :: rest) a (w0.alloc (.cells #[y] e)) := by
  subst hH
  exact append_one E w0 hgd s x ho B v n xs hs hown y hy hx hn hB h

end Go.Proofs.Ytmkmghjmfaoobaa

/- An arena that a call makes for itself in a local variable, vertex by vertex. No condition. -/
namespace Go.Proofs.Ytmkmghjmfaoobaa
set_option linter.unusedSimpArgs false
set_option linter.unusedVariables false
open Go.RowKit

/-- append of one int64 to a row of the call's own, as one step of a region that draws. -/
theorem step_append_int {ops : Array Oper} {o : Oper} {a : Act} {K : Act → World → Prop} {Q : Exit → Act → World → Prop} {F : Prop} (w0 : World) (hgd : o.guard = none) (s x : Operand)
    (ho : o.op = .call { callee := .builtin .append, args := #[s, x], argTypes := #[22, 22] })
    (B : Nat) (v : Value) (l : List Int) (hs : a.eval s = v) (hown : OwnInts w0 B v l) (y : Int)
    (hx : a.eval x = .slice (some ⟨w0.heap.size, 0, none⟩) 1 1) (hn : l.length ≤ 1048576) (hB : B ≤ w0.heap.size)
    (h : ∀ v' w', OwnInts w' B v' (l ++ [y]) → w0.grownBy w' v.ownBlock → (v'.ownBlock = v.ownBlock ∨ v'.ownBlock = some (w0.heap.size + 1)) → K (a.put o.dst v') w') :
    if Region.wanted o (yielded ops a.tmps) = true then Oper.wp Try.prog o a (w0.alloc (.cells #[.int .i64 y] 2)) K Q else F := by
  refine step_append_one elem_int64 w0 hgd s x ho B v l.length _ hs hown (.int .i64 y) rfl hx hn hB fun v' w' h1 h2 h3 => h v' w' ?_ h2 h3
  unfold OwnInts
  rw [List.map_append, List.length_append]
  exact h1
theorem vx_snoc_lt {vs : List Value} {y : Value} {j : Nat} (h : j < vs.length) : vx (vs ++ [y]) j = vx vs j := by
  rw [vx_lt (by simp; omega), vx_lt h, List.getElem_append_left h]
theorem vx_snoc_eq {vs : List Value} {y : Value} : vx (vs ++ [y]) vs.length = y := by
  rw [vx_lt (by simp), List.getElem_append_right (Nat.le_refl _)]; simp
theorem OwnInts.heap {w w' : World} {B : Nat} {v : Value} {l : List Int} (h : OwnInts w B v l) (hh : ∀ b, v.ownBlock = some b → w'.heap[b]? = w.heap[b]?) : OwnInts w' B v l := ((OI.of h).heap hh).1

/-- In block X lies an arena whose owners and rows are the call's own, all behind X. -/
structure Grow (w : World) (X : Nat) (ov nv : Value) (vs : List Value) (l1 : List Int) (l2 : List (List Int)) : Prop where
  box : Arr w X 30 [ov, nv]
  own : OwnInts w (X + 1) ov l1
  rows : RowsV w (X + 1) w.heap.size nv vs l2
  dis : ∀ b, ov.ownBlock = some b → ∀ j, j < l2.length → (vx vs j).ownBlock ≠ some b

variable {w w' : World} {X : Nat} {ov nv : Value} {vs : List Value} {l1 : List Int} {l2 : List (List Int)}
theorem Grow.below (h : Grow w X ov nv vs l1 l2) (hb : Below w.heap.size w w') : Grow w' X ov nv vs l1 l2 :=
  ⟨h.box.below hb h.box.lt, h.own.below hb (Nat.le_refl _), (h.rows.kept (Only.of_below (B := w.heap.size) (C := w.heap.size) hb) (.inl (Nat.le_refl _))).mono (Nat.le_refl _) hb.size, h.dis⟩
theorem Grow.new (w : World) (X : Nat) (hX : w.heap.size = X) : Grow (w.alloc (.cells #[.slice none 0 0, .slice none 0 0] 30)) X (.slice none 0 0) (.slice none 0 0) [] [] [] := by
  subst hX
  exact ⟨Arr.new _ _ _, OwnInts.nil _ _, nil_rows _ _ _, fun b hb => by simp [Value.ownBlock] at hb⟩
/-- The blocks of the rows. -/
theorem Grow.row_lt (h : Grow w X ov nv vs l1 l2) {j : Nat} (hj : j < l2.length) {b : Nat} (hb : (vx vs j).ownBlock = some b) : X + 1 ≤ b ∧ b < w.heap.size :=
  ⟨((h.rows.row j hj).1.lt b hb).1, (h.rows.row j hj).2 b hb⟩
/-- One owner more. -/
theorem Grow.own1 (h : Grow w X ov nv vs l1 l2) {ov' : Value} {y : Int} {w7 : World} (ho : OwnInts w7 (X + 1) ov' (l1 ++ [y])) (hg : w.grownBy w7 ov.ownBlock) (hd : ov'.ownBlock = ov.ownBlock ∨ ov'.ownBlock = some (w.heap.size + 1)) :
    Grow (w7.setCell ⟨X, 0, none⟩ ov') X ov' nv vs (l1 ++ [y]) l2 := by
  have hX7 : Arr w7 X 30 [ov, nv] := h.box.kept' hg fun e => by have := (h.own.lt _ e.symm).1; omega
  have hr7 : RowsV w7 (X + 1) w7.heap.size nv vs l2 := (h.rows.heap (fun b hb => hg.block b (h.rows.own.lt b hb).2 fun e => owns_ne h.own h.rows.own (fun e => row_type_ne e.symm) e.symm hb)
    (fun j hj b hb => hg.block b ((h.rows.row j hj).1.lt b hb).2 fun e => h.dis b e.symm j hj hb)).mono (Nat.le_refl _) hg.size
  refine ⟨hX7.set_ 0 ov', ho.far (by simp) _, ?_, fun b hb j hj hb2 => ?_⟩
  · have := hr7.heap (w' := w7.setCell ⟨X, 0, none⟩ ov') (fun b hb => Below.heap_setCell _ _ _ _ (by have := (hr7.own.lt b hb).1; simp; omega)) (fun j hj b hb => Below.heap_setCell _ _ _ _ (by have := ((hr7.row j hj).1.lt b hb).1; simp; omega))
    have hs : (w7.setCell ⟨X, 0, none⟩ ov').heap.size = w7.heap.size := by simp
    rw [hs]; exact this
  · rcases hd with e | e
    · exact h.dis b (e ▸ hb) j hj hb2
    · rw [e] at hb
      have := (h.row_lt hj hb2).2
      simp only [Option.some.injEq] at hb
      omega
/-- One row more. -/
theorem Grow.row1 (h : Grow w X ov nv vs l1 l2) {N nv' : Value} {row : List Int} {w9 : World} (hN : OI w (X + 1) w.heap.size N row) (hNo : ∀ b, N.ownBlock = some b → ov.ownBlock ≠ some b ∧ ∀ j, j < l2.length → (vx vs j).ownBlock ≠ some b)
    (ho : w9.ownsRow (X + 1) 22 1 nv' (l2.length + 1) (vs ++ [N])) (hg : w.grownBy w9 nv.ownBlock) : Grow (w9.setCell ⟨X, 1, none⟩ nv') X ov nv' (vs ++ [N]) l1 (l2 ++ [row]) := by
  have hX9 : Arr w9 X 30 [ov, nv] := h.box.kept' hg fun e => by have := (h.rows.own.lt _ e.symm).1; omega
  have hr9 := RowsV.snoc h.rows hN (fun j hj b hb e => (hNo b e).2 j hj hb) ho hg hg.size (Nat.le_refl _)
  have ho9 : OwnInts w9 (X + 1) ov l1 := h.own.heap fun b hb => hg.block b (h.own.lt b hb).2 fun e => owns_ne h.rows.own h.own row_type_ne e.symm hb
  refine ⟨hX9.set_ 1 nv', ho9.far (by simp) _, ?_, fun b hb j hj hb2 => ?_⟩
  · have := hr9.heap (w' := w9.setCell ⟨X, 1, none⟩ nv') (fun b hb => Below.heap_setCell _ _ _ _ (by have := (hr9.own.lt b hb).1; simp; omega)) (fun j hj b hb => Below.heap_setCell _ _ _ _ (by have := ((hr9.row j hj).1.lt b hb).1; simp; omega))
    have hs : (w9.setCell ⟨X, 1, none⟩ nv').heap.size = w9.heap.size := by simp
    rw [hs]; exact this
  · have hl := h.rows.len
    rw [List.length_append, List.length_singleton] at hj
    by_cases e : j = l2.length
    · rw [e, ← hl, vx_snoc_eq] at hb2
      exact (hNo b hb2).1 hb
    · rw [vx_snoc_lt (by omega)] at hb2
      exact h.dis b hb j (by omega) hb2
/-- As a value. -/
theorem Grow.arena (h : Grow w X ov nv vs l1 l2) {B : Nat} (hB : B ≤ X) : OA w B w.heap.size (.agg #[ov, nv]) ⟨l1, l2⟩ :=
  ⟨ov, nv, vs, rfl, (OI.of h.own).mono (by omega) (Nat.le_refl _), h.rows.mono (by omega) (Nat.le_refl _), h.dis⟩
theorem Grow.forms (h : Grow w X ov nv vs l1 l2) : ∃ A c A' c', ov = .slice A l1.length c ∧ nv = .slice A' l2.length c' := by
  obtain ⟨A, c, e1, _⟩ := h.own.ints.form
  obtain ⟨A', c', e2⟩ := h.rows.form
  exact ⟨A, c, A', c', e1, e2⟩
end Go.Proofs.Ytmkmghjmfaoobaa
