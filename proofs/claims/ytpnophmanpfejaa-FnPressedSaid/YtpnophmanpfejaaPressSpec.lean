/- The walks of l4Copy and Pressed of the reference. Conditions of l4Copy: no list is longer than 2^20. Printed by gen_press.py. -/
import Derived.Test.YtpnophmanpfejaaPressWalks
import Derived.Test.YtpnophmanpfejaaFlipSpec
import Derived.Test.YtpnophmanpfejaaRankWalks4
namespace Go.Proofs.Ytpnophmanpfejaa
set_option linter.unusedSimpArgs false
set_option linter.unusedVariables false
open Go.RowKit

set_option maxRecDepth 100000 in
set_option maxHeartbeats 8000000 in
theorem l4Copy_any (v : Value) (g : ParityD) (w : World) (hv : IsParity w v g) (h0 : g.arena.owner.length ≤ 1048576) (h1 : g.arena.next.length ≤ 1048576) (h2 : ∀ k, k < g.arena.next.length → (rx g.arena.next k).length ≤ 1048576) (h3 : g.prio.length ≤ 1048576) :
    Calls Try.prog 97 #[v] w (RetPar w g) := by
  obtain ⟨o, n, p, rfl, hbw, hB, hR⟩ := parity_boxR' hv
  obtain ⟨hva, hp⟩ := hv.parts
  obtain ⟨PS, pc, rfl, hpc, hpm⟩ := hp.form
  have hR2 := hR.lt
  go_enter Try.func97, Try.ntmps97
  go_wp2_with fail
  have hM0 : w.heap.size + 1 < ((w.alloc (.cells #[o, n, .slice PS g.prio.length pc] 32)).alloc (.cells #[.slice none 0 0, .slice none 0 0, .slice none 0 0] 32)).heap.size := by simp
  generalize (w.alloc (.cells #[o, n, .slice PS g.prio.length pc] 32)).alloc (.cells #[.slice none 0 0, .slice none 0 0, .slice none 0 0] 32) = w0 at *
  have Hc1 := Lib.hid (fun W (hW : Below w0.heap.size w0 W) => l1CopyArena_any _ g.arena W (hva.kept (Kept.of (Below.up hbw hW))) h0 h1 h2)
  have Hc2 := Lib.hid (fun W (hW : Below w0.heap.size w0 W) => l1Copy_any _ g.prio W (hp.kept (Kept.of (Below.up hbw hW))) h3)
  have HS := Lib.hid (fun W (hW : Below w0.heap.size w0 W) => (show W.cell? ⟨w.heap.size, 0, none⟩ = some o ∧ W.cell? ⟨w.heap.size, 1, none⟩ = some n ∧ W.cell? ⟨w.heap.size, 2, none⟩ = some (.slice PS g.prio.length pc) from ⟨(hB.below hW hB.lt).c0, (hB.below hW hB.lt).c1, (hB.below hW hB.lt).c2⟩))
  have HS2 := Lib.hid (fun W x y z (hW : Below w0.heap.size w0 W) => (show (((W.setCell ⟨w.heap.size + 1, 0, none⟩ x).setCell ⟨w.heap.size + 1, 1, none⟩ y).setCell ⟨w.heap.size + 1, 2, none⟩ z).cell? ⟨w.heap.size, 0, none⟩ = some o ∧ (((W.setCell ⟨w.heap.size + 1, 0, none⟩ x).setCell ⟨w.heap.size + 1, 1, none⟩ y).setCell ⟨w.heap.size + 1, 2, none⟩ z).cell? ⟨w.heap.size, 1, none⟩ = some n ∧ (((W.setCell ⟨w.heap.size + 1, 0, none⟩ x).setCell ⟨w.heap.size + 1, 1, none⟩ y).setCell ⟨w.heap.size + 1, 2, none⟩ z).cell? ⟨w.heap.size, 2, none⟩ = some (.slice PS g.prio.length pc) from by
    have h := (((hB.below hW hB.lt).far (p := ⟨w.heap.size + 1, 0, none⟩) (by simp) x).far (p := ⟨w.heap.size + 1, 1, none⟩) (by simp) y).far (p := ⟨w.heap.size + 1, 2, none⟩) (by simp) z
    exact ⟨h.c0, h.c1, h.c2⟩))
  have HR := Lib.hid (fun W (hW : Below w0.heap.size w0 W) => hR.below hW hR.lt)
  have hR0 : Below w0.heap.size w0 w0.drew := ⟨rfl, rfl, rfl, Nat.le_refl _, fun _ _ => rfl⟩
  go_region_held3 (fun W => W.cell? ⟨w.heap.size, 0, none⟩ = some o ∧ W.cell? ⟨w.heap.size, 1, none⟩ = some n ∧ W.cell? ⟨w.heap.size, 2, none⟩ = some (.slice PS g.prio.length pc))
    (first | exact HS.out _ hR0 | exact HS.out _ hR3 | exact HS.out _ hR4 | exact HS2.out _ _ _ _ hR4)
    (first | (go_at_call 133; refine (Hc1.out _ hR3p).mono ?_; rintro e w4 ⟨u4, rfl, hua4, hb4⟩; obtain ⟨F1, f1, F2, f2, hf⟩ := OA.form hua4; subst hf; have hR4 := Below.up hR3 hb4; have hop4 : OP w4 w0.heap.size w4.heap.size (.agg #[.slice F1 g.arena.owner.length f1, .slice F2 g.arena.next.length f2, .slice F3 g.prio.length f3]) g := OP.join' (B1 := w3.heap.size) (C1 := w4.heap.size) hua4 ((OI.below hpi3 hb4).mono (Nat.le_refl _) hb4.size) (fun b hb => .inl (hpi3.2 b hb)) hR3.size (Nat.le_refl _); have q3 := (HR.out _ hR4).frozen 0; have q4 := (HR.out _ hR4).frozen 1; have q5 := (HR.out _ hR4).frozen 2; have q6 := (HR.out _ hR4).c0; have q7 := (HR.out _ hR4).c1; have q8 := (HR.out _ hR4).c2) | (go_at_call 133; refine (Hc1.out _ hR0).mono ?_; rintro e w3 ⟨u3, rfl, hua3, hb3⟩; obtain ⟨F1, f1, F2, f2, hf⟩ := OA.form hua3; subst hf; have hR3 := Below.up hR0 hb3; have hR3a := hR3; replace hua3 : OA w3 w0.heap.size w3.heap.size _ _ := hua3) | (go_at_call 140; refine (Hc2.out _ hR3a).mono ?_; rintro e w4 ⟨u4, rfl, hpi4, hb4⟩; obtain ⟨F3, f3, hf, _⟩ := hpi4.ints.form; subst hf; have hR4 := Below.up hR3 hb4; have hop4 : OP w4 w0.heap.size w4.heap.size (.agg #[.slice F1 g.arena.owner.length f1, .slice F2 g.arena.next.length f2, .slice F3 g.prio.length f3]) g := OP.join' (B1 := w0.heap.size) (C1 := w3.heap.size) (hua3.below hb4) ((OI.of hpi4).mono hR3.size (Nat.le_refl _)) (fun b hb => .inr (hpi4.lt b hb).1) (Nat.le_refl _) hb4.size; have q3 := (HR.out _ hR4).frozen 0; have q4 := (HR.out _ hR4).frozen 1; have q5 := (HR.out _ hR4).frozen 2; have q6 := (HR.out _ hR4).c0; have q7 := (HR.out _ hR4).c1; have q8 := (HR.out _ hR4).c2) | (go_at_call 140; refine (Hc2.out _ hR0).mono ?_; rintro e w3 ⟨u3, rfl, hpo3, hb3⟩; obtain ⟨F3, f3, hf, _⟩ := hpo3.ints.form; subst hf; have hR3 := Below.up hR0 hb3; have hR3p := hR3; have hpi3 : OI w3 w0.heap.size w3.heap.size (.slice F3 g.prio.length f3) g.prio := OI.of hpo3))
  all_goals
    have hRr := HR.out _ hR4
    have hbw4 := Below.up hbw hR4
    have hR4s := hR4.size
    clear HS HS2 HR Hc1 Hc2 hR0
    have hR6 := ((hRr.set_ 0 (.slice F1 g.arena.owner.length f1)).set_ 1 (.slice F2 g.arena.next.length f2)).set_ 2 (.slice F3 g.prio.length f3)
    have hbw6 : Below w.heap.size w (((w4.setCell ⟨w.heap.size + 1, 0, none⟩ (.slice F1 g.arena.owner.length f1)).setCell ⟨w.heap.size + 1, 1, none⟩ (.slice F2 g.arena.next.length f2)).setCell ⟨w.heap.size + 1, 2, none⟩ (.slice F3 g.prio.length f3)) := ((hbw4.setCell (by simp) _).setCell (by simp) _).setCell (by simp) _
    have hcb : ∀ b, w0.heap.size ≤ b → (((w4.setCell ⟨w.heap.size + 1, 0, none⟩ (.slice F1 g.arena.owner.length f1)).setCell ⟨w.heap.size + 1, 1, none⟩ (.slice F2 g.arena.next.length f2)).setCell ⟨w.heap.size + 1, 2, none⟩ (.slice F3 g.prio.length f3)).heap[b]? = w4.heap[b]? := fun b hb => by
      rw [Below.heap_setCell _ _ _ _ (by simp; omega), Below.heap_setCell _ _ _ _ (by simp; omega), Below.heap_setCell _ _ _ _ (by simp; omega)]
    have hsz : (((w4.setCell ⟨w.heap.size + 1, 0, none⟩ (.slice F1 g.arena.owner.length f1)).setCell ⟨w.heap.size + 1, 1, none⟩ (.slice F2 g.arena.next.length f2)).setCell ⟨w.heap.size + 1, 2, none⟩ (.slice F3 g.prio.length f3)).heap.size = w4.heap.size := by simp
    have hop6 := hop4.heapFrom hcb
    have hws := hbw.size
    generalize ((w4.setCell ⟨w.heap.size + 1, 0, none⟩ (.slice F1 g.arena.owner.length f1)).setCell ⟨w.heap.size + 1, 1, none⟩ (.slice F2 g.arena.next.length f2)).setCell ⟨w.heap.size + 1, 2, none⟩ (.slice F3 g.prio.length f3) = w8 at *
    have p0 := hR6.c0
    have p1 := hR6.c1
    have p2 := hR6.c2
    try go_wp2
    refine bodyPost_ret (v := .agg #[.slice F1 g.arena.owner.length f1, .slice F2 g.arena.next.length f2, .slice F3 g.prio.length f3]) (by simp [results, Try.results97, go_sem, p0, p1, p2]) rfl ?_
    exact .mk' (hop6.mono hws (by omega)) hbw6

def nowS (ps : List Int) : Nat → Int
  | 0 => nowAt ps 0
  | k + 1 => nowAt ps k
theorem nowS_same {ps : List Int} {k : Nat} (h : ix ps k % 2 = nowS ps k % 2) : nowAt ps k = nowS ps k := by
  cases k with
  | zero => rfl
  | succ k =>
    have := nowAt_mod ps k
    simp only [nowS] at *
    simp only [nowAt]
    rw [if_pos (by omega)]
theorem nowS_more {ps : List Int} {k : Nat} (h : ix ps k % 2 ≠ nowS ps k % 2) : nowAt ps k = nowS ps k + 1 := by
  cases k with
  | zero =>
    have := nowAt_mod ps 0
    simp only [nowS] at h
    omega
  | succ k =>
    have := nowAt_mod ps k
    simp only [nowS] at *
    simp only [nowAt]
    rw [if_neg (by omega)]
theorem nowS_le {ps : List Int} {k : Nat} (hk : k < ps.length) (h : ∀ k, k < ps.length → 0 ≤ nowAt ps k ∧ nowAt ps k ≤ 40) : 0 ≤ nowS ps k ∧ nowS ps k ≤ 40 := by
  cases k with
  | zero => exact h 0 hk
  | succ k => exact h k (by omega)

set_option maxRecDepth 100000 in
set_option maxHeartbeats 8000000 in
theorem specPressed_any (v : Value) (g : ParityD) (w : World) (hv : IsParity w v g) :
    Calls Try.prog 39 #[v] w (RetPar w (pressG g)) := by
  obtain ⟨o, n, p, rfl, hbw, hB, hR⟩ := parity_boxR' hv
  obtain ⟨hva, hp⟩ := hv.parts
  obtain ⟨PS, pc, rfl, hpc, hpm⟩ := hp.form
  have hws := hbw.size
  have hR2 := hR.lt
  cases hE : parityOkB g
  · have hfix : pressG g = ⟨⟨[], []⟩, []⟩ := by unfold pressG; rw [hE]; rfl
    rw [hfix]; clear hfix
    go_enter Try.func39, Try.ntmps39
    have hBz := hB.lt
    have hBc0 := hB.c0
    have hBc1 := hB.c1
    have hBc2 := hB.c2
    have hRz := hR.lt
    have hRc0 := hR.c0
    have hRc1 := hR.c1
    have hRc2 := hR.c2
    go_wp2_with fail
    refine (specParityOk_any _ g _ (hv.kept (Kept.of hbw))).mono ?_
    rintro e w1 ⟨rfl, hb1⟩
    clear hBc0 hBc1 hBc2 hRc0 hRc1 hRc2 hBz hRz
    replace hB := hB.below hb1 hB.lt
    replace hR := hR.below hb1 hR.lt
    replace hbw := Below.up hbw hb1
    have hb1s := hb1.size
    clear hb1
    have hBz := hB.lt
    have hBc0 := hB.c0
    have hBc1 := hB.c1
    have hBc2 := hB.c2
    have hRz := hR.lt
    have hRc0 := hR.c0
    have hRc1 := hR.c1
    have hRc2 := hR.c2
    have q0 := hR.c0
    have q1 := hR.c1
    have q2 := hR.c2
    have q3 := hR.frozen 0
    have q4 := hR.frozen 1
    have q5 := hR.frozen 2
    go_wp2
    have hR6 := ((hR.set_ 0 (.slice none 0 0)).set_ 1 (.slice none 0 0)).set_ 2 (.slice none 0 0)
    have hbw6 : Below w.heap.size w (((w1.setCell ⟨w.heap.size + 1, 0, none⟩ (.slice none 0 0)).setCell ⟨w.heap.size + 1, 1, none⟩ (.slice none 0 0)).setCell ⟨w.heap.size + 1, 2, none⟩ (.slice none 0 0)) := ((hbw.setCell (by simp) _).setCell (by simp) _).setCell (by simp) _
    generalize ((w1.setCell ⟨w.heap.size + 1, 0, none⟩ (.slice none 0 0)).setCell ⟨w.heap.size + 1, 1, none⟩ (.slice none 0 0)).setCell ⟨w.heap.size + 1, 2, none⟩ (.slice none 0 0) = w6 at *
    have p0 := hR6.c0
    have p1 := hR6.c1
    have p2 := hR6.c2
    refine bodyPost_ret (v := .agg #[.slice none 0 0, .slice none 0 0, .slice none 0 0]) (by simp [results, Try.results39, go_sem, p0, p1, p2]) rfl ?_
    exact .mk' (OP.none' _ _ _) hbw6
  · have hfix : pressG g = ⟨g.arena, pressL (priosOf g) g.prio⟩ := by unfold pressG; rw [hE]; rfl
    rw [hfix]; clear hfix
    have hok := parityOkB_iff.1 hE
    have hle := hok.arena.le
    have hple : g.prio.length ≤ 256 := by rw [hok.len]; exact hle
    have hppos : 0 < g.prio.length := by rw [hok.len]; exact hok.arena.pos
    have Hnl := Lib.hid hok.arena.len
    have Hdeg : Hid (∀ k, k < g.arena.next.length → (rx g.arena.next k).length ≤ 1048576) := Lib.hid fun k hk => by
      have := (hok.arena.deg (v := k) (by rw [← hok.arena.len]; exact hk)).2; omega
    have Hps := Lib.hid (priosOf_rising g)
    have Hpm : Hid (∀ x, x ∈ priosOf g ↔ x ∈ g.prio) := Lib.hid fun x => mem_priosOf
    have hpsl := priosOf_len g
    have Hpb : Hid (∀ k, k < (priosOf g).length → 0 ≤ ix (priosOf g) k ∧ ix (priosOf g) k ≤ 40) := Lib.hid fun k hk => by
      obtain ⟨j, hj, e⟩ := mem_ix.1 (Hpm.out _ |>.1 (mem_ix.2 ⟨k, hk, rfl⟩))
      rw [← e]; exact hok.prio j hj
    have Hnb : Hid (∀ k, k < (priosOf g).length → 0 ≤ nowAt (priosOf g) k ∧ nowAt (priosOf g) k ≤ 40) := Lib.hid fun k hk => by
      have h1 := nowAt_bounds (ps := priosOf g) Hps.out (fun x hx => by obtain ⟨j, hj, e⟩ := mem_ix.1 hx; rw [← e]; exact (Hpb.out j hj).1) hk
      have := Hpb.out k hk
      omega
    have hpsp : 0 < (priosOf g).length := by
      obtain ⟨k, hk, _⟩ := mem_ix.1 ((Hpm.out (ix g.prio 0)).2 (mem_ix.2 ⟨0, hppos, rfl⟩))
      omega
    have hpd : priosL g.prio (upFrom 0 g.prio.length) = priosOf g := rfl
    have hall : allL g.prio.length = upFrom 0 g.prio.length := allL_nat (by omega)
    go_enter Try.func39, Try.ntmps39
    have hBz := hB.lt
    have hBc0 := hB.c0
    have hBc1 := hB.c1
    have hBc2 := hB.c2
    have hRz := hR.lt
    have hRc0 := hR.c0
    have hRc1 := hR.c1
    have hRc2 := hR.c2
    go_wp2_with fail
    refine (specParityOk_any _ g _ (hv.kept (Kept.of hbw))).mono ?_
    rintro e w1 ⟨rfl, hb1⟩
    clear hBc0 hBc1 hBc2 hRc0 hRc1 hRc2 hBz hRz
    replace hB := hB.below hb1 hB.lt
    replace hR := hR.below hb1 hR.lt
    replace hbw := Below.up hbw hb1
    have hb1s := hb1.size
    clear hb1
    have hBz := hB.lt
    have hBc0 := hB.c0
    have hBc1 := hB.c1
    have hBc2 := hB.c2
    have hRz := hR.lt
    have hRc0 := hR.c0
    have hRc1 := hR.c1
    have hRc2 := hR.c2
    have hw1 := hbw.size
    have hRw1 := hR.lt
    go_wp2_with fail
    refine (l4Copy_any _ g _ (hv.kept (Kept.of hbw)) (by omega) (by rw [Hnl.out]; omega) Hdeg.out (by omega)).mono ?_
    rintro e w4 ⟨u4, rfl, hu4, hb4⟩
    obtain ⟨o', n', p', vs, rfl, ho4, hn4, hp4, hd1, hd2, hd3⟩ := hu4
    obtain ⟨F1, f1, rfl, _⟩ := ho4.ints.form
    obtain ⟨F2, f2, rfl, _⟩ := hn4.rows.form
    obtain ⟨gp, cap, rfl, hg0, hg1⟩ := OwnInts.form' hp4.1 rfl hppos
    clear hBc0 hBc1 hBc2 hRc0 hRc1 hRc2 hBz hRz
    replace hB := hB.below hb4 hB.lt
    replace hR := hR.below hb4 hR.lt
    replace hbw := Below.up hbw hb4
    have hb4s := hb4.size
    clear hb4
    have hBz := hB.lt
    have hBc0 := hB.c0
    have hBc1 := hB.c1
    have hBc2 := hB.c2
    have hRz := hR.lt
    have hRc0 := hR.c0
    have hRc1 := hR.c1
    have hRc2 := hR.c2
    clear hBc0 hBc1 hBc2 hRc0 hRc1 hRc2 hBz hRz
    have hX0 := Arr.new w4 32 [.slice F1 g.arena.owner.length f1, .slice F2 g.arena.next.length f2, .slice (some ⟨gp, 0, none⟩) g.prio.length cap]
    have hbn := (Below.refl w4.heap.size w4).alloc (Nat.le_refl _) (.cells #[.slice F1 g.arena.owner.length f1, .slice F2 g.arena.next.length f2, .slice (some ⟨gp, 0, none⟩) g.prio.length cap] 32)
    have hbw5 := Below.up hbw hbn
    have hB5 := hB.below hbn hB.lt
    have hR5 := hR.below hbn hR.lt
    have hX5 := hX0.lt
    have ho5 := ho4.below hbn
    have hn5 := hn4.kept (Only.of_below (B := w4.heap.size) (C := w4.heap.size) hbn) (.inl (Nat.le_refl _))
    have hp5 := hp4.below hbn
    have hBc0 := hB.c0
    have hBc1 := hB.c1
    have hBc2 := hB.c2
    have hBz := hB.lt
    go_wp2_with fail
    clear hBc0 hBc1 hBc2 hBz hbn ho4 hn4 hp4 hB hR hbw
    generalize w4.alloc (.cells #[.slice F1 g.arena.owner.length f1, .slice F2 g.arena.next.length f2, .slice (some ⟨gp, 0, none⟩) g.prio.length cap] 32) = w5 at *
    have Hc := Lib.hid (fun W (hW : Kept w W) => l4All_any _ g W (hv.kept hW))
    have Hc2 := Lib.hid (fun W u (hW : Kept w W) (hu : Ints W u (upFrom 0 g.prio.length)) => l4Prios_any _ g u (upFrom 0 g.prio.length) W (hv.kept hW) hu (places_upFrom _) (by rw [length_upFrom]; omega))
    rw [hpd] at Hc2
    rw [hall] at Hc
    clear hpd hall
    have HS := Lib.hid (fun W (hW : Below w5.heap.size w5 W) => (show W.cell? ⟨w.heap.size, 0, none⟩ = some o ∧ W.cell? ⟨w.heap.size, 1, none⟩ = some n ∧ W.cell? ⟨w.heap.size, 2, none⟩ = some (.slice PS g.prio.length pc) from ⟨(hB5.below hW hB5.lt).c0, (hB5.below hW hB5.lt).c1, (hB5.below hW hB5.lt).c2⟩))
    have hR0 : Below w5.heap.size w5 w5.drew := ⟨rfl, rfl, rfl, Nat.le_refl _, fun _ _ => rfl⟩
    go_region_held3 (fun W => W.cell? ⟨w.heap.size, 0, none⟩ = some o ∧ W.cell? ⟨w.heap.size, 1, none⟩ = some n ∧ W.cell? ⟨w.heap.size, 2, none⟩ = some (.slice PS g.prio.length pc))
      (first | exact HS.out _ hR0 | exact HS.out _ hR6 | exact HS.out _ hR7)
      (first | (go_at_call 79; refine (Hc.out _ (Kept.of (Below.up hbw5 hR0))).mono ?_; rintro e w6 ⟨u6, rfl, ho6, hb6⟩; have hR6 := Below.up hR0 hb6) | (go_at_call 73; refine (Hc2.out _ _ (Kept.of (Below.up hbw5 hR6)) ho6.ints).mono ?_; rintro e w7 ⟨u7, rfl, ho7, hb7⟩; have hR7 := Below.up hR6 hb7; obtain ⟨QA, qc, hqf, _⟩ := ho7.ints.form; subst hqf))
    have hw6 := hR6.size
    have ho7' := ho5.below hR7
    have hn7 := hn5.kept (Only.of_below (B := w5.heap.size) (C := w5.heap.size) hR7) (.inl (by omega))
    have hp7 := hp5.below hR7
    have hB7 := hB5.below hR7 hB5.lt
    have hRs7 := hR5.below hR7 hR5.lt
    have hX7 := hX0.below hR7 hX5
    have hbw7 := Below.up hbw5 hR7
    have hw7 := hR7.size
    clear HS Hc Hc2 hR0 hR6 hR7 hb6 hb7 ho6 hB5 hR5 hX0 hbw5 ho5 hn5 hp5
    generalize priosOf g = ps at *
    obtain ⟨a0, ea0, hc0⟩ := ho7.ints.at_ (k := 0) hpsp
    cases ea0
    have hc00 : w7.cell? a0 = some (.int .i64 (ix ps 0)) := by rw [← hc0]; congr 1
    have hpsp' : (0 : Int) < ps.length := by omega
    have hx00 := (Hpb.out 0 hpsp).1
    go_wp2_with fail
    clear hc0 hc00
    go_loopw [5, 6] (fun now i wr => ∃ (k : Nat) (m : List Int), k ≤ ps.length ∧ i = .int .i64 k ∧ now = .int .i64 (nowS ps k) ∧ OwnInts wr w1.heap.size (.slice (some ⟨gp, 0, none⟩) m.length cap) m ∧ Hid (m = pressAt ps g.prio k 0) ∧ Chg (fun b => b = gp) w7 wr) (fun _ i _ => ps.length - (intOf i).toNat)
    case atStart => exact ⟨0, g.prio, Nat.zero_le _, rfl, rfl, hp7.1, Lib.hid (pressAt_zero _ _).symm, Chg.refl _ _⟩
    case round =>
      obtain ⟨k, m, hk, rfl, rfl, hom, Hm, hch⟩ := hrel
      have hps : Ints wr (.slice (some a0) ps.length qc) ps := ((OI.of ho7).chg hch fun b hb => by have := (ho7.lt b hb).1; omega).ints
      have Hml : Hid (m.length = g.prio.length) := Lib.hid (by rw [Hm.out, length_pressAt])
      rw [Hml.out] at hom
      by_cases hlt : k < ps.length
      · obtain ⟨a1, ea1, hc1⟩ := hps.at_ hlt
        cases ea1
        have hlt2 : (k : Int) < ps.length := by omega
        obtain ⟨hx0, hx1⟩ := Hpb.out k hlt
        obtain ⟨hy0, hy1⟩ := nowS_le hlt Hnb.out
        have HM : Hid (∀ t, t < g.prio.length → (ix g.prio t = ix ps k → (pressAt ps g.prio k t).set t (nowAt ps k) = pressAt ps g.prio k (t + 1)) ∧ (ix g.prio t ≠ ix ps k → pressAt ps g.prio k t = pressAt ps g.prio k (t + 1))) := Lib.hid fun t ht =>
          ⟨fun h => pressAt_set Hps.out hlt ht h, fun h => pressAt_skip Hps.out (fun x hx => (Hpm.out x).2 hx) ht h⟩
        by_cases hd : ix ps k % 2 = nowS ps k % 2
        · have hd' : (ix ps k % 2 != nowS ps k % 2) = false := by simpa using hd
          have Hnow := Lib.hid (nowS_same hd)
          clear hd
          go_wp2_with fail
          clear hc1
          obtain ⟨wo, rfl⟩ : ∃ wo : World, wo = wr := ⟨_, rfl⟩
          go_loopw [7] (fun i wr => ∃ (t : Nat) (m : List Int), t ≤ g.prio.length ∧ i = .int .i64 t ∧ OwnInts wr w1.heap.size (.slice (some ⟨gp, 0, none⟩) g.prio.length cap) m ∧ Hid (m = pressAt ps g.prio k t) ∧ Chg (fun b => b = gp) w7 wr) (fun i _ => g.prio.length - (intOf i).toNat)
          case atStart => exact ⟨0, m, Nat.zero_le _, rfl, hom, Hm, hch⟩
          case round =>
            obtain ⟨t, m2, ht, rfl, hom, Hm2, hch⟩ := hrel
            have Hml2 : Hid (m2.length = g.prio.length) := Lib.hid (by rw [Hm2.out, length_pressAt])
            by_cases htl : t < g.prio.length
            · have hbwr : Below w.heap.size w wr := hbw7.trans ⟨hch.os, hch.tape, hch.output, hch.size, fun b hb => hch.block b (by omega) (by omega)⟩
              obtain ⟨a3, ea3, hc3⟩ := (hp.kept (Kept.of hbwr)).at_ htl
              cases ea3
              have hps2 : Ints wr (.slice (some a0) ps.length qc) ps := ((OI.of ho7).chg hch fun b hb => by have := (ho7.lt b hb).1; omega).ints
              obtain ⟨a4, ea4, hc4⟩ := hps2.at_ hlt
              cases ea4
              have hXr : Arr wr w4.heap.size 32 [.slice F1 g.arena.owner.length f1, .slice F2 g.arena.next.length f2, .slice (some ⟨gp, 0, none⟩) g.prio.length cap] := (hch.block w4.heap.size (by omega) (by omega)).trans hX7
              have hBr := (hch.block w.heap.size hB7.lt (by omega)).trans hB7
              replace hBr : Arr wr w.heap.size _ _ := hBr
              have hBc2 := hBr.c2
              have hXc2 := hXr.c2
              have htl' : (t : Int) < g.prio.length := by omega
              have hom' : OwnInts wr w1.heap.size (.slice (some ⟨gp, 0, none⟩) m2.length cap) m2 := by rw [Hml2.out]; exact hom
              have hcp := hom'.cell (k := t) (by rw [Hml2.out]; exact htl)
              have hfp := hom'.frozen t
              have hst := hom'.set_ t (nowS ps k)
              have HM1 := Lib.hid (HM.out t htl)
              by_cases hq : ix g.prio t = ix ps k
              · have hq' : (ix g.prio t == ix ps k) = true := by simpa using hq
                have Hset := Lib.hid (HM1.out.1 hq)
                clear hq hom' HM1
                go_wp2_with fail
                go_region
                all_goals
                  go_wp2
                  refine ⟨⟨t + 1, m2.set t (nowS ps k), by omega, by go_num, by have h := OwnInts.drew hst.1; rw [Hml2.out] at h; simpa using h, Lib.hid (by rw [Hm2.out, ← Hset.out, Hnow.out]), hch.trans (Chg.drew ((Chg.of_grown hst.2).mono fun b hb => (Option.some.inj hb).symm))⟩, by simp [intOf]; omega⟩
              · have hq' : (ix g.prio t == ix ps k) = false := by simpa using hq
                have Hset := Lib.hid (HM1.out.2 hq)
                clear hq hom' HM1 hst
                go_wp2_with fail
                go_region
                all_goals
                  go_wp2
                  exact ⟨⟨t + 1, m2, by omega, by go_num, by have h := OwnInts.drew hom; simpa using h, Lib.hid (by rw [Hm2.out, ← Hset.out]), Chg.drew hch⟩, by simp [intOf]; omega⟩
            · obtain rfl : t = g.prio.length := by omega
              have htl' : ¬ (g.prio.length : Int) < g.prio.length := by omega
              have hBr := (hch.block w.heap.size hB7.lt (by omega)).trans hB7
              replace hBr : Arr wr w.heap.size _ _ := hBr
              have hBc2 := hBr.c2
              have hkn : k + 1 ≤ ps.length := hlt
              go_wp2_with fail
              exact ⟨⟨k + 1, m2, hkn, by go_num, by show Value.int .i64 _ = Value.int .i64 (nowAt ps k); rw [Hnow.out], by rw [Hml2.out]; exact hom, Lib.hid (by rw [Hm2.out]; exact pressAt_next (Nat.le_refl _)), hch⟩, by simp [intOf]; omega⟩
        · have hd' : (ix ps k % 2 != nowS ps k % 2) = true := by simpa using hd
          have Hnow := Lib.hid (nowS_more hd)
          clear hd
          go_wp2_with fail
          clear hc1
          obtain ⟨wo, rfl⟩ : ∃ wo : World, wo = wr := ⟨_, rfl⟩
          go_loopw [7] (fun i wr => ∃ (t : Nat) (m : List Int), t ≤ g.prio.length ∧ i = .int .i64 t ∧ OwnInts wr w1.heap.size (.slice (some ⟨gp, 0, none⟩) g.prio.length cap) m ∧ Hid (m = pressAt ps g.prio k t) ∧ Chg (fun b => b = gp) w7 wr) (fun i _ => g.prio.length - (intOf i).toNat)
          case atStart => exact ⟨0, m, Nat.zero_le _, rfl, hom, Hm, hch⟩
          case round =>
            obtain ⟨t, m2, ht, rfl, hom, Hm2, hch⟩ := hrel
            have Hml2 : Hid (m2.length = g.prio.length) := Lib.hid (by rw [Hm2.out, length_pressAt])
            by_cases htl : t < g.prio.length
            · have hbwr : Below w.heap.size w wr := hbw7.trans ⟨hch.os, hch.tape, hch.output, hch.size, fun b hb => hch.block b (by omega) (by omega)⟩
              obtain ⟨a3, ea3, hc3⟩ := (hp.kept (Kept.of hbwr)).at_ htl
              cases ea3
              have hps2 : Ints wr (.slice (some a0) ps.length qc) ps := ((OI.of ho7).chg hch fun b hb => by have := (ho7.lt b hb).1; omega).ints
              obtain ⟨a4, ea4, hc4⟩ := hps2.at_ hlt
              cases ea4
              have hXr : Arr wr w4.heap.size 32 [.slice F1 g.arena.owner.length f1, .slice F2 g.arena.next.length f2, .slice (some ⟨gp, 0, none⟩) g.prio.length cap] := (hch.block w4.heap.size (by omega) (by omega)).trans hX7
              have hBr := (hch.block w.heap.size hB7.lt (by omega)).trans hB7
              replace hBr : Arr wr w.heap.size _ _ := hBr
              have hBc2 := hBr.c2
              have hXc2 := hXr.c2
              have htl' : (t : Int) < g.prio.length := by omega
              have hom' : OwnInts wr w1.heap.size (.slice (some ⟨gp, 0, none⟩) m2.length cap) m2 := by rw [Hml2.out]; exact hom
              have hcp := hom'.cell (k := t) (by rw [Hml2.out]; exact htl)
              have hfp := hom'.frozen t
              have hst := hom'.set_ t (nowS ps k + 1)
              have HM1 := Lib.hid (HM.out t htl)
              by_cases hq : ix g.prio t = ix ps k
              · have hq' : (ix g.prio t == ix ps k) = true := by simpa using hq
                have Hset := Lib.hid (HM1.out.1 hq)
                clear hq hom' HM1
                go_wp2_with fail
                go_region
                all_goals
                  go_wp2
                  refine ⟨⟨t + 1, m2.set t (nowS ps k + 1), by omega, by go_num, by have h := OwnInts.drew hst.1; rw [Hml2.out] at h; simpa using h, Lib.hid (by rw [Hm2.out, ← Hset.out, Hnow.out]), hch.trans (Chg.drew ((Chg.of_grown hst.2).mono fun b hb => (Option.some.inj hb).symm))⟩, by simp [intOf]; omega⟩
              · have hq' : (ix g.prio t == ix ps k) = false := by simpa using hq
                have Hset := Lib.hid (HM1.out.2 hq)
                clear hq hom' HM1 hst
                go_wp2_with fail
                go_region
                all_goals
                  go_wp2
                  exact ⟨⟨t + 1, m2, by omega, by go_num, by have h := OwnInts.drew hom; simpa using h, Lib.hid (by rw [Hm2.out, ← Hset.out]), Chg.drew hch⟩, by simp [intOf]; omega⟩
            · obtain rfl : t = g.prio.length := by omega
              have htl' : ¬ (g.prio.length : Int) < g.prio.length := by omega
              have hBr := (hch.block w.heap.size hB7.lt (by omega)).trans hB7
              replace hBr : Arr wr w.heap.size _ _ := hBr
              have hBc2 := hBr.c2
              have hkn : k + 1 ≤ ps.length := hlt
              go_wp2_with fail
              exact ⟨⟨k + 1, m2, hkn, by go_num, by show Value.int .i64 _ = Value.int .i64 (nowAt ps k); rw [Hnow.out], by rw [Hml2.out]; exact hom, Lib.hid (by rw [Hm2.out]; exact pressAt_next (Nat.le_refl _)), hch⟩, by simp [intOf]; omega⟩
      · obtain rfl : k = ps.length := by omega
        have hlt2 : ¬ (ps.length : Int) < ps.length := by omega
        have hmm : m = pressL ps g.prio := by rw [Hm.out]; exact pressAt_all Hps.out fun x hx => (Hpm.out x).2 hx
        subst hmm
        have hXr : Arr wr w4.heap.size 32 [.slice F1 g.arena.owner.length f1, .slice F2 g.arena.next.length f2, .slice (some ⟨gp, 0, none⟩) g.prio.length cap] := (hch.block w4.heap.size (by omega) (by omega)).trans hX7
        have hRr : Arr wr (w.heap.size + 1) 32 [.slice none 0 0, .slice none 0 0, .slice none 0 0] := (hch.block (w.heap.size + 1) hRs7.lt (by omega)).trans hRs7
        have hor := OI.chg ho7' hch (fun b hb e => hd2 gp rfl (by rw [hb, e]))
        have hnr := RowsV.chg hn7 hch (fun b hb e => by rw [e] at hb; exact owns_ne hn7.own hp7.1 row_type_ne hb rfl) (fun j hj b hb e => by rw [e] at hb; exact hd3 gp rfl j hj hb)
        have hchs := hch.size
        have hbwr : Below w.heap.size w wr := hbw7.trans ⟨hch.os, hch.tape, hch.output, hch.size, fun b hb => hch.block b (by omega) (by omega)⟩
        have hpr : OI wr w1.heap.size w4.heap.size (.slice (some ⟨gp, 0, none⟩) g.prio.length cap) (pressL ps g.prio) := ⟨hom, hp7.2⟩
        have hopp : OP wr w1.heap.size w4.heap.size (.agg #[.slice F1 g.arena.owner.length f1, .slice F2 g.arena.next.length f2, .slice (some ⟨gp, 0, none⟩) g.prio.length cap]) ⟨g.arena, pressL ps g.prio⟩ := ⟨_, _, _, vs, rfl, hor, hnr, hpr, hd1, hd2, hd3⟩
        have hXc0 := hXr.c0
        have hXc1 := hXr.c1
        have hXc2 := hXr.c2
        have q0 := hRr.c0
        have q1 := hRr.c1
        have q2 := hRr.c2
        have q3 := hRr.frozen 0
        have q4 := hRr.frozen 1
        have q5 := hRr.frozen 2
        clear ho7 hps hB7
        go_wp2
        have hR6 := ((hRr.set_ 0 (.slice F1 g.arena.owner.length f1)).set_ 1 (.slice F2 g.arena.next.length f2)).set_ 2 (.slice (some ⟨gp, 0, none⟩) g.prio.length cap)
        have hbw6 : Below w.heap.size w (((wr.setCell ⟨w.heap.size + 1, 0, none⟩ (.slice F1 g.arena.owner.length f1)).setCell ⟨w.heap.size + 1, 1, none⟩ (.slice F2 g.arena.next.length f2)).setCell ⟨w.heap.size + 1, 2, none⟩ (.slice (some ⟨gp, 0, none⟩) g.prio.length cap)) := ((hbwr.setCell (by simp) _).setCell (by simp) _).setCell (by simp) _
        have hcb : ∀ b, w1.heap.size ≤ b → (((wr.setCell ⟨w.heap.size + 1, 0, none⟩ (.slice F1 g.arena.owner.length f1)).setCell ⟨w.heap.size + 1, 1, none⟩ (.slice F2 g.arena.next.length f2)).setCell ⟨w.heap.size + 1, 2, none⟩ (.slice (some ⟨gp, 0, none⟩) g.prio.length cap)).heap[b]? = wr.heap[b]? := fun b hb => by
          rw [Below.heap_setCell _ _ _ _ (by simp; omega), Below.heap_setCell _ _ _ _ (by simp; omega), Below.heap_setCell _ _ _ _ (by simp; omega)]
        have hsz : (((wr.setCell ⟨w.heap.size + 1, 0, none⟩ (.slice F1 g.arena.owner.length f1)).setCell ⟨w.heap.size + 1, 1, none⟩ (.slice F2 g.arena.next.length f2)).setCell ⟨w.heap.size + 1, 2, none⟩ (.slice (some ⟨gp, 0, none⟩) g.prio.length cap)).heap.size = wr.heap.size := by simp
        have hop6 := hopp.heapFrom hcb
        generalize ((wr.setCell ⟨w.heap.size + 1, 0, none⟩ (.slice F1 g.arena.owner.length f1)).setCell ⟨w.heap.size + 1, 1, none⟩ (.slice F2 g.arena.next.length f2)).setCell ⟨w.heap.size + 1, 2, none⟩ (.slice (some ⟨gp, 0, none⟩) g.prio.length cap) = w8 at *
        have p0 := hR6.c0
        have p1 := hR6.c1
        have p2 := hR6.c2
        refine bodyPost_ret (v := .agg #[.slice F1 g.arena.owner.length f1, .slice F2 g.arena.next.length f2, .slice (some ⟨gp, 0, none⟩) g.prio.length cap]) (by simp [results, Try.results39, go_sem, p0, p1, p2]) rfl ?_
        exact .mk' (hop6.mono hw1 (by omega)) hbw6
theorem pressG_bulk (g : ParityD) (h : bulkP g ≤ 1048576) : bulkP (pressG g) ≤ 1048576 := by
  unfold pressG
  split
  · unfold bulkP pressP at *
    simpa using h
  · simp [bulkP, bulkA, sizeR]
end Go.Proofs.Ytpnophmanpfejaa
