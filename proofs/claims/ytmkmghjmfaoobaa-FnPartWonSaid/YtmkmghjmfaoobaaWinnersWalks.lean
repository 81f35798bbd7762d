/- The walks of wonIn and winners. Conditions: the game is valid, every vertex of the part has a successor in it. -/
import Derived.Test.YtmkmghjmfaoobaaPkC
import Derived.Test.YtmkmghjmfaoobaaWonWalks
import Derived.Test.YtmkmghjmfaoobaaPkB
import Derived.Deep.RegionHeld3
namespace Go.Proofs.Ytmkmghjmfaoobaa
set_option linter.unusedSimpArgs false
set_option linter.unusedVariables false
open Go.RowKit

/-- A game's duel. -/
def duelP (g : ParityD) : Duel := duel g.arena.owner g.prio g.arena.next
theorem ParityOk.own {g : ParityD} (h : ParityOk g) {m : List Bool} (hm : m.length = g.arena.owner.length) (v : Nat) (hv : On m v) : (duelP g).own v = 0 ∨ (duelP g).own v = 1 := by
  have := h.arena.owner (v := v) (by rw [← hm]; exact hv.lt)
  show ix g.arena.owner v = 0 ∨ ix g.arena.owner v = 1
  omega
/-- Two rows of int64s come back. -/
def RetTwo (w : World) (l m : List Int) (e : Ending) (w' : World) : Prop := ∃ u v B0 C0 B1 C1, e = .returned (.tuple #[u, v]) ∧ OI w' B0 C0 u l ∧ OI w' B1 C1 v m ∧ (w.heap.size ≤ B0 ∧ w.heap.size ≤ B1 ∧ C0 ≤ w'.heap.size ∧ C1 ≤ w'.heap.size ∧ (C0 ≤ B1 ∨ C1 ≤ B0)) ∧ Below w.heap.size w w'

set_option maxRecDepth 100000 in
set_option maxHeartbeats 4000000 in
theorem wonIn_any (v : Value) (g : ParityD) (u : Value) (s : List Int) (w : World) (hv : IsParity w v g) (hu : Ints w u s) (hok : ParityOk g) (hs : Vert s g.arena.owner.length) (ht : Tot (duelP g) (On (marksL g.arena.owner.length s))) :
    Calls Try.prog 57 #[v, u] w (RetTwo w (markedL (evenW (duelP g) (marksL g.arena.owner.length s))) (markedL (restL (marksL g.arena.owner.length s) (evenW (duelP g) (marksL g.arena.owner.length s))))) := by
  obtain ⟨o, n, p, rfl, hbw, hB⟩ := parity_box hv
  obtain ⟨ha, hp⟩ := hv.parts
  have hB0 := hB
  have hbw0 := hbw
  generalize hw0 : w.alloc (.cells #[o, n, p] 32) = w0 at *
  have hle := hok.arena.le
  have Hc := Lib.hid (fun W (hW : Kept w W) => predsOf_any _ g.arena W (ha.kept hW) hok.arena)
  have HS := Lib.hid (fun W (hW : Below w0.heap.size w0 W) => (show W.cell? ⟨w.heap.size, 0, none⟩ = some o ∧ W.cell? ⟨w.heap.size, 1, none⟩ = some n ∧ W.cell? ⟨w.heap.size, 2, none⟩ = some p from ⟨(hB.below hW hB.lt).c0, (hB.below hW hB.lt).c1, (hB.below hW hB.lt).c2⟩))
  have hR0 : Below w0.heap.size w0 w0.drew := ⟨rfl, rfl, rfl, Nat.le_refl _, fun _ _ => rfl⟩
  subst hw0
  go_enter Try.func57, Try.ntmps57
  go_wp2
  go_region_held3 (fun W => W.cell? ⟨w.heap.size, 0, none⟩ = some o ∧ W.cell? ⟨w.heap.size, 1, none⟩ = some n ∧ W.cell? ⟨w.heap.size, 2, none⟩ = some p)
    (first | exact HS.out _ hR0 | exact HS.out _ hR3 | exact HS.out _ (Below.up hR3 ((Below.refl _ _).alloc (Nat.le_refl _) _)))
    (first | (go_at_call 94; refine (Hc.out _ (Kept.of (Below.up hbw hR0))).mono ?_; rintro e w3 ⟨q, rfl, hq3, hb3⟩; obtain ⟨QA, qc, hqf⟩ : ∃ A c, q = .slice A (prevL g.arena.next g.arena.owner.length).length c := (by obtain ⟨A, c, h1, _⟩ := hq3.rows.form; exact ⟨A, c, h1⟩); subst hqf; have hR3 := Below.up hR0 hb3))
  have hbw3 := Below.up hbw hR3
  have hbn := (Below.refl w3.heap.size w3).alloc (Nat.le_refl _) (.cells #[o, n, p, .slice QA (prevL g.arena.next g.arena.owner.length).length qc] 113)
  have hSA := Arr.new w3 113 [o, n, p, .slice QA (prevL g.arena.next g.arena.owner.length).length qc]
  have hbw4 := Below.up hbw3 hbn
  have hSol : IsSolver (w3.alloc (.cells #[o, n, p, .slice QA (prevL g.arena.next g.arena.owner.length).length qc] 113)) w3.heap.size g.arena g.prio o n p (.slice QA (prevL g.arena.next g.arena.owner.length).length qc) :=
    ⟨hSA, ha.parts.1.kept (Kept.of hbw4), ha.parts.2.kept (Kept.of hbw4), hp.kept (Kept.of hbw4), hq3.rows.kept (Kept.of hbn)⟩
  have hq4 := HS.out _ (Below.up hR3 hbn)
  obtain ⟨hx0, hx1, hx2⟩ := hq4
  have hR4 := Below.up hR3 hbn
  rw [length_prevL] at hSol hbw4 hR4 hx0 hx1 hx2
  clear hR3 hbn hSA hq3 hbw3 hb3
  go_wp2_with fail
  generalize w3.alloc (.cells #[o, n, p, .slice QA g.arena.owner.length qc] 113) = w4 at *
  refine (markOf_any _ g.arena _ s _ (ha.kept (Kept.of hbw4)) (hu.kept (Kept.of hbw4)) hs (by omega)).mono ?_
  rintro e w5 ⟨um, rfl, hum, hb5⟩
  have hm5 := hum.bools
  obtain ⟨MA, mc, rfl, _⟩ := hm5.form
  rw [length_marksL] at hm5
  have hbw5 := Below.up hbw4 hb5
  have hSol5 := hSol.below hb5
  clear hum hSol hx0 hx1 hx2
  go_wp2_with fail
  refine (won_any _ w3.heap.size g.arena g.prio o n p _ _ (marksL g.arena.owner.length s) w5 (Lib.hid (Nat.le_refl _)) hSol5 hm5 hok.arena (Lib.hid (length_marksL _ _)) (Lib.hid hok.len) (Lib.hid hok.prio) (Lib.hid ht)).mono ?_
  rintro e w6 ⟨v6, r, i6, rfl, hv6, HW, hb6⟩
  obtain ⟨V6, x6, rfl, _⟩ := hv6.form
  have hm6 := hm5.kept (Kept.of hb6)
  have hbw6 := Below.up hbw5 hb6
  have Hown := Lib.hid (hok.own (m := (marksL g.arena.owner.length s)) (length_marksL _ _))
  have He := Lib.hid (WonB.is_even Hown.out (length_marksL _ _) HW.out)
  have Ho := Lib.hid (WonB.is_odd Hown.out (length_marksL _ _) HW.out)
  have Hrl := Lib.hid HW.out.len
  have hrle : r.length ≤ 1048576 := by rw [Hrl.out, length_marksL]; omega
  by_cases hi : i6 = 0
  · subst hi
    have He' := Lib.hid (show r = (evenW (duelP g) (marksL g.arena.owner.length s)) from He.out)
    have Ho' := Lib.hid (show restL (marksL g.arena.owner.length s) r = restL (marksL g.arena.owner.length s) (evenW (duelP g) (marksL g.arena.owner.length s)) from Ho.out)
    clear He Ho
    go_wp2_with fail
    refine (listOf_any _ r _ hv6 hrle).mono ?_
    rintro e w7 ⟨u7, rfl, hu7, hb7⟩
    have hbw7 := Below.up hbw6 hb7
    obtain ⟨V7, x7, rfl, _⟩ := hu7.ints.form
    go_wp2_with fail
    refine (without_any _ (marksL g.arena.owner.length s) _ r _ (hm6.kept (Kept.of hb7)) (hv6.kept (Kept.of hb7)) Hrl.out.symm (by rw [length_marksL]; omega)).mono ?_
    rintro e w8 ⟨u8, rfl, hu8, hb8⟩
    have hbw8 := Below.up hbw7 hb8
    obtain ⟨V8, x8, rfl, _⟩ := hu8.bools.form
    have hu8' := hu8.bools
    simp only [length_restL, length_marksL] at hu8'
    clear hu8
    go_wp2_with fail
    refine (listOf_any _ _ _ hu8' (by simp; omega)).mono ?_
    rintro e w9 ⟨u9, rfl, hu9, hb9⟩
    have hbw9 := Below.up hbw8 hb9
    obtain ⟨V9, x9, rfl, _⟩ := hu9.ints.form
    have h7 := ((OI.of hu7).below hb8).kept (Only.of_below (B := w7.heap.size) (C := w7.heap.size) hb9) (.inl (Nat.le_refl _))
    have h7s := hbw6.size
    have h8s := hb7.size
    have h9s := hb8.size
    have h10s := hb9.size
    go_wp2
    go_ret2
    refine ⟨_, _, w6.heap.size, w7.heap.size, w8.heap.size, w9.heap.size, rfl, ?_, ?_, by omega, hbw9⟩
    · rw [← He'.out]; exact h7
    · rw [← Ho'.out]; exact OI.of hu9
  · have hid : (i6 == 0) = false := by simpa using hi
    have Ho' := Lib.hid (show r = restL (marksL g.arena.owner.length s) (evenW (duelP g) (marksL g.arena.owner.length s)) from by have := Ho.out; rwa [if_neg hi] at this)
    have He' := Lib.hid (show restL (marksL g.arena.owner.length s) r = (evenW (duelP g) (marksL g.arena.owner.length s)) from by have := He.out; unfold evenL at this; rwa [if_neg hi] at this)
    clear He Ho hi
    go_wp2_with fail
    refine (without_any _ (marksL g.arena.owner.length s) _ r _ hm6 hv6 Hrl.out.symm (by rw [length_marksL]; omega)).mono ?_
    rintro e w8 ⟨u8, rfl, hu8, hb8⟩
    have hbw8 := Below.up hbw6 hb8
    obtain ⟨V8, x8, rfl, _⟩ := hu8.bools.form
    have hu8' := hu8.bools
    simp only [length_restL, length_marksL] at hu8'
    clear hu8
    go_wp2_with fail
    refine (listOf_any _ _ _ hu8' (by simp; omega)).mono ?_
    rintro e w9 ⟨u9, rfl, hu9, hb9⟩
    have hbw9 := Below.up hbw8 hb9
    obtain ⟨V9, x9, rfl, _⟩ := hu9.ints.form
    go_wp2_with fail
    refine (listOf_any _ r _ ((hv6.kept (Kept.of hb8)).kept (Kept.of hb9)) hrle).mono ?_
    rintro e w10 ⟨u10, rfl, hu10, hb10⟩
    have hbw10 := Below.up hbw9 hb10
    obtain ⟨V10, x10, rfl, _⟩ := hu10.ints.form
    have h9 := (OI.of hu9).below hb10
    have h8s := hbw8.size
    have h9s := hb9.size
    have h10s := hb10.size
    go_wp2
    go_ret2
    refine ⟨_, _, w8.heap.size, w9.heap.size, w9.heap.size, w10.heap.size, rfl, ?_, ?_, by omega, hbw10⟩
    · rw [← He'.out]; exact h9
    · rw [← Ho'.out]; exact OI.of hu10

theorem putOne_set {m : List Bool} {l : List Int} {k j : Nat} (hk : k < (markedL m).length) (hj : ix (markedL m) k = (j : Int)) (hl : ∀ v, v < l.length → ix l v = if (v : Int) ∈ (markedL m).take k then 1 else 0) (hjl : j < l.length) :
    ∀ v, v < (l.set j 1).length → ix (l.set j 1) v = if (v : Int) ∈ (markedL m).take (k + 1) then 1 else 0 := fun v hv => by
  rw [List.length_set] at hv
  rw [set_ix hjl, take_ix hk, hj]
  by_cases e : v = j
  · subst e; simp
  · rw [if_neg e, hl v hv]
    have : ¬ (v : Int) = (j : Int) := by omega
    simp [this]
theorem allOf_any (v : Value) (a : ArenaD) (w : World) (hv : IsArena w v a) (hle : a.owner.length ≤ 256) : Calls Try.prog 83 #[v] w (RetInts w (upFrom 0 a.owner.length)) := by
  obtain ⟨o, n, rfl, hbw, hB⟩ := arena_open hv
  have hBc0 := hB.c0
  have hBc1 := hB.c1
  go_enter Try.func83, Try.ntmps83
  go_wp2_with fail
  refine (size_any _ a _ (hv.kept (Kept.of hbw))).mono ?_
  rintro e w1 ⟨rfl, hb1⟩
  have hbw1 := Below.up hbw hb1
  go_wp2_with fail
  refine (implAllOf_any (a.owner.length : Int) _).mono ?_
  rintro e w2 ⟨u2, rfl, ho2, hb2⟩
  rw [allL_nat (by omega)] at ho2
  have hbw2 := Below.up hbw1 hb2
  go_wp2
  go_ret
  exact ⟨_, rfl, ho2.more hbw1.size, hbw2⟩
theorem vert_upFrom (n : Nat) : Vert (upFrom 0 n) n := fun k hk => by
  rw [length_upFrom] at hk
  exact ⟨k, by rw [ix_upFrom hk]; omega, hk⟩
theorem ArenaOk.tot {a : ArenaD} (h : ArenaOk a) (p : List Int) : Tot (duel a.owner p a.next) (On (fullM a.owner.length)) := fun v hv => by
  have hv' := on_fullM.1 hv
  have hd := (h.deg hv').1
  obtain ⟨j, hj, hjn⟩ := (h.set hv').vert 0 (by omega)
  exact ⟨j, (mem_toNat (h.set hv')).2 (mem_ix.2 ⟨0, by omega, hj⟩), on_fullM.2 hjn⟩
/-- A solution there is. -/
theorem winners_eq {d : Duel} {n : Nat} {l : List Int} (hl : l.length = n) (h : ∀ v, v < n → ix l v = if (v : Int) ∈ markedL (restL (fullM n) (evenW d (fullM n))) then 1 else 0) : l = winnersL d n := by
  apply List.ext_getElem (by simp [hl])
  intro v h1 h2
  rw [length_winnersL] at h2
  rw [← ix_lt h1, ← ix_lt (by simpa using h2), h v h2, ix_winnersL h2]
  by_cases hb : bx (evenW d (fullM n)) v = true
  · rw [if_pos hb, if_neg]
    intro hm
    obtain ⟨j, hj, e, hbj⟩ := mem_markedL.1 hm
    have : v = j := by omega
    subst this
    exact (on_restL.1 hbj).2 hb
  · rw [if_neg hb, if_pos]
    exact mem_markedL.2 ⟨v, by simpa using h2, rfl, on_restL.2 ⟨on_fullM.2 h2, hb⟩⟩

set_option maxRecDepth 100000 in
set_option maxHeartbeats 4000000 in
theorem winners_any (v : Value) (g : ParityD) (w : World) (hv : IsParity w v g) (hok : ParityOk g) :
    Calls Try.prog 49 #[v] w (RetInts w (winnersL (duelP g) g.arena.owner.length)) := by
  obtain ⟨o, n, p, rfl, hbw, hB⟩ := parity_box hv
  obtain ⟨ha, hp⟩ := hv.parts
  obtain ⟨P, pc, rfl, hlp, hmp⟩ := hp.form
  have hle := hok.arena.le
  have Hlen := Lib.hid hok.len
  have hmk := make_one elem_int64 g.prio.length (by rw [hok.len]; omega)
  have hBc2 := hB.c2
  have hBl := hB.lt
  go_enter Try.func49, Try.ntmps49
  go_wp2
  clear hmk hBc2
  have hM := IArr.new (w.alloc (.cells #[o, n, .slice P g.prio.length pc] 32)) g.prio.length
  have hsz : (w.alloc (.cells #[o, n, .slice P g.prio.length pc] 32)).heap.size = w.heap.size + 1 := by simp
  rw [hsz] at hM
  have hbz := hbw.alloc hbw.size (.cells (zeros (.int .i64 0) g.prio.length).toArray 2)
  replace hB := hB.alloc (.cells (zeros (.int .i64 0) g.prio.length).toArray 2)
  clear hsz hbw hBl
  generalize (w.alloc (.cells #[o, n, .slice P g.prio.length pc] 32)).alloc (.cells (zeros (.int .i64 0) g.prio.length).toArray 2) = w0 at *
  have Hc := Lib.hid (fun W (hW : Kept w W) => allOf_any _ g.arena W (ha.kept hW) hle)
  have hmk1 : marksL g.arena.owner.length (upFrom 0 g.arena.owner.length) = (fullM g.arena.owner.length) := marksL_all _
  have Hc2 := Lib.hid (fun W u (hW : Kept w W) (hu : Ints W u (upFrom 0 g.arena.owner.length)) => wonIn_any _ g u (upFrom 0 g.arena.owner.length) W (hv.kept hW) hu hok (vert_upFrom _) (by rw [marksL_all]; exact hok.arena.tot g.prio))
  rw [hmk1] at Hc2
  clear hmk1
  have HS := Lib.hid (fun W (hW : Below w0.heap.size w0 W) => (show W.cell? ⟨w.heap.size, 0, none⟩ = some o ∧ W.cell? ⟨w.heap.size, 1, none⟩ = some n ∧ W.cell? ⟨w.heap.size, 2, none⟩ = some (.slice P g.prio.length pc) from ⟨(hB.below hW hB.lt).c0, (hB.below hW hB.lt).c1, (hB.below hW hB.lt).c2⟩))
  have hR0 : Below w0.heap.size w0 w0.drew := ⟨rfl, rfl, rfl, Nat.le_refl _, fun _ _ => rfl⟩
  go_region_held3 (fun W => W.cell? ⟨w.heap.size, 0, none⟩ = some o ∧ W.cell? ⟨w.heap.size, 1, none⟩ = some n ∧ W.cell? ⟨w.heap.size, 2, none⟩ = some (.slice P g.prio.length pc))
    (first | exact HS.out _ hR0 | exact HS.out _ hR3 | exact HS.out _ hR4)
    (first | (go_at_call 83; refine (Hc.out _ (Kept.of (Below.up hbz hR0))).mono ?_; rintro e w3 ⟨u3, rfl, ho3, hb3⟩; have hR3 := Below.up hR0 hb3) | (go_at_call 57; refine (Hc2.out _ _ (Kept.of (Below.up hbz hR3)) ho3.ints).mono ?_; rintro e w4 ⟨ev, od, B0, C0, B1, C1, rfl, hev, hod0, hd01, hb4⟩; have hod : OwnInts w4 w3.heap.size od _ := hod0.1.more hd01.2.1; have hR4 := Below.up hR3 hb4))
  have hM4 := IArr.below' hM hR4 hM.lt
  have hbw4 := Below.up hbz hR4
  have hG : w.heap.size + 1 < w0.heap.size := hM.lt
  have hodi := hod.ints
  have hR4s := hR4.size
  obtain ⟨OA, oc, rfl, _⟩ := hodi.form
  have hR3s : w.heap.size + 1 < w3.heap.size := by have := hR3.size; omega
  clear hM hB hev ho3 hb3 hb4 hR0 hR3 hodi
  go_wp2
  go_loopw [22] (fun i wr => ∃ (k : Nat) (l : List Int), k ≤ (markedL (restL (fullM g.arena.owner.length) (evenW (duelP g) (fullM g.arena.owner.length)))).length ∧ i = .int .i64 k ∧ IArr wr (w.heap.size + 1) l ∧ Hid (l.length = g.prio.length) ∧ Hid (∀ v, v < l.length → ix l v = if (v : Int) ∈ (markedL (restL (fullM g.arena.owner.length) (evenW (duelP g) (fullM g.arena.owner.length)))).take k then 1 else 0) ∧ Below w.heap.size w wr ∧ Chg (fun b => b = w.heap.size + 1) w4 wr) (fun i _ => (markedL (restL (fullM g.arena.owner.length) (evenW (duelP g) (fullM g.arena.owner.length)))).length - (intOf i).toNat)
  case atStart => exact ⟨0, _, Nat.zero_le _, rfl, hM4, Lib.hid (by simp), Lib.hid (fun v hv => by rw [List.length_replicate] at hv; simp [ix, hv]), hbw4, Chg.refl _ _⟩
  case round =>
    obtain ⟨k, l, hk, rfl, hM, Hl, Hv, hbr, hch⟩ := hrel
    by_cases hlt : k < (markedL (restL (fullM g.arena.owner.length) (evenW (duelP g) (fullM g.arena.owner.length)))).length
    · have hod2 : Ints wr (.slice OA (markedL (restL (fullM g.arena.owner.length) (evenW (duelP g) (fullM g.arena.owner.length)))).length oc) (markedL (restL (fullM g.arena.owner.length) (evenW (duelP g) (fullM g.arena.owner.length)))) := ((OI.of hod).chg hch fun b hb => by have := (hod.lt b hb).1; omega).ints
      obtain ⟨a1, rfl, hc1⟩ := hod2.at_ hlt
      obtain ⟨j, hj, hjx, hjo⟩ := mem_markedL.1 (mem_ix.2 ⟨k, hlt, rfl⟩)
      rw [length_restL, length_fullM] at hj
      rw [hjx] at hc1
      have Hput := Lib.hid (putOne_set hlt hjx Hv.out (by rw [Hl.out, Hlen.out]; exact hj))
      clear hjx hjo
      have hjl : (j : Int) < g.prio.length := by rw [Hlen.out]; omega
      have hcM := hM.cell (k := j) (by rw [Hl.out, Hlen.out]; exact hj)
      have hf := hM.frozen j
      have hset := hM.set_ j 1
      go_wp2
      exact ⟨⟨k + 1, l.set j 1, by omega, by go_num, hset, Lib.hid (by rw [List.length_set]; exact Hl.out), Hput, hbr.setCell (by simp) _, hch.trans (chg_setCell wr ⟨w.heap.size + 1, j, none⟩ (.int .i64 1))⟩, by simp [intOf]; omega⟩
    · obtain rfl : k = (markedL (restL (fullM g.arena.owner.length) (evenW (duelP g) (fullM g.arena.owner.length)))).length := by omega
      have hres : l = winnersL (duelP g) g.arena.owner.length := winners_eq (by rw [Hl.out, Hlen.out]) fun v hv => by
        have := Hv.out v (by rw [Hl.out, Hlen.out]; exact hv)
        rwa [List.take_length] at this
      subst hres
      have hown := hM.own (B := w.heap.size) (by omega) (by rw [length_winnersL]; omega)
      rw [Hl.out] at hown
      go_wp2
      go_ret
      exact .mk' hown hbr
end Go.Proofs.Ytmkmghjmfaoobaa
