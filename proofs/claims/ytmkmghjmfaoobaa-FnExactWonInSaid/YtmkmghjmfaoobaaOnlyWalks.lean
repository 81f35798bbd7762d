/- The walks of OnlyBy, both ways, and of what they call. No condition but the lists' lengths. -/
import Derived.Test.YtmkmghjmfaoobaaFixedWalks
import Derived.Test.YtmkmghjmfaoobaaPkB
namespace Go.Proofs.Ytmkmghjmfaoobaa
set_option linter.unusedSimpArgs false
set_option linter.unusedVariables false
open Go.RowKit

def pickAt (a : ArenaD) (picks : List Int) (v : Nat) : Bool := decide (ix picks v = -1) || hasB (rx a.next v) (ix picks v)
def pickAll (a : ArenaD) (picks : List Int) : Bool := decide (∀ v, v < picks.length → pickAt a picks v = true)
def picksB (g : ParityD) (picks : List Int) : Bool := decide (picks.length = g.prio.length) && pickAll g.arena picks
theorem pickAll_bad {a : ArenaD} {picks : List Int} {v : Nat} (hv : v < picks.length) (h : pickAt a picks v = false) : pickAll a picks = false := by
  unfold pickAll; rw [decide_eq_false_iff_not]; intro h'; rw [h' v hv] at h; cases h
def onlyOkB (g : ParityD) (picks : List Int) : Bool := parityOkB g && picksB g picks
def onlyP (g : ParityD) (picks : List Int) : ParityD := ⟨fixA g.arena picks, g.prio⟩
def onlyG (g : ParityD) (picks : List Int) : ParityD := if onlyOkB g picks then onlyP g picks else ⟨⟨[], []⟩, []⟩
theorem onlyG_bulk (g : ParityD) (picks : List Int) : bulkP (onlyG g picks) ≤ 16384 := by
  unfold onlyG
  split
  · rename_i h
    unfold onlyOkB at h
    rw [Bool.and_eq_true] at h
    have hok := parityOkB_iff.1 h.1
    have h1 := fixA_bulk (plan := picks) hok.arena
    have h2 := hok.len
    have h3 := hok.arena.le
    unfold bulkP onlyP
    simp only
    omega
  · simp [bulkP, bulkA, sizeR]

set_option maxRecDepth 100000 in
set_option maxHeartbeats 2000000 in
theorem arePicks_any (v : Value) (g : ParityD) (u : Value) (l : List Int) (w : World) (hv : IsParity w v g) (hu : Ints w u l) (hok : ParityOk g) :
    Calls Try.prog 65 #[v, u] w fun e w' => e = .returned (.bool (picksB g l)) ∧ Below w.heap.size w w' := by
  obtain ⟨o, n, p, rfl, hbw, hB⟩ := parity_box hv
  obtain ⟨ha, hp⟩ := hv.parts
  obtain ⟨ho, hn⟩ := ha.parts
  obtain ⟨A', c', rfl, hlc', hcm'⟩ := hn.form
  obtain ⟨P, pc, rfl, hpl, hpm⟩ := hp.form
  obtain ⟨S, sc, rfl, hsl, hsm⟩ := hu.form
  by_cases h1 : l.length = g.prio.length
  · have hd1 : ((l.length : Int) != (g.prio.length : Int)) = false := by simp [h1]
    have hres : picksB g l = pickAll g.arena l := by unfold picksB; rw [decide_eq_true h1]; rfl
    rw [hres]; clear hres
    obtain ⟨res, hres⟩ : ∃ r, pickAll g.arena l = r := ⟨_, rfl⟩
    rw [hres]
    have Hres := Lib.hid hres
    clear hres
    have Hlen := Lib.hid hok.arena.len
    have Hol := Lib.hid hok.len
    have H1 := Lib.hid h1
    clear h1
    go_enter Try.func65, Try.ntmps65
    have hBz := hB.lt
    have hBc0 := hB.c0
    have hBc1 := hB.c1
    have hBc2 := hB.c2
    go_wp2
    clear hd1
    generalize w.alloc (.cells #[o, .slice A' g.arena.next.length c', .slice P g.prio.length pc] 32) = w0 at *
    have hu1 := (hu.kept (Kept.of hbw))
    have hn1 := (hn.kept (Kept.of hbw))
    go_loop [15] (fun i => ∃ k : Nat, k ≤ l.length ∧ i = .int .i64 k ∧ ∀ j, j < k → pickAt g.arena l j = true) (fun i => l.length - (intOf i).toNat)
    case atStart => exact ⟨0, Nat.zero_le _, rfl, fun j hj => by omega⟩
    case round =>
      obtain ⟨k, hk, rfl, hm⟩ := hrel
      have Hm := Lib.hid hm
      clear hm
      by_cases hlt : k < l.length
      · have hkn : k < g.arena.next.length := by rw [Hlen.out, ← Hol.out, ← H1.out]; exact hlt
        obtain ⟨a1, ea, hc1⟩ := hu1.at_ hlt
        subst ea
        obtain ⟨a4, R, r, ea, hc4, hrow⟩ := hn1.at_ hkn
        subst ea
        have hkl : (k : Int) < g.arena.next.length := by omega
        have hbad : pickAt g.arena l k = false → res = false := fun h => by rw [← Hres.out]; exact pickAll_bad hlt h
        have hcont := Contains_any _ (rx g.arena.next k) (ix l k) w0 hrow
        by_cases e3 : ix l k = -1
        · have hd3 : (ix l k != -1) = false := by simpa using e3
          have Hat := Lib.hid (show pickAt g.arena l k = true by unfold pickAt; rw [decide_eq_true e3]; rfl)
          clear hbad e3 hcont
          go_wp2
          exact ⟨⟨k + 1, by omega, by go_num, fun i hi => by
            by_cases ei : i = k
            · rw [ei]; exact Hat.out
            · exact Hm.out i (by omega)⟩, by simp [intOf]; omega⟩
        · have hd3 : (ix l k != -1) = true := by simpa using e3
          have hat : pickAt g.arena l k = hasB (rx g.arena.next k) (ix l k) := by unfold pickAt; rw [decide_eq_false e3]; rfl
          cases e4 : hasB (rx g.arena.next k) (ix l k)
          · have hr : res = false := hbad (by rw [hat, e4])
            subst hr
            rw [e4] at hcont
            clear hbad e3 e4 hat
            go_wp2_with (go_at_call 101; refine hcont.mono ?_; rintro e w' ⟨rfl, hw⟩; subst w')
            go_ret
            exact ⟨rfl, hbw⟩
          · have Hat := Lib.hid (hat.trans e4)
            rw [e4] at hcont
            clear hbad e3 e4 hat
            go_wp2_with (go_at_call 101; refine hcont.mono ?_; rintro e w' ⟨rfl, hw⟩; subst w')
            exact ⟨⟨k + 1, by omega, by go_num, fun i hi => by
              by_cases ei : i = k
              · rw [ei]; exact Hat.out
              · exact Hm.out i (by omega)⟩, by simp [intOf]; omega⟩
      · have hr : res = true := by
          rw [← Hres.out]; unfold pickAll; rw [decide_eq_true_eq]; exact fun j hj => Hm.out j (by omega)
        subst hr
        go_wp2
        go_ret
        exact ⟨rfl, hbw⟩
  · have hd1 : ((l.length : Int) != (g.prio.length : Int)) = true := by simp; omega
    have hres : picksB g l = false := by unfold picksB; rw [decide_eq_false h1]; rfl
    rw [hres]; clear hres
    go_enter Try.func65, Try.ntmps65
    have hBz := hB.lt
    have hBc0 := hB.c0
    have hBc1 := hB.c1
    have hBc2 := hB.c2
    go_wp2
    go_ret
    exact ⟨rfl, hbw⟩

/-- An arena and a row elsewhere make a game. -/
theorem OP.join' {w : World} {B C B1 C1 : Nat} {o n p : Value} {g : ParityD} (h1 : OA w B1 C1 (.agg #[o, n]) g.arena) (h2 : OI w B C p g.prio) (hd : ∀ b, p.ownBlock = some b → b < B1 ∨ C1 ≤ b) (hB : B ≤ B1) (hC : C1 ≤ C) : OP w B C (.agg #[o, n, p]) g := by
  obtain ⟨o', n', vs, he, h3, h4, h5⟩ := h1
  simp only [Value.agg.injEq, Array.mk.injEq, List.cons.injEq, and_true] at he
  obtain ⟨rfl, rfl⟩ := he
  refine ⟨o, n, p, vs, rfl, h3.mono hB hC, h4.mono hB hC, h2, h5, fun b hb e => ?_, fun b hb k hk e => ?_⟩
  · have h6 := hd b hb; have h7 := (h3.1.lt b e).1; have h8 := h3.2 b e; omega
  · have h6 := hd b hb; have h7 := ((h4.row k hk).1.lt b e).1; have h8 := (h4.row k hk).2 b e; omega
theorem OP.heapFrom {w w' : World} {B C : Nat} {v : Value} {g : ParityD} (h : OP w B C v g) (hh : ∀ b, B ≤ b → w'.heap[b]? = w.heap[b]?) : OP w' B C v g := by
  obtain ⟨o, n, p, vs, rfl, h1, h2, h3, h4, h5, h6⟩ := h
  exact ⟨o, n, p, vs, rfl, h1.heap' fun b hb => hh b (h1.1.lt b hb).1, h2.heap (fun b hb => hh b (h2.own.lt b hb).1) (fun k hk b hb => hh b ((h2.row k hk).1.lt b hb).1), h3.heap' fun b hb => hh b (h3.1.lt b hb).1, h4, h5, h6⟩
def RetParity (w : World) (g : ParityD) (e : Ending) (w' : World) : Prop := ∃ u, e = .returned u ∧ OP w' w.heap.size w'.heap.size u g ∧ Below w.heap.size w w'
theorem RetParity.mk' {w w' : World} {g : ParityD} {u : Value} (h1 : OP w' w.heap.size w'.heap.size u g) (h2 : Below w.heap.size w w') : RetParity w g (.returned u) w' := ⟨u, rfl, h1, h2⟩
def RetParityB (w : World) (g : ParityD) (b : Bool) (e : Ending) (w' : World) : Prop := ∃ u, e = .returned (.tuple #[u, .bool b]) ∧ OP w' w.heap.size w'.heap.size u g ∧ Below w.heap.size w w'
theorem RetParityB.mk' {w w' : World} {g : ParityD} {b : Bool} {u : Value} (h1 : OP w' w.heap.size w'.heap.size u g) (h2 : Below w.heap.size w w') : RetParityB w g b (.returned (.tuple #[u, .bool b])) w' := ⟨u, rfl, h1, h2⟩
theorem OP.none' (w : World) (B C : Nat) : OP w B C (.agg #[.slice none 0 0, .slice none 0 0, .slice none 0 0]) ⟨⟨[], []⟩, []⟩ :=
  ⟨_, _, _, [], rfl, ⟨OwnInts.nil _ _, fun b hb => by simp [Value.ownBlock] at hb⟩, nil_rows _ _ _, ⟨OwnInts.nil _ _, fun b hb => by simp [Value.ownBlock] at hb⟩, fun b hb => by simp [Value.ownBlock] at hb, fun b hb => by simp [Value.ownBlock] at hb, fun b hb => by simp [Value.ownBlock] at hb⟩

set_option maxRecDepth 100000 in
set_option maxHeartbeats 4000000 in
theorem onlyBy_any (v : Value) (g : ParityD) (u : Value) (l : List Int) (w : World) (hv : IsParity w v g) (hu : Ints w u l) (hok : ParityOk g) (hl : l.length = g.prio.length) :
    Calls Try.prog 67 #[v, u] w (RetParity w (onlyP g l)) := by
  obtain ⟨o, n, p, rfl, hbw, hB⟩ := parity_box hv
  obtain ⟨ha, hp⟩ := hv.parts
  obtain ⟨P, pc, rfl, hpl, hpm⟩ := hp.form
  have hR : Arr ((w.alloc (.cells #[o, n, .slice P g.prio.length pc] 32)).alloc (.cells #[.slice none 0 0, .slice none 0 0, .slice none 0 0] 32)) (w.heap.size + 1) 32 [.slice none 0 0, .slice none 0 0, .slice none 0 0] := by
    simpa using Arr.new (w.alloc (.cells #[o, n, .slice P g.prio.length pc] 32)) 32 [.slice none 0 0, .slice none 0 0, .slice none 0 0]
  replace hB := hB.alloc (.cells #[.slice none 0 0, .slice none 0 0, .slice none 0 0] 32)
  replace hbw := hbw.alloc hbw.size (.cells #[.slice none 0 0, .slice none 0 0, .slice none 0 0] 32)
  have hBc0 := hB.c0
  have hBc1 := hB.c1
  have hBc2 := hB.c2
  have hle := hok.arena.le
  have hpo := Lib.hid hok.len
  have hlen : l.length = g.arena.owner.length := by rw [hl, hpo.out]
  have hp256 : g.prio.length ≤ 256 := by rw [hpo.out]; exact hle
  have Hlen := Lib.hid hlen
  clear hl hlen
  go_enter Try.func67, Try.ntmps67
  go_wp2_with fail
  generalize (w.alloc (.cells #[o, n, .slice P g.prio.length pc] 32)).alloc (.cells #[.slice none 0 0, .slice none 0 0, .slice none 0 0] 32) = w0 at *
  obtain ⟨hn0', hbn'⟩ := new_ints w0
  have hn0 : OwnInts (w0.alloc (.cells #[] 2)).drew w0.heap.size (.slice (some ⟨w0.heap.size, 0, none⟩) 0 0) [] := hn0'
  have hbn : Below w0.heap.size w0 (w0.alloc (.cells #[] 2)).drew := ⟨hbn'.os, hbn'.tape, hbn'.output, hbn'.size, hbn'.block⟩
  clear hn0' hbn'
  have hszA : (w0.alloc (.cells #[] 2)).drew.heap.size = w0.heap.size + 1 := by simp
  have HszA := Lib.hid hszA
  clear hszA
  have hbd : Below w0.heap.size w0 w0.drew := ⟨rfl, rfl, rfl, Nat.le_refl _, fun _ _ => rfl⟩
  have hcall := fun W (hW : Below w0.heap.size w0 W) => fixedBy_any _ g.arena _ l W (((ha.kept (Kept.of hbw))).kept (Kept.of hW)) (((hu.kept (Kept.of hbw))).kept (Kept.of hW)) hok.arena Hlen.out
  have Hc := Lib.hid hcall
  have Hp := Lib.hid (fun W (hW : Below w0.heap.size w0 W) => ((hp.kept (Kept.of hbw))).kept (Kept.of hW))
  have HS := Lib.hid (fun W (hW : Below w0.heap.size w0 W) => (show W.cell? ⟨w.heap.size, 0, none⟩ = some o ∧ W.cell? ⟨w.heap.size, 1, none⟩ = some n ∧ W.cell? ⟨w.heap.size, 2, none⟩ = some (.slice P g.prio.length pc) from ⟨(hB.below hW hB.lt).c0, (hB.below hW hB.lt).c1, (hB.below hW hB.lt).c2⟩))
  clear hcall
  go_region_held3 (fun W => W.cell? ⟨w.heap.size, 0, none⟩ = some o ∧ W.cell? ⟨w.heap.size, 1, none⟩ = some n ∧ W.cell? ⟨w.heap.size, 2, none⟩ = some (.slice P g.prio.length pc))
    (first | exact HS.out _ hbd | exact HS.out _ hbn | exact HS.out _ hR5 | exact HS.out _ hR5a | exact HS.out _ hR6 | exact ⟨(((hB6.far (p := ⟨w.heap.size + 1, 0, none⟩) (by simp) _).far (p := ⟨w.heap.size + 1, 1, none⟩) (by simp) _).far (p := ⟨w.heap.size + 1, 2, none⟩) (by simp) _).c0, (((hB6.far (p := ⟨w.heap.size + 1, 0, none⟩) (by simp) _).far (p := ⟨w.heap.size + 1, 1, none⟩) (by simp) _).far (p := ⟨w.heap.size + 1, 2, none⟩) (by simp) _).c1, (((hB6.far (p := ⟨w.heap.size + 1, 0, none⟩) (by simp) _).far (p := ⟨w.heap.size + 1, 1, none⟩) (by simp) _).far (p := ⟨w.heap.size + 1, 2, none⟩) (by simp) _).c2⟩)
    (first | (go_at_call 102; refine (Hc.out w0.drew hbd).mono ?_; rintro e w5 ⟨u5, rfl, hu5, hb5⟩; obtain ⟨F1, f1, F2, f2, hf⟩ := OA.form hu5; subst hf; replace hu5 : OA w5 w0.heap.size w5.heap.size _ _ := hu5; have hR5 : Below w0.heap.size w0 w5 := below_of_drew hb5; have hR5a := hR5.alloc hR5.size (.cells #[] 2); obtain ⟨hn5, hbn5⟩ := new_ints w5; have hbs5 : w5.heap.size ≤ (w5.alloc (.cells #[] 2)).heap.size := by simp) | (go_at_call 102; refine (Hc.out _ hbn).mono ?_; rintro e w5 ⟨u5, rfl, hu5, hb5⟩; obtain ⟨F1, f1, F2, f2, hf⟩ := OA.form hu5; subst hf; rw [HszA.out] at hu5; have hn5 := hn0.below hb5 (Nat.le_refl _); have hR5 := hbn.trans (hb5.mono hbn.size)) | (refine step_append_ints (w5.alloc (.cells #[] 2)) rfl (.tmp 9) (.tmp 11) rfl w5.heap.size (.slice (some ⟨w5.heap.size, 0, none⟩) 0 0) [] rfl hn5 (.slice P g.prio.length pc) g.prio rfl (Hp.out _ hR5a) (by simp; omega) hbs5 ?_; intro v6 w6 ho6 hb6 hg6 hl6; have hR6 := hR5.trans ((hbn5.trans hb6).mono hR5.size); have hu6 := hu5.below (hbn5.trans hb6); have ho6a := ho6.more (B' := w0.heap.size) hR5.size; have hd6 : ∀ b, v6.ownBlock = some b → b < w0.heap.size ∨ w5.heap.size ≤ b := fun b hb => .inr (ho6.lt b hb).1; have hB1 : w0.heap.size ≤ w0.heap.size := Nat.le_refl _; rw [List.nil_append] at ho6; obtain ⟨Q, qc, eq6, _⟩ := ho6.ints.form; subst eq6; have hB6 := hB.below hR6 hB.lt; have hX6 := hR.below hR6 hR.lt; have q0 := hX6.c0; have q1 := hX6.c1; have q2 := hX6.c2; have q3 := hX6.frozen 0; have q4 := hX6.frozen 1; have q5 := hX6.frozen 2) | (refine step_append_ints w5 rfl (.tmp 9) (.tmp 11) rfl w0.heap.size (.slice (some ⟨w0.heap.size, 0, none⟩) 0 0) [] rfl hn5 (.slice P g.prio.length pc) g.prio rfl (Hp.out _ hR5) (by simp; omega) hR5.size ?_; intro v6 w6 ho6 hb6 hg6 hl6; have hR6 := hR5.trans hb6; have hu6 := hu5.kept (Only.grown (B := w0.heap.size) (C := w0.heap.size + 1) hg6 (fun k hk => by simp [Value.ownBlock] at hk; omega)) (.inr (Nat.le_refl _)); have ho6a := ho6; have hd6 : ∀ b, v6.ownBlock = some b → b < w0.heap.size + 1 ∨ w5.heap.size ≤ b := fun b hb => (hl6.elim (fun e => .inl (by rw [e] at hb; have h := Option.some.inj hb; simp at h; omega)) (fun e => .inr (by rw [e] at hb; have h := Option.some.inj hb; omega))); have hB1 : w0.heap.size ≤ w0.heap.size + 1 := Nat.le_succ _; rw [List.nil_append] at ho6; obtain ⟨Q, qc, eq6, _⟩ := ho6.ints.form; subst eq6; have hB6 := hB.below hR6 hB.lt; have hX6 := hR.below hR6 hR.lt; have q0 := hX6.c0; have q1 := hX6.c1; have q2 := hX6.c2; have q3 := hX6.frozen 0; have q4 := hX6.frozen 1; have q5 := hX6.frozen 2))
  all_goals
    clear q0 q1 q2 q3 q4 q5
    have hs6 := hb6.size
    have hs5 := hR5.size
    have hw0 := hbw.size
    have hRl := hR.lt
    have hX7 := ((hX6.set_ 0 (.slice F1 (fixA g.arena l).owner.length f1)).set_ 1 (.slice F2 (fixA g.arena l).next.length f2)).set_ 2 (.slice Q g.prio.length qc)
    have hbw7 : Below w.heap.size w (((w6.setCell ⟨w.heap.size + 1, 0, none⟩ (.slice F1 (fixA g.arena l).owner.length f1)).setCell ⟨w.heap.size + 1, 1, none⟩ (.slice F2 (fixA g.arena l).next.length f2)).setCell ⟨w.heap.size + 1, 2, none⟩ (.slice Q g.prio.length qc)) := (((Below.up hbw hR6).setCell (by simp) _).setCell (by simp) _).setCell (by simp) _
    have hcb : ∀ b, w0.heap.size ≤ b → (((w6.setCell ⟨w.heap.size + 1, 0, none⟩ (.slice F1 (fixA g.arena l).owner.length f1)).setCell ⟨w.heap.size + 1, 1, none⟩ (.slice F2 (fixA g.arena l).next.length f2)).setCell ⟨w.heap.size + 1, 2, none⟩ (.slice Q g.prio.length qc)).heap[b]? = w6.heap[b]? := fun b hb => by
      rw [Below.heap_setCell _ _ _ _ (by simp; omega), Below.heap_setCell _ _ _ _ (by simp; omega), Below.heap_setCell _ _ _ _ (by simp; omega)]
    have hsz : (((w6.setCell ⟨w.heap.size + 1, 0, none⟩ (.slice F1 (fixA g.arena l).owner.length f1)).setCell ⟨w.heap.size + 1, 1, none⟩ (.slice F2 (fixA g.arena l).next.length f2)).setCell ⟨w.heap.size + 1, 2, none⟩ (.slice Q g.prio.length qc)).heap.size = w6.heap.size := by simp
    generalize ((w6.setCell ⟨w.heap.size + 1, 0, none⟩ (.slice F1 (fixA g.arena l).owner.length f1)).setCell ⟨w.heap.size + 1, 1, none⟩ (.slice F2 (fixA g.arena l).next.length f2)).setCell ⟨w.heap.size + 1, 2, none⟩ (.slice Q g.prio.length qc) = w7 at *
    have q0 := hX7.c0
    have q1 := hX7.c1
    have q2 := hX7.c2
    have hop : OP w6 w0.heap.size w6.heap.size (.agg #[.slice F1 (fixA g.arena l).owner.length f1, .slice F2 (fixA g.arena l).next.length f2, .slice Q g.prio.length qc]) (onlyP g l) :=
      OP.join' (g := onlyP g l) hu6 ⟨ho6a, fun b hb => (ho6a.lt b hb).2⟩ hd6 hB1 (by omega)
    go_wp2
    refine bodyPost_ret (v := .agg #[.slice F1 (fixA g.arena l).owner.length f1, .slice F2 (fixA g.arena l).next.length f2, .slice Q g.prio.length qc]) (by simp [results, Try.results67, go_sem, q0, q1, q2]) rfl ?_
    exact .mk' ((hop.heapFrom hcb).mono (by omega) (by omega)) hbw7

end Go.Proofs.Ytmkmghjmfaoobaa
