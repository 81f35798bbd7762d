/- The walks of Flipped, of the program and of the reference. -/
import Derived.Test.YtpnophmanpfejaaTurnedWalks
import Derived.Test.YtpnophmanpfejaaReachWalks
import Derived.Test.YtpnophmanpfejaaPkB
import Derived.Test.YtpnophmanpfejaaOnlyWalks
namespace Go.Proofs.Ytpnophmanpfejaa
set_option linter.unusedSimpArgs false
set_option linter.unusedVariables false
open Go.RowKit

theorem parity_boxR' {w : World} {v : Value} {g : ParityD} (hv : IsParity w v g) : ∃ o n p, v = .agg #[o, n, p] ∧ Below w.heap.size w ((w.alloc (.cells #[o, n, p] 32)).alloc (.cells #[.slice none 0 0, .slice none 0 0, .slice none 0 0] 32)) ∧
    Arr ((w.alloc (.cells #[o, n, p] 32)).alloc (.cells #[.slice none 0 0, .slice none 0 0, .slice none 0 0] 32)) w.heap.size 32 [o, n, p] ∧ Arr ((w.alloc (.cells #[o, n, p] 32)).alloc (.cells #[.slice none 0 0, .slice none 0 0, .slice none 0 0] 32)) (w.heap.size + 1) 32 [.slice none 0 0, .slice none 0 0, .slice none 0 0] := by
  obtain ⟨o, n, p, rfl, hbw, hB⟩ := parity_box hv
  refine ⟨o, n, p, rfl, hbw.alloc hbw.size _, hB.alloc _, ?_⟩
  simpa using Arr.new (w.alloc (.cells #[o, n, p] 32)) 32 [.slice none 0 0, .slice none 0 0, .slice none 0 0]
theorem RowsV.under' {w w' : World} {B C : Nat} {v : Value} {vs : List Value} {ll : List (List Int)} (h : RowsV w B C v vs ll) (hb : Below C w w') : RowsV w' B C v vs ll :=
  h.heap (fun b hbb => hb.block b (h.lt b hbb)) (fun k hk b hbb => hb.block b ((h.row k hk).2 b hbb))
theorem OA.under' {w w' : World} {B C : Nat} {v : Value} {a : ArenaD} (h : OA w B C v a) (hb : Below C w w') : OA w' B C v a := by
  obtain ⟨o, n, vs, rfl, h1, h2, h3⟩ := h
  exact ⟨o, n, vs, rfl, h1.heap fun b hbb => hb.block b (h1.2 b hbb), h2.under' hb, h3⟩
theorem OwnInts.heap' {w w' : World} {B : Nat} {v : Value} {l : List Int} (h : OwnInts w B v l) (hh : ∀ b, v.ownBlock = some b → w'.heap[b]? = w.heap[b]?) : OwnInts w' B v l := ((OI.of h).heap hh).1
def RetPar (w : World) (g : ParityD) (e : Ending) (w' : World) : Prop := ∃ u, e = .returned u ∧ OP w' w.heap.size w'.heap.size u g ∧ Below w.heap.size w w'
theorem RetPar.mk' {w w' : World} {g : ParityD} {u : Value} (h1 : OP w' w.heap.size w'.heap.size u g) (h2 : Below w.heap.size w w') : RetPar w g (.returned u) w' := ⟨u, rfl, h1, h2⟩

def moreL (l : List Int) : List Int := l.map (· + 1)
theorem moreL_take {l : List Int} {k : Nat} (hk : k < l.length) : moreL (l.take (k + 1)) = moreL (l.take k) ++ [ix l k + 1] := by unfold moreL; rw [take_ix hk, List.map_append]; rfl
@[simp] theorem length_moreL (l : List Int) : (moreL l).length = l.length := by simp [moreL]
def flipP (g : ParityD) : ParityD := ⟨turnA g.arena, moreL g.prio⟩

set_option maxRecDepth 100000 in
set_option maxHeartbeats 8000000 in
theorem flipped_any (v : Value) (g : ParityD) (w : World) (hv : IsParity w v g) (hok : ParityOk g) :
    Calls Try.prog 82 #[v] w (RetPar w (flipP g)) := by
  obtain ⟨o, n, p, rfl, hbw, hB, hR⟩ := parity_boxR' hv
  obtain ⟨hva, hp⟩ := hv.parts
  obtain ⟨PS, pc, rfl, hpc, hpm⟩ := hp.form
  have hws := hbw.size
  have hR2 := hR.lt
  have hle := hok.arena.le
  have hpl := hok.len
  have hl1 : (turnA g.arena).owner.length = g.prio.length := by unfold turnA; rw [arenaOkB_iff.2 hok.arena]; simp [hok.len]
  have hl2 : (turnA g.arena).next.length = g.prio.length := by unfold turnA; rw [arenaOkB_iff.2 hok.arena]; simp [hok.len, hok.arena.len]
  have hple : g.prio.length ≤ 256 := by omega
  have Hpr := Lib.hid hok.prio
  clear hpl hok hle
  go_enter Try.func82, Try.ntmps82
  have hBz := hB.lt
  have hBc0 := hB.c0
  have hBc1 := hB.c1
  have hBc2 := hB.c2
  have hRz := hR.lt
  have hRc0 := hR.c0
  have hRc1 := hR.c1
  have hRc2 := hR.c2
  go_wp2_with fail
  refine (Turned_any _ g.arena _ (hva.kept (Kept.of hbw))).mono ?_
  rintro e w4 ⟨u4, rfl, hu4, hb4⟩
  obtain ⟨F1, f1, F2, f2, hf⟩ := OA.form hu4
  rw [hl1, hl2] at hf
  subst hf
  clear hl1 hl2
  clear hBc0 hBc1 hBc2 hRc0 hRc1 hRc2 hBz hRz
  replace hB := hB.below hb4 hB.lt
  replace hR := hR.below hb4 hR.lt
  replace hbw := Below.up hbw hb4
  have hb4s := hb4.size
  clear hb4
  have hBz := hB.lt
  have hBc0 := hB.c0
  have hBc1 := hB.c1
  have hBc2 := hB.c2
  have hRz := hR.lt
  have hRc0 := hR.c0
  have hRc1 := hR.c1
  have hRc2 := hR.c2
  have hws4 := hbw.size
  go_wp2
  have hX0 := Arr.new w4 32 [.slice F1 g.prio.length f1, .slice F2 g.prio.length f2, .slice none 0 0]
  have hbn := (Below.refl w4.heap.size w4).alloc (Nat.le_refl _) (.cells #[.slice F1 g.prio.length f1, .slice F2 g.prio.length f2, .slice none 0 0] 32)
  have hBX := hB.lt
  have hRX := hR.lt
  have hown0 := OwnInts.nil (w4.alloc (.cells #[.slice F1 g.prio.length f1, .slice F2 g.prio.length f2, .slice none 0 0] 32)) (w4.heap.size + 1)
  clear hBc0 hBc1 hBc2 hRc0 hRc1 hRc2 hBz hRz
  obtain ⟨X, hX⟩ : ∃ X, w4.heap.size = X := ⟨_, rfl⟩
  have hMX : w.heap.size + 2 ≤ X := by omega
  rw [hX] at hX0 hbn hBX hRX hown0 hws4 ⊢
  have hu6 := hu4.mono (Nat.le_refl _) (show w4.heap.size ≤ X by omega)
  have hb44 : Below X w4 w4 := Below.refl _ _
  generalize w4.alloc (.cells #[.slice F1 g.prio.length f1, .slice F2 g.prio.length f2, .slice none 0 0] 32) = w7 at *
  clear hX hu4
  have Hall := Lib.hid (show moreL (g.prio.take g.prio.length) = moreL g.prio by rw [List.take_length])
  have hM0 : w.heap.size ≤ ((w.alloc (.cells #[o, n, .slice PS g.prio.length pc] 32)).alloc (.cells #[.slice none 0 0, .slice none 0 0, .slice none 0 0] 32)).heap.size := hws
  have hM1 : ((w.alloc (.cells #[o, n, .slice PS g.prio.length pc] 32)).alloc (.cells #[.slice none 0 0, .slice none 0 0, .slice none 0 0] 32)).heap.size = w.heap.size + 2 := by simp
  rw [hM1] at hu6
  clear hM0 hM1
  go_loopw [13] (fun i wx => ∃ (k : Nat) (pv : Value), k ≤ g.prio.length ∧ i = .int .i64 k ∧ Arr wx X 32 [.slice F1 g.prio.length f1, .slice F2 g.prio.length f2, pv] ∧ OwnInts wx (X + 1) pv (moreL (g.prio.take k)) ∧ Below X w4 wx) (fun i _ => g.prio.length - (intOf i).toNat)
  case atStart => exact ⟨0, _, Nat.zero_le _, rfl, hX0, hown0, hbn⟩
  case round =>
    obtain ⟨k, pv, hk, rfl, hX1, hown, hbX⟩ := hrel
    have hBo := hB.below hbX hBX
    have hRo := hR.below hbX hRX
    have hbwr : Below w.heap.size w wr := hbw.trans (hbX.mono hws4)
    have hwX : X < wr.heap.size := hX1.lt
    by_cases hlt : k < g.prio.length
    · obtain ⟨a3, ea, hc3⟩ := (hp.kept (Kept.of hbwr)).at_ hlt
      subst ea
      have hlt' : (k : Int) < g.prio.length := by omega
      have Hs1 := Lib.hid (moreL_take hlt)
      obtain ⟨hx0, hx1⟩ := Hpr.out k hlt
      have hl1 : Hid ((moreL (g.prio.take k)).length = k) := Lib.hid (by rw [length_moreL, List.length_take]; omega)
      generalize moreL (g.prio.take k) = l1 at *
      have q0 := hX1.c2
      have q1 := hBo.c2
      have hovb := hown.lt
      go_wp2_with (at_builtin; refine append_int _ rfl (.tmp 18) (.tmp 21) rfl (X + 1) pv l1 rfl hown (ix g.prio k + 1) rfl (by rw [hl1.out]; omega) hwX ?_; intro v7 w8 ho7 hb7 hg7 hd7; obtain ⟨O7, c7, e7, _⟩ := ho7.ints.form; rw [List.length_append, List.length_singleton, hl1.out] at e7; subst e7; have hX7 : Arr w8 X 32 [.slice F1 g.prio.length f1, .slice F2 g.prio.length f2, pv] := Arr.kept' hX1 hg7 (fun e => by have := (hovb X e.symm).1; omega); have q5 := hX7.c2; have q6 := hX7.frozen 2)
      have hX8 := hX7.set_ 2 (.slice O7 (k + 1) c7)
      have ho8 : OwnInts (w8.setCell ⟨X, 2, none⟩ (.slice O7 (k + 1) c7)) (X + 1) (.slice O7 (k + 1) c7) _ := OwnInts.heap' ho7 fun b hb => Below.heap_setCell _ _ _ _ (by simp; have := (ho7.lt b hb).1; omega)
      have hb8 : Below X w4 (w8.setCell ⟨X, 2, none⟩ (.slice O7 (k + 1) c7)) := (hbX.grown hg7 (by omega) fun b hb => by have := (hovb b hb).1; omega).setCell (Nat.le_refl _) _
      exact ⟨⟨k + 1, _, by omega, by go_num, hX8, by rw [Hs1.out]; exact ho8, hb8⟩, by simp [intOf]; omega⟩
    · obtain rfl : k = g.prio.length := by omega
      rw [Hall.out] at hown
      obtain ⟨PA, pc2, e1, _⟩ := hown.ints.form
      rw [length_moreL] at e1
      subst e1
      have hua := hu6.under' hbX
      have hopp : OP wr w.heap.size wr.heap.size (.agg #[.slice F1 g.prio.length f1, .slice F2 g.prio.length f2, .slice PA g.prio.length pc2]) (flipP g) := OP.join (M := X) (g := flipP g) (hua.mono (by omega) (Nat.le_refl _)) ((OI.of hown).mono (Nat.le_succ _) (Nat.le_refl _)) (by omega) (Nat.le_of_lt hwX)
      have hXc0 := hX1.c0
      have hXc1 := hX1.c1
      have hXc2 := hX1.c2
      have q0 := hRo.c0
      have q1 := hRo.c1
      have q2 := hRo.c2
      have q3 := hRo.frozen 0
      have q4 := hRo.frozen 1
      have q5 := hRo.frozen 2
      go_wp2
      have hR6 := ((hRo.set_ 0 (.slice F1 g.prio.length f1)).set_ 1 (.slice F2 g.prio.length f2)).set_ 2 (.slice PA g.prio.length pc2)
      have hbw6 : Below w.heap.size w (((wr.setCell ⟨w.heap.size + 1, 0, none⟩ (.slice F1 g.prio.length f1)).setCell ⟨w.heap.size + 1, 1, none⟩ (.slice F2 g.prio.length f2)).setCell ⟨w.heap.size + 1, 2, none⟩ (.slice PA g.prio.length pc2)) := ((hbwr.setCell (by simp) _).setCell (by simp) _).setCell (by simp) _
      have hopp2 : OP wr (w.heap.size + 2) wr.heap.size (.agg #[.slice F1 g.prio.length f1, .slice F2 g.prio.length f2, .slice PA g.prio.length pc2]) (flipP g) := OP.join (M := X) (g := flipP g) (hua.mono (by omega) (Nat.le_refl _)) ((OI.of hown).mono (Nat.le_succ _) (Nat.le_refl _)) (by omega) (Nat.le_of_lt hwX)
      have hcb : ∀ b, w.heap.size + 2 ≤ b → (((wr.setCell ⟨w.heap.size + 1, 0, none⟩ (.slice F1 g.prio.length f1)).setCell ⟨w.heap.size + 1, 1, none⟩ (.slice F2 g.prio.length f2)).setCell ⟨w.heap.size + 1, 2, none⟩ (.slice PA g.prio.length pc2)).heap[b]? = wr.heap[b]? := fun b hb => by
        rw [Below.heap_setCell _ _ _ _ (by simp; omega), Below.heap_setCell _ _ _ _ (by simp; omega), Below.heap_setCell _ _ _ _ (by simp; omega)]
      have hsz : (((wr.setCell ⟨w.heap.size + 1, 0, none⟩ (.slice F1 g.prio.length f1)).setCell ⟨w.heap.size + 1, 1, none⟩ (.slice F2 g.prio.length f2)).setCell ⟨w.heap.size + 1, 2, none⟩ (.slice PA g.prio.length pc2)).heap.size = wr.heap.size := by simp
      have hop6 := hopp2.heapFrom hcb
      generalize ((wr.setCell ⟨w.heap.size + 1, 0, none⟩ (.slice F1 g.prio.length f1)).setCell ⟨w.heap.size + 1, 1, none⟩ (.slice F2 g.prio.length f2)).setCell ⟨w.heap.size + 1, 2, none⟩ (.slice PA g.prio.length pc2) = w6 at *
      have p0 := hR6.c0
      have p1 := hR6.c1
      have p2 := hR6.c2
      refine bodyPost_ret (v := .agg #[.slice F1 g.prio.length f1, .slice F2 g.prio.length f2, .slice PA g.prio.length pc2]) (by simp [results, Try.results82, go_sem, p0, p1, p2]) rfl ?_
      exact .mk' (hop6.mono (by omega) (by omega)) hbw6

def flipOkB (g : ParityD) : Bool := parityOkB g && !hasB g.prio 40
def flipG (g : ParityD) : ParityD := if flipOkB g then flipP g else ⟨⟨[], []⟩, []⟩
set_option maxRecDepth 100000 in
set_option maxHeartbeats 8000000 in
theorem Flipped_any (v : Value) (g : ParityD) (w : World) (hv : IsParity w v g) :
    Calls Try.prog 26 #[v] w (RetParityB w (flipG g) (flipOkB g)) := by
  obtain ⟨o, n, p, rfl, hbw, hB, hR⟩ := parity_boxR' hv
  obtain ⟨hva, hp⟩ := hv.parts
  have hws := hbw.size
  have hR2 := hR.lt
  cases hE : parityOkB g
  · have hres : flipOkB g = false := by unfold flipOkB; rw [hE]; rfl
    have hfix : flipG g = ⟨⟨[], []⟩, []⟩ := by unfold flipG; rw [hres]; rfl
    rw [hfix, hres]; clear hres hfix
    go_enter Try.func26, Try.ntmps26
    have hBz := hB.lt
    have hBc0 := hB.c0
    have hBc1 := hB.c1
    have hBc2 := hB.c2
    have hRz := hR.lt
    have hRc0 := hR.c0
    have hRc1 := hR.c1
    have hRc2 := hR.c2
    go_wp2_with fail
    refine (ParityOk_any _ g _ (hv.kept (Kept.of hbw))).mono ?_
    rintro e w1 ⟨rfl, hb1⟩
    clear hBc0 hBc1 hBc2 hRc0 hRc1 hRc2 hBz hRz
    replace hB := hB.below hb1 hB.lt
    replace hR := hR.below hb1 hR.lt
    replace hbw := Below.up hbw hb1
    have hb1s := hb1.size
    clear hb1
    have hBz := hB.lt
    have hBc0 := hB.c0
    have hBc1 := hB.c1
    have hBc2 := hB.c2
    have hRz := hR.lt
    have hRc0 := hR.c0
    have hRc1 := hR.c1
    have hRc2 := hR.c2
    have q0 := hR.c0
    have q1 := hR.c1
    have q2 := hR.c2
    have q3 := hR.frozen 0
    have q4 := hR.frozen 1
    have q5 := hR.frozen 2
    go_wp2
    have hR6 := ((hR.set_ 0 (.slice none 0 0)).set_ 1 (.slice none 0 0)).set_ 2 (.slice none 0 0)
    have hbw6 : Below w.heap.size w (((w1.setCell ⟨w.heap.size + 1, 0, none⟩ (.slice none 0 0)).setCell ⟨w.heap.size + 1, 1, none⟩ (.slice none 0 0)).setCell ⟨w.heap.size + 1, 2, none⟩ (.slice none 0 0)) := ((hbw.setCell (by simp) _).setCell (by simp) _).setCell (by simp) _
    generalize ((w1.setCell ⟨w.heap.size + 1, 0, none⟩ (.slice none 0 0)).setCell ⟨w.heap.size + 1, 1, none⟩ (.slice none 0 0)).setCell ⟨w.heap.size + 1, 2, none⟩ (.slice none 0 0) = w6 at *
    have p0 := hR6.c0
    have p1 := hR6.c1
    have p2 := hR6.c2
    refine bodyPost_ret (v := .tuple #[.agg #[.slice none 0 0, .slice none 0 0, .slice none 0 0], .bool false]) (by simp [results, Try.results26, go_sem, p0, p1, p2]) rfl ?_
    exact .mk' (OP.none' _ _ _) hbw6
  · cases hE2 : hasB g.prio 40
    · have hres : flipOkB g = true := by unfold flipOkB; rw [hE, hE2]; rfl
      have hfix : flipG g = flipP g := by unfold flipG; rw [hres]; rfl
      rw [hfix, hres]; clear hres hfix
      go_enter Try.func26, Try.ntmps26
      have hBz := hB.lt
      have hBc0 := hB.c0
      have hBc1 := hB.c1
      have hBc2 := hB.c2
      have hRz := hR.lt
      have hRc0 := hR.c0
      have hRc1 := hR.c1
      have hRc2 := hR.c2
      go_wp2_with fail
      refine (ParityOk_any _ g _ (hv.kept (Kept.of hbw))).mono ?_
      rintro e w1 ⟨rfl, hb1⟩
      clear hBc0 hBc1 hBc2 hRc0 hRc1 hRc2 hBz hRz
      replace hB := hB.below hb1 hB.lt
      replace hR := hR.below hb1 hR.lt
      replace hbw := Below.up hbw hb1
      have hb1s := hb1.size
      clear hb1
      have hBz := hB.lt
      have hBc0 := hB.c0
      have hBc1 := hB.c1
      have hBc2 := hB.c2
      have hRz := hR.lt
      have hRc0 := hR.c0
      have hRc1 := hR.c1
      have hRc2 := hR.c2
      go_wp2_with fail
      refine (same_below (Contains_any _ g.prio 40 _ (hp.kept (Kept.of hbw)))).mono ?_
      rintro e w2 ⟨rfl, hb2⟩
      clear hBc0 hBc1 hBc2 hRc0 hRc1 hRc2 hBz hRz
      replace hB := hB.below hb2 hB.lt
      replace hR := hR.below hb2 hR.lt
      replace hbw := Below.up hbw hb2
      have hb2s := hb2.size
      clear hb2
      have hBz := hB.lt
      have hBc0 := hB.c0
      have hBc1 := hB.c1
      have hBc2 := hB.c2
      have hRz := hR.lt
      have hRc0 := hR.c0
      have hRc1 := hR.c1
      have hRc2 := hR.c2
      have hw1 := hbw.size
      have hRw1 := hR.lt
      go_wp2_with fail
      refine (flipped_any _ g _ (hv.kept (Kept.of hbw)) (parityOkB_iff.1 hE)).mono ?_
      rintro e w4 ⟨u4, rfl, hu4, hb4⟩
      obtain ⟨F1, f1, F2, f2, F3, f3, hf⟩ := OP.form hu4
      subst hf
      clear hBc0 hBc1 hBc2 hRc0 hRc1 hRc2 hBz hRz
      replace hB := hB.below hb4 hB.lt
      replace hR := hR.below hb4 hR.lt
      replace hbw := Below.up hbw hb4
      have hb4s := hb4.size
      clear hb4
      have hBz := hB.lt
      have hBc0 := hB.c0
      have hBc1 := hB.c1
      have hBc2 := hB.c2
      have hRz := hR.lt
      have hRc0 := hR.c0
      have hRc1 := hR.c1
      have hRc2 := hR.c2
      have q0 := hR.c0
      have q1 := hR.c1
      have q2 := hR.c2
      have q3 := hR.frozen 0
      have q4 := hR.frozen 1
      have q5 := hR.frozen 2
      generalize (flipP g).arena.owner.length = n1 at *
      generalize (flipP g).arena.next.length = n2 at *
      generalize (flipP g).prio.length = n3 at *
      go_wp2
      have hR6 := ((hR.set_ 0 (.slice F1 n1 f1)).set_ 1 (.slice F2 n2 f2)).set_ 2 (.slice F3 n3 f3)
      have hbw6 : Below w.heap.size w (((w4.setCell ⟨w.heap.size + 1, 0, none⟩ (.slice F1 n1 f1)).setCell ⟨w.heap.size + 1, 1, none⟩ (.slice F2 n2 f2)).setCell ⟨w.heap.size + 1, 2, none⟩ (.slice F3 n3 f3)) := ((hbw.setCell (by simp) _).setCell (by simp) _).setCell (by simp) _
      have hcb : ∀ b, w2.heap.size ≤ b → (((w4.setCell ⟨w.heap.size + 1, 0, none⟩ (.slice F1 n1 f1)).setCell ⟨w.heap.size + 1, 1, none⟩ (.slice F2 n2 f2)).setCell ⟨w.heap.size + 1, 2, none⟩ (.slice F3 n3 f3)).heap[b]? = w4.heap[b]? := fun b hb => by
        rw [Below.heap_setCell _ _ _ _ (by simp; omega), Below.heap_setCell _ _ _ _ (by simp; omega), Below.heap_setCell _ _ _ _ (by simp; omega)]
      have hsz : (((w4.setCell ⟨w.heap.size + 1, 0, none⟩ (.slice F1 n1 f1)).setCell ⟨w.heap.size + 1, 1, none⟩ (.slice F2 n2 f2)).setCell ⟨w.heap.size + 1, 2, none⟩ (.slice F3 n3 f3)).heap.size = w4.heap.size := by simp
      have hop6 := hu4.heapFrom hcb
      generalize ((w4.setCell ⟨w.heap.size + 1, 0, none⟩ (.slice F1 n1 f1)).setCell ⟨w.heap.size + 1, 1, none⟩ (.slice F2 n2 f2)).setCell ⟨w.heap.size + 1, 2, none⟩ (.slice F3 n3 f3) = w6 at *
      have p0 := hR6.c0
      have p1 := hR6.c1
      have p2 := hR6.c2
      refine bodyPost_ret (v := .tuple #[.agg #[.slice F1 n1 f1, .slice F2 n2 f2, .slice F3 n3 f3], .bool true]) (by simp [results, Try.results26, go_sem, p0, p1, p2]) rfl ?_
      exact .mk' (hop6.mono hw1 (by omega)) hbw6
    · have hres : flipOkB g = false := by unfold flipOkB; rw [hE, hE2]; rfl
      have hfix : flipG g = ⟨⟨[], []⟩, []⟩ := by unfold flipG; rw [hres]; rfl
      rw [hfix, hres]; clear hres hfix
      go_enter Try.func26, Try.ntmps26
      have hBz := hB.lt
      have hBc0 := hB.c0
      have hBc1 := hB.c1
      have hBc2 := hB.c2
      have hRz := hR.lt
      have hRc0 := hR.c0
      have hRc1 := hR.c1
      have hRc2 := hR.c2
      go_wp2_with fail
      refine (ParityOk_any _ g _ (hv.kept (Kept.of hbw))).mono ?_
      rintro e w1 ⟨rfl, hb1⟩
      clear hBc0 hBc1 hBc2 hRc0 hRc1 hRc2 hBz hRz
      replace hB := hB.below hb1 hB.lt
      replace hR := hR.below hb1 hR.lt
      replace hbw := Below.up hbw hb1
      have hb1s := hb1.size
      clear hb1
      have hBz := hB.lt
      have hBc0 := hB.c0
      have hBc1 := hB.c1
      have hBc2 := hB.c2
      have hRz := hR.lt
      have hRc0 := hR.c0
      have hRc1 := hR.c1
      have hRc2 := hR.c2
      go_wp2_with fail
      refine (same_below (Contains_any _ g.prio 40 _ (hp.kept (Kept.of hbw)))).mono ?_
      rintro e w2 ⟨rfl, hb2⟩
      clear hBc0 hBc1 hBc2 hRc0 hRc1 hRc2 hBz hRz
      replace hB := hB.below hb2 hB.lt
      replace hR := hR.below hb2 hR.lt
      replace hbw := Below.up hbw hb2
      have hb2s := hb2.size
      clear hb2
      have hBz := hB.lt
      have hBc0 := hB.c0
      have hBc1 := hB.c1
      have hBc2 := hB.c2
      have hRz := hR.lt
      have hRc0 := hR.c0
      have hRc1 := hR.c1
      have hRc2 := hR.c2
      have q0 := hR.c0
      have q1 := hR.c1
      have q2 := hR.c2
      have q3 := hR.frozen 0
      have q4 := hR.frozen 1
      have q5 := hR.frozen 2
      go_wp2
      have hR6 := ((hR.set_ 0 (.slice none 0 0)).set_ 1 (.slice none 0 0)).set_ 2 (.slice none 0 0)
      have hbw6 : Below w.heap.size w (((w2.setCell ⟨w.heap.size + 1, 0, none⟩ (.slice none 0 0)).setCell ⟨w.heap.size + 1, 1, none⟩ (.slice none 0 0)).setCell ⟨w.heap.size + 1, 2, none⟩ (.slice none 0 0)) := ((hbw.setCell (by simp) _).setCell (by simp) _).setCell (by simp) _
      generalize ((w2.setCell ⟨w.heap.size + 1, 0, none⟩ (.slice none 0 0)).setCell ⟨w.heap.size + 1, 1, none⟩ (.slice none 0 0)).setCell ⟨w.heap.size + 1, 2, none⟩ (.slice none 0 0) = w6 at *
      have p0 := hR6.c0
      have p1 := hR6.c1
      have p2 := hR6.c2
      refine bodyPost_ret (v := .tuple #[.agg #[.slice none 0 0, .slice none 0 0, .slice none 0 0], .bool false]) (by simp [results, Try.results26, go_sem, p0, p1, p2]) rfl ?_
      exact .mk' (OP.none' _ _ _) hbw6
end Go.Proofs.Ytpnophmanpfejaa
