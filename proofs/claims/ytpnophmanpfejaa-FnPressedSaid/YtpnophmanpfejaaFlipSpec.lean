/- The walk of the reference's Flipped. -/
import Derived.Test.YtpnophmanpfejaaFlipWalks
import Derived.Deep.RegionHeld3
import Derived.Deep.RegionLaw
import Derived.Test.YtpnophmanpfejaaClass
namespace Go.Proofs.Ytpnophmanpfejaa
set_option linter.unusedSimpArgs false
set_option linter.unusedVariables false
open Go.RowKit

theorem step_append_intK {ops : Array Oper} {o : Oper} {a : Act} {K : Act → World → Prop} {Q : Exit → Act → World → Prop} {F : Prop} (w0 : World) (hgd : o.guard = none) (s x : Operand)
    (ho : o.op = .call { callee := .builtin .append, args := #[s, x], argTypes := #[22, 22] })
    (B : Nat) (v : Value) (l : List Int) (hs : a.eval s = v) (hown : OwnInts w0 B v l) (y : Int)
    (hx : a.eval x = .slice (some ⟨w0.heap.size, 0, none⟩) 1 1) (hn : l.length ≤ 1048576) (hB : B ≤ w0.heap.size)
    (h : ∀ v' w', OwnInts w' B v' (l ++ [y]) → w0.grownBy w' v.ownBlock → (v'.ownBlock = v.ownBlock ∨ v'.ownBlock = some (w0.heap.size + 1)) → K (a.put o.dst v') w') :
    if Region.wanted o (yielded ops a.tmps) = true then Oper.wp Try.prog o a (w0.alloc (.cells #[.int .i64 y] 2)) K Q else F := by
  refine step_append_one elem_int64 w0 hgd s x ho B v l.length _ hs hown (.int .i64 y) rfl hx hn hB fun v' w' h1 h2 h3 => h v' w' ?_ h2 h3
  unfold OwnInts
  rw [List.map_append, List.length_append]
  exact h1
theorem l4All_any (v : Value) (g : ParityD) (w : World) (hv : IsParity w v g) : Calls Try.prog 79 #[v] w (RetInts w (allL g.prio.length)) := by
  obtain ⟨o, n, p, rfl, hbw, hB⟩ := parity_box hv
  obtain ⟨ha, hp⟩ := hv.parts
  obtain ⟨A, c, rfl, hlc, hcm⟩ := hp.form
  go_enter Try.func79, Try.ntmps79
  have hBz := hB.lt
  have hBc0 := hB.c0
  have hBc1 := hB.c1
  have hBc2 := hB.c2
  go_wp2_with fail
  refine (specAllOf_any (g.prio.length : Int) _).mono ?_
  rintro e w4 ⟨u4, rfl, ho4, hb4⟩
  go_wp2
  go_ret
  exact .at_ hbw ho4 hb4
theorem top40 {p : List Int} (hp : ∀ v, v < p.length → 0 ≤ ix p v ∧ ix p v ≤ 40) : (topL p (upFrom 0 p.length) == 40) = hasB p 40 := by
  have h : ∀ k, k ≤ p.length → (topTo p (upFrom 0 p.length) k = 40 ↔ ∃ j, j < k ∧ ix p j = 40) := by
    intro k
    induction k with
    | zero => intro _; simp [topTo_zero]
    | succ k ih =>
      intro hk
      have hb := topTo_bounds hp (l := upFrom 0 p.length) k
      have hx : ix (upFrom 0 p.length) k = (k : Int) := by rw [ix_upFrom (by omega)]; omega
      rw [topTo_succ (by simp; omega), hx, Int.toNat_natCast]
      have h2 := hp k (by omega)
      constructor
      · intro h
        by_cases e : ix p k = 40
        · exact ⟨k, by omega, e⟩
        · have : topTo p (upFrom 0 p.length) k = 40 := by omega
          obtain ⟨j, hj, e2⟩ := (ih (by omega)).1 this
          exact ⟨j, by omega, e2⟩
      · rintro ⟨j, hj, e⟩
        by_cases ej : j = k
        · subst ej; omega
        · have := (ih (by omega)).2 ⟨j, by omega, e⟩
          omega
  have h1 := h p.length (Nat.le_refl _)
  have h2 : topTo p (upFrom 0 p.length) p.length = topL p (upFrom 0 p.length) := by
    have := topTo_all p (upFrom 0 p.length)
    rwa [length_upFrom] at this
  rw [h2] at h1
  rw [Bool.eq_iff_iff, beq_iff_eq, h1, hasB_iff, mem_ix]
theorem below_drwF {B : Nat} {a w : World} (h : Below B a w) : Below B a w.drew := ⟨h.os, h.tape, h.output, h.size, h.block⟩

set_option maxRecDepth 100000 in
set_option maxHeartbeats 8000000 in
theorem specFlipped_any (v : Value) (g : ParityD) (w : World) (hv : IsParity w v g) :
    Calls Try.prog 25 #[v] w (RetParityB w (flipG g) (flipOkB g)) := by
  obtain ⟨o, n, p, rfl, hbw, hB, hR⟩ := parity_boxR' hv
  obtain ⟨hva, hp⟩ := hv.parts
  obtain ⟨PS, pc, rfl, hpc, hpm⟩ := hp.form
  have hws := hbw.size
  have hR2 := hR.lt
  have Hc1 := Lib.hid (fun W (hW : Kept w W) => specParityOk_any _ g W (hv.kept hW))
  have Hc2 := Lib.hid (fun W (hW : Kept w W) => l4All_any _ g W (hv.kept hW))
  cases hE : parityOkB g
  · have hres : flipOkB g = false := by unfold flipOkB; rw [hE]; rfl
    have hfix : flipG g = ⟨⟨[], []⟩, []⟩ := by unfold flipG; rw [hres]; rfl
    rw [hfix, hres]; clear hres hfix
    rw [hE] at Hc1
    have hR0 := below_drwF (Below.refl ((w.alloc (.cells #[o, n, .slice PS g.prio.length pc] 32)).alloc (.cells #[.slice none 0 0, .slice none 0 0, .slice none 0 0] 32)).heap.size ((w.alloc (.cells #[o, n, .slice PS g.prio.length pc] 32)).alloc (.cells #[.slice none 0 0, .slice none 0 0, .slice none 0 0] 32)))
    have HS := Lib.hid (fun W (hW : Below ((w.alloc (.cells #[o, n, .slice PS g.prio.length pc] 32)).alloc (.cells #[.slice none 0 0, .slice none 0 0, .slice none 0 0] 32)).heap.size ((w.alloc (.cells #[o, n, .slice PS g.prio.length pc] 32)).alloc (.cells #[.slice none 0 0, .slice none 0 0, .slice none 0 0] 32)) W) => show W.cell? ⟨w.heap.size, 0, none⟩ = some o ∧ W.cell? ⟨w.heap.size, 1, none⟩ = some n ∧ W.cell? ⟨w.heap.size, 2, none⟩ = some (.slice PS g.prio.length pc) from
      ⟨(hB.below hW hB.lt).c0, (hB.below hW hB.lt).c1, (hB.below hW hB.lt).c2⟩)
    have Hq := Lib.hid (fun x : Cls ((w.alloc (.cells #[o, n, .slice PS g.prio.length pc] 32)).alloc (.cells #[.slice none 0 0, .slice none 0 0, .slice none 0 0] 32)) => Hc1.out x.val (Kept.of (Below.up hbw x.property)))
    go_enter Try.func25, Try.ntmps25
    go_wp2
    have q0 := Cls.cell hB.c0
    have q1 := Cls.cell hB.c1
    have q2 := Cls.cell hB.c2
    refine wp_region_cls (by kernel_rfl) (by kernel_rfl) ?_
    repeat (first | go_big_quiet_step ((go_at_call 65; exact calls_cls (Hq.out _))) | quiet_step ((go_at_call 65; exact calls_cls (Hq.out _))))
    refine wpQuiet_nil ?_
    intro w3 hw'
    replace hw' : Below ((w.alloc (.cells #[o, n, .slice PS g.prio.length pc] 32)).alloc (.cells #[.slice none 0 0, .slice none 0 0, .slice none 0 0] 32)).heap.size ((w.alloc (.cells #[o, n, .slice PS g.prio.length pc] 32)).alloc (.cells #[.slice none 0 0, .slice none 0 0, .slice none 0 0] 32)) w3 := by
      obtain ⟨x, rfl⟩ := hw'
      exact x.property
    have hR3 := hw'
    clear q0 q1 q2
    replace hR := hR.below hR3 hR.lt
    replace hbw := Below.up hbw hR3
    have q0 := hR.c0
    have q1 := hR.c1
    have q2 := hR.c2
    have q3 := hR.frozen 0
    have q4 := hR.frozen 1
    have q5 := hR.frozen 2
    go_wp2
    have hR6 := ((hR.set_ 0 (.slice none 0 0)).set_ 1 (.slice none 0 0)).set_ 2 (.slice none 0 0)
    have hbw6 : Below w.heap.size w (((w3.setCell ⟨w.heap.size + 1, 0, none⟩ (.slice none 0 0)).setCell ⟨w.heap.size + 1, 1, none⟩ (.slice none 0 0)).setCell ⟨w.heap.size + 1, 2, none⟩ (.slice none 0 0)) := ((hbw.setCell (by simp) _).setCell (by simp) _).setCell (by simp) _
    generalize ((w3.setCell ⟨w.heap.size + 1, 0, none⟩ (.slice none 0 0)).setCell ⟨w.heap.size + 1, 1, none⟩ (.slice none 0 0)).setCell ⟨w.heap.size + 1, 2, none⟩ (.slice none 0 0) = w6 at *
    have p0 := hR6.c0
    have p1 := hR6.c1
    have p2 := hR6.c2
    refine bodyPost_ret (v := .tuple #[.agg #[.slice none 0 0, .slice none 0 0, .slice none 0 0], .bool false]) (by simp [results, Try.results25, go_sem, p0, p1, p2]) rfl ?_
    exact .mk' (OP.none' _ _ _) hbw6
  · rw [hE] at Hc1
    have hok := parityOkB_iff.1 hE
    have hple : g.prio.length ≤ 256 := by rw [hok.len]; exact hok.arena.le
    have hall : allL g.prio.length = upFrom 0 g.prio.length := allL_nat (by omega)
    rw [hall] at Hc2
    have ht40 := top40 hok.prio
    have Hc3 := Lib.hid (fun W u (hW : Kept w W) (hu : Ints W u (upFrom 0 g.prio.length)) => l4Top_any _ g u _ W (hv.kept hW) hu (fun k hk => by rw [length_upFrom] at hk; exact ⟨k, by rw [ix_upFrom hk]; omega, hk⟩))
    have HS := Lib.hid (fun W (hW : Below ((w.alloc (.cells #[o, n, .slice PS g.prio.length pc] 32)).alloc (.cells #[.slice none 0 0, .slice none 0 0, .slice none 0 0] 32)).heap.size ((w.alloc (.cells #[o, n, .slice PS g.prio.length pc] 32)).alloc (.cells #[.slice none 0 0, .slice none 0 0, .slice none 0 0] 32)) W) => show W.cell? ⟨w.heap.size, 0, none⟩ = some o ∧ W.cell? ⟨w.heap.size, 1, none⟩ = some n ∧ W.cell? ⟨w.heap.size, 2, none⟩ = some (.slice PS g.prio.length pc) from
      ⟨(hB.below hW hB.lt).c0, (hB.below hW hB.lt).c1, (hB.below hW hB.lt).c2⟩)
    have hR0 := below_drwF (Below.refl ((w.alloc (.cells #[o, n, .slice PS g.prio.length pc] 32)).alloc (.cells #[.slice none 0 0, .slice none 0 0, .slice none 0 0] 32)).heap.size ((w.alloc (.cells #[o, n, .slice PS g.prio.length pc] 32)).alloc (.cells #[.slice none 0 0, .slice none 0 0, .slice none 0 0] 32)))
    generalize htop : topL g.prio (upFrom 0 g.prio.length) = top at *
    go_enter Try.func25, Try.ntmps25
    go_wp2
    go_region_held3 (fun W => W.cell? ⟨w.heap.size, 0, none⟩ = some o ∧ W.cell? ⟨w.heap.size, 1, none⟩ = some n ∧ W.cell? ⟨w.heap.size, 2, none⟩ = some (.slice PS g.prio.length pc))
      (first | exact HS.out _ hR0 | exact HS.out _ hR3 | exact HS.out _ hR4 | exact HS.out _ hR5)
      (first | (go_at_call 65; refine (Hc1.out _ (Kept.of (Below.up hbw hR0))).mono ?_; rintro e w3 ⟨rfl, hb3⟩; have hR3 := Below.up hR0 hb3) | (go_at_call 79; refine (Hc2.out _ (Kept.of (Below.up hbw hR3))).mono ?_; rintro e w4 ⟨v4, rfl, ho4, hb4⟩; have hR4 := Below.up hR3 hb4) | (go_at_call 78; refine (Hc3.out _ _ (Kept.of (Below.up hbw hR4)) ho4.ints).mono ?_; rintro e w5 ⟨rfl, hb5⟩; have hR5 := Below.up hR4 hb5))
    all_goals
      have hsz5 : w.heap.size + 2 ≤ w5.heap.size := by have := hR5.size; simp at this; omega
      replace hB := hB.below hR5 hB.lt
      replace hR := hR.below hR5 hR.lt
      replace hbw := Below.up hbw hR5
      clear HS hR0 hR3 hR4 hR5 Hc1 Hc2 Hc3 hws hR2
      have hl1 : (turnA g.arena).owner.length = g.prio.length := by unfold turnA; rw [arenaOkB_iff.2 hok.arena]; simp [hok.len]
      have hl2 : (turnA g.arena).next.length = g.prio.length := by unfold turnA; rw [arenaOkB_iff.2 hok.arena]; simp [hok.len, hok.arena.len]
      have Hpr := Lib.hid hok.prio
      cases hE2 : hasB g.prio 40
      · have hres : flipOkB g = true := by unfold flipOkB; rw [hE, hE2]; rfl
        have hfix : flipG g = flipP g := by unfold flipG; rw [hres]; rfl
        have Hfix := Lib.hid hfix
        have Hres := Lib.hid hres
        clear hres hfix hok hE hE2
        have hBc0 := hB.c0
        have hBc1 := hB.c1
        have hBc2 := hB.c2
        go_wp2_with fail
        refine (specTurned_any _ g.arena _ (hva.kept (Kept.of hbw))).mono ?_
        rintro e w6x ⟨u4, rfl, hu4, hb4⟩
        obtain ⟨F1, f1, F2, f2, hf⟩ := OA.form hu4
        rw [hl1, hl2] at hf
        subst hf
        clear hl1 hl2
        replace hB := hB.below hb4 hB.lt
        replace hR := hR.below hb4 hR.lt
        replace hbw := Below.up hbw hb4
        have hb4s := hb4.size
        clear hb4 hBc0 hBc1 hBc2
        have hBc0 := hB.c0
        have hBc1 := hB.c1
        have hBc2 := hB.c2
        have hws4 := hbw.size
        go_wp2
        have hX0 := Arr.new w6x 32 [.slice F1 g.prio.length f1, .slice F2 g.prio.length f2, .slice none 0 0]
        have hbn := (Below.refl w6x.heap.size w6x).alloc (Nat.le_refl _) (.cells #[.slice F1 g.prio.length f1, .slice F2 g.prio.length f2, .slice none 0 0] 32)
        have hBX := hB.lt
        have hRX := hR.lt
        have hown0 := OwnInts.nil (w6x.alloc (.cells #[.slice F1 g.prio.length f1, .slice F2 g.prio.length f2, .slice none 0 0] 32)) (w6x.heap.size + 1)
        clear hBc0 hBc1 hBc2
        obtain ⟨X, hX⟩ : ∃ X, w6x.heap.size = X := ⟨_, rfl⟩
        have hMX : w.heap.size + 2 ≤ X := by omega
        rw [hX] at hX0 hbn hBX hRX hown0 hws4 ⊢
        have hu6 := hu4.mono (show w.heap.size + 2 ≤ w5.heap.size by omega) (show w6x.heap.size ≤ X by omega)
        have hb44 : Below X w6x w6x := Below.refl _ _
        generalize w6x.alloc (.cells #[.slice F1 g.prio.length f1, .slice F2 g.prio.length f2, .slice none 0 0] 32) = w7 at *
        clear hu4
        have hX' := Lib.hid hX
        clear hX
        have Hall := Lib.hid (show moreL (g.prio.take g.prio.length) = moreL g.prio by rw [List.take_length])
        go_loopw [5] (fun i wx => ∃ (k : Nat) (pv : Value), k ≤ g.prio.length ∧ i = .int .i64 k ∧ Arr wx X 32 [.slice F1 g.prio.length f1, .slice F2 g.prio.length f2, pv] ∧ OwnInts wx (X + 1) pv (moreL (g.prio.take k)) ∧ Below X w6x wx) (fun i _ => g.prio.length - (intOf i).toNat)
        case atStart => exact ⟨0, _, Nat.zero_le _, rfl, hX0, hown0, hbn⟩
        case round =>
          obtain ⟨k, pv, hk, rfl, hX1, hown, hbX⟩ := hrel
          have hBo := hB.below hbX hBX
          have hRo := hR.below hbX hRX
          have hbwr : Below w.heap.size w wr := hbw.trans (hbX.mono hws4)
          have hwX : X < wr.heap.size := hX1.lt
          by_cases hlt : k < g.prio.length
          · obtain ⟨a3, ea, hc3⟩ := (hp.kept (Kept.of hbwr)).at_ hlt
            subst ea
            have hlt' : (k : Int) < g.prio.length := by omega
            have Hs1 := Lib.hid (moreL_take hlt)
            obtain ⟨hx0, hx1⟩ := Hpr.out k hlt
            have hl1 : Hid ((moreL (g.prio.take k)).length = k) := Lib.hid (by rw [length_moreL, List.length_take]; omega)
            generalize moreL (g.prio.take k) = l1 at *
            have q0 := hX1.c2
            have q1 := hBo.c2
            have hovb := hown.lt
            have hovd : OwnInts wr.drew (X + 1) pv l1 := hown
            have hwrap : IntKind.i64.wrap (ix g.prio k + 1) = ix g.prio k + 1 := by rw [IntKind.wrap_i64]; omega
            have q3 := (hX1.alloc (.cells #[.int .i64 (ix g.prio k + 1)] 2)).c2
            go_wp2_with fail
            go_region_law (first | (refine step_append_intK wr.drew rfl (.tmp 29) (.tmp 36) rfl (X + 1) pv l1 rfl hovd (ix g.prio k + 1) rfl (by rw [hl1.out]; omega) hwX ?_; intro v7 w8 ho7 hg7 hd7; obtain ⟨O7, c7, e7, _⟩ := ho7.ints.form; rw [List.length_append, List.length_singleton, hl1.out] at e7; subst e7; have hX7 : Arr w8 X 32 [.slice F1 g.prio.length f1, .slice F2 g.prio.length f2, pv] := Arr.kept' (w := wr.drew) hX1 hg7 (fun e => by have := (hovb _ e.symm).1; omega); have q5 := hX7.c2; have q6 := hX7.frozen 2))
            all_goals
              clear q0 q1 q3 q5 q6 hwrap
              replace hg7 : wr.grownBy w8 pv.ownBlock := ⟨hg7.os, hg7.tape, hg7.output, hg7.size, hg7.block⟩
              have hX8 := hX7.set_ 2 (.slice O7 (k + 1) c7)
              have ho8 : OwnInts (w8.setCell ⟨X, 2, none⟩ (.slice O7 (k + 1) c7)) (X + 1) (.slice O7 (k + 1) c7) _ := OwnInts.heap' ho7 fun b hb => Below.heap_setCell _ _ _ _ (by simp; have := (ho7.lt b hb).1; omega)
              have hb8 : Below X w6x (w8.setCell ⟨X, 2, none⟩ (.slice O7 (k + 1) c7)) := (hbX.grown hg7 (by omega) fun b hb => by have := (hovb b hb).1; omega).setCell (Nat.le_refl _) _
              go_wp2
              exact ⟨⟨k + 1, _, by omega, by go_num, hX8, by rw [Hs1.out]; exact ho8, hb8⟩, by simp [intOf]; omega⟩
          · obtain rfl : k = g.prio.length := by omega
            rw [Hall.out] at hown
            obtain ⟨PA, pc2, e1, _⟩ := hown.ints.form
            rw [length_moreL] at e1
            subst e1
            have hua := hu6.under' hbX
            have hopp : OP wr w.heap.size wr.heap.size (.agg #[.slice F1 g.prio.length f1, .slice F2 g.prio.length f2, .slice PA g.prio.length pc2]) (flipP g) := OP.join (M := X) (g := flipP g) (hua.mono (by omega) (Nat.le_refl _)) ((OI.of hown).mono (Nat.le_succ _) (Nat.le_refl _)) (by omega) (Nat.le_of_lt hwX)
            have qB := hBo.c2
            have hXc0 := hX1.c0
            have hXc1 := hX1.c1
            have hXc2 := hX1.c2
            have q0 := hRo.c0
            have q1 := hRo.c1
            have q2 := hRo.c2
            have q3 := hRo.frozen 0
            have q4 := hRo.frozen 1
            have q5 := hRo.frozen 2
            go_wp2
            have hR6 := ((hRo.set_ 0 (.slice F1 g.prio.length f1)).set_ 1 (.slice F2 g.prio.length f2)).set_ 2 (.slice PA g.prio.length pc2)
            have hbw6 : Below w.heap.size w (((wr.setCell ⟨w.heap.size + 1, 0, none⟩ (.slice F1 g.prio.length f1)).setCell ⟨w.heap.size + 1, 1, none⟩ (.slice F2 g.prio.length f2)).setCell ⟨w.heap.size + 1, 2, none⟩ (.slice PA g.prio.length pc2)) := ((hbwr.setCell (by simp) _).setCell (by simp) _).setCell (by simp) _
            have hopp2 : OP wr (w.heap.size + 2) wr.heap.size (.agg #[.slice F1 g.prio.length f1, .slice F2 g.prio.length f2, .slice PA g.prio.length pc2]) (flipP g) := OP.join (M := X) (g := flipP g) (hua.mono (by omega) (Nat.le_refl _)) ((OI.of hown).mono (Nat.le_succ _) (Nat.le_refl _)) (by omega) (Nat.le_of_lt hwX)
            have hcb : ∀ b, w.heap.size + 2 ≤ b → (((wr.setCell ⟨w.heap.size + 1, 0, none⟩ (.slice F1 g.prio.length f1)).setCell ⟨w.heap.size + 1, 1, none⟩ (.slice F2 g.prio.length f2)).setCell ⟨w.heap.size + 1, 2, none⟩ (.slice PA g.prio.length pc2)).heap[b]? = wr.heap[b]? := fun b hb => by
              rw [Below.heap_setCell _ _ _ _ (by simp; omega), Below.heap_setCell _ _ _ _ (by simp; omega), Below.heap_setCell _ _ _ _ (by simp; omega)]
            have hsz : (((wr.setCell ⟨w.heap.size + 1, 0, none⟩ (.slice F1 g.prio.length f1)).setCell ⟨w.heap.size + 1, 1, none⟩ (.slice F2 g.prio.length f2)).setCell ⟨w.heap.size + 1, 2, none⟩ (.slice PA g.prio.length pc2)).heap.size = wr.heap.size := by simp
            have hop6 := hopp2.heapFrom hcb
            generalize ((wr.setCell ⟨w.heap.size + 1, 0, none⟩ (.slice F1 g.prio.length f1)).setCell ⟨w.heap.size + 1, 1, none⟩ (.slice F2 g.prio.length f2)).setCell ⟨w.heap.size + 1, 2, none⟩ (.slice PA g.prio.length pc2) = w6 at *
            have p0 := hR6.c0
            have p1 := hR6.c1
            have p2 := hR6.c2
            refine bodyPost_ret (v := .tuple #[.agg #[.slice F1 g.prio.length f1, .slice F2 g.prio.length f2, .slice PA g.prio.length pc2], .bool true]) (by simp [results, Try.results25, go_sem, p0, p1, p2]) rfl ?_
            rw [Hfix.out, Hres.out]
            exact .mk' (hop6.mono (by omega) (by omega)) hbw6
      · have hres : flipOkB g = false := by unfold flipOkB; rw [hE, hE2]; rfl
        have hfix : flipG g = ⟨⟨[], []⟩, []⟩ := by unfold flipG; rw [hres]; rfl
        have Hfix := Lib.hid hfix
        have Hres := Lib.hid hres
        clear hres hfix
        have q0 := hR.c0
        have q1 := hR.c1
        have q2 := hR.c2
        have q3 := hR.frozen 0
        have q4 := hR.frozen 1
        have q5 := hR.frozen 2
        go_wp2
        have hR6 := ((hR.set_ 0 (.slice none 0 0)).set_ 1 (.slice none 0 0)).set_ 2 (.slice none 0 0)
        have hbw6 : Below w.heap.size w (((w5.setCell ⟨w.heap.size + 1, 0, none⟩ (.slice none 0 0)).setCell ⟨w.heap.size + 1, 1, none⟩ (.slice none 0 0)).setCell ⟨w.heap.size + 1, 2, none⟩ (.slice none 0 0)) := ((hbw.setCell (by simp) _).setCell (by simp) _).setCell (by simp) _
        generalize ((w5.setCell ⟨w.heap.size + 1, 0, none⟩ (.slice none 0 0)).setCell ⟨w.heap.size + 1, 1, none⟩ (.slice none 0 0)).setCell ⟨w.heap.size + 1, 2, none⟩ (.slice none 0 0) = w6 at *
        have p0 := hR6.c0
        have p1 := hR6.c1
        have p2 := hR6.c2
        refine bodyPost_ret (v := .tuple #[.agg #[.slice none 0 0, .slice none 0 0, .slice none 0 0], .bool false]) (by simp [results, Try.results25, go_sem, p0, p1, p2]) rfl ?_
        rw [Hfix.out, Hres.out]
        exact .mk' (OP.none' _ _ _) hbw6

theorem flipG_bulk (g : ParityD) (h : bulkP g ≤ 1048576) : bulkP (flipG g) ≤ 1048576 := by
  unfold flipG
  split
  · have h1 : bulkA g.arena ≤ 1048576 := by unfold bulkP at h; omega
    unfold bulkP flipP at *
    simp only [length_moreL]
    unfold turnA
    split
    · simpa [bulkA] using h
    · simp [bulkA, sizeR]; omega
  · simp [bulkP, bulkA, sizeR]
end Go.Proofs.Ytpnophmanpfejaa
