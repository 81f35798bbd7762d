/- The walks of l6Draw and DrawWinsBy: a game, a player, a region and a plan. Printed by gen_draw6.py. -/
import Derived.Test.YtogfpalgnjlfcaaDrawPlan
import Derived.Test.YtogfpalgnjlfcaaRankWalks5
import Derived.Test.YtogfpalgnjlfcaaBadWalks3
import Derived.Test.YtogfpalgnjlfcaaPkG
namespace Go.Proofs.Ytogfpalgnjlfcaa
set_option linter.unusedSimpArgs false
set_option linter.unusedVariables false
open Go.RowKit
theorem set_upFromD (n : Nat) : IsSet (upFrom 0 n) n := fun k hk => by
  rw [length_upFrom] at hk
  rw [ix_upFrom hk]
  refine ⟨by omega, by omega, fun h => ?_⟩
  rw [ix_upFrom (by omega)]; omega
theorem OP.chgP {w w' : World} {B M C : Nat} {v : Value} {g : ParityD} (h : OP w B M v g) (hc : Chg (fun b => b = C) w w') (hC : C < B) : OP w' B M v g := by
  obtain ⟨o, n, p, vs, rfl, h1, h2, h3, h4, h5, h6⟩ := h
  exact ⟨o, n, p, vs, rfl, h1.chg hc fun b hb e => by have := (h1.1.lt b hb).1; omega, h2.chg hc (fun b hb e => by have := (h2.own.lt b hb).1; omega) (fun j hj b hb e => by have := ((h2.row j hj).1.lt b hb).1; omega), h3.chg hc fun b hb e => by have := (h3.1.lt b hb).1; omega, h4, h5, h6⟩
theorem OP.oaP {w : World} {B M : Nat} {o nx p : Value} {g : ParityD} (h : OP w B M (.agg #[o, nx, p]) g) : OA w B M (.agg #[o, nx]) g.arena ∧ OI w B M p g.prio := by
  obtain ⟨o', n', p', vs, he, h1, h2, h3, h4, h5, h6⟩ := h
  simp only [Value.agg.injEq, Array.mk.injEq, List.cons.injEq, and_true] at he
  obtain ⟨rfl, rfl, rfl⟩ := he
  exact ⟨⟨o, nx, vs, rfl, h1, h2, h4⟩, h3⟩
theorem badG_set {g : ParityD} {who : Int} {s plan : List Int} {n : Nat} (hs : IsSet s n) : IsSet (badG g who s plan) n := by
  unfold badG
  split
  · exact isSet_of (hs.pw.filter _) fun x hx => hs.rng x (List.mem_filter.1 hx).1
  · intro k hk; simp at hk
set_option maxRecDepth 100000 in
set_option maxHeartbeats 16000000 in
theorem l6Draw_any (C : Nat) (v : Value) (n : Nat) (w : World) (hc : Cur w C v n) :
    Calls Try.prog 70 #[.pointer (some ⟨C, 0, none⟩)] w fun e w' => ∃ ug who ur up, e = .returned (.tuple #[ug, .int .i64 who, ur, up]) ∧ ∃ g r pl, OP w' w.heap.size w'.heap.size ug g ∧ (who = 0 ∨ who = 1) ∧ OwnInts w' w.heap.size ur r ∧ OwnInts w' w.heap.size up pl ∧ Drawn w w' C v n := by
  have hR := Arr.new w 32 [.slice none 0 0, .slice none 0 0, .slice none 0 0]
  have hbn := (Below.refl w.heap.size w).alloc (Nat.le_refl _) (.cells #[.slice none 0 0, .slice none 0 0, .slice none 0 0] 32)
  have hCl := hc.lt
  have hR0l : w.heap.size + 1 ≤ (w.alloc (.cells #[.slice none 0 0, .slice none 0 0, .slice none 0 0] 32)).heap.size := by simp
  obtain ⟨R, hRe⟩ : ∃ R, w.heap.size = R := ⟨_, rfl⟩
  go_enter Try.func70, Try.ntmps70
  go_wp2_with fail
  rw [hRe] at hR hR0l hCl
  have hd := Drawn.below (.refl hc) hbn
  generalize w.alloc (.cells #[.slice none 0 0, .slice none 0 0, .slice none 0 0] 32) = w0 at *
  refine (l4DrawAny_any C v n _ hd.1).mono ?_
  rintro e w1 ⟨ug, g, rfl, hop, hbig, hp1, hp9, hdd⟩
  replace hd := hd.trans hdd
  replace hR := Eq.trans (hdd.2.block R (Arr.lt hR) (by omega)) hR
  replace hop := hop.mono hR0l (Nat.le_refl _)
  obtain ⟨A, ac, A', ac', P, pc, rfl⟩ := hop.form
  have hX := Arr.new w1 32 [.slice A g.arena.owner.length ac, .slice A' g.arena.next.length ac', .slice P g.prio.length pc]
  have hbe := (Below.refl w1.heap.size w1).alloc (Nat.le_refl _) (.cells #[.slice A g.arena.owner.length ac, .slice A' g.arena.next.length ac', .slice P g.prio.length pc] 32)
  have hs1 := hdd.2.size
  replace hR := Arr.below hR hbe (Arr.lt hR)
  replace hop := hop.below hbe
  replace hd := hd.below hbe
  obtain ⟨X, hXe⟩ : ∃ X, w1.heap.size = X := ⟨_, rfl⟩
  have hRX : R < X := by omega
  have hCR : C < R := hCl
  clear hbe hdd hbn
  go_wp2_with fail
  rw [hXe] at hX hop
  clear hXe
  generalize w1.alloc (.cells #[.slice A g.arena.owner.length ac, .slice A' g.arena.next.length ac', .slice P g.prio.length pc] 32) = w2 at *
  refine (l1Below_any C v n 2 _ hd.1).mono ?_
  rintro e w3 ⟨who, rfl, hw0, _, hw1, hdd⟩
  have hw2 := hw1 (by omega)
  have hwho : who = 0 ∨ who = 1 := by omega
  clear hw0 hw1 hw2
  replace hd := hd.trans hdd
  replace hX := Eq.trans (hdd.2.block X (Arr.lt hX) (by omega)) hX
  replace hR := Eq.trans (hdd.2.block R (Arr.lt hR) (by omega)) hR
  replace hop := hop.chgP hdd.2 (by omega)
  clear hdd
  have q0 := Arr.c0 hX
  have q1 := Arr.c1 hX
  have hcd : Cur w3.drew C v n := hd.1.drew
  go_wp2_with fail
  go_region_law (first | (go_simp; go_at_call 92; refine (l1Once_any C v n 5 _ hcd).mono ?_; rintro e w4 ⟨b1, rfl, hdd⟩; have hdq : Drawn w3 w4 C v n := hdd.undrew; have hX4 : Arr w4 X 32 [.slice A g.arena.owner.length ac, .slice A' g.arena.next.length ac', .slice P g.prio.length pc] := Eq.trans (hdq.2.block X (Arr.lt hX) (by omega)) hX; have q2 := hX4.c0; have q3 := hX4.c1; have hop4 := hop.chgP hdq.2 (by omega); have hX4l := hX4.lt; have hc4 := hdq.1) | (go_simp; go_at_call 101; refine (l5DrawPlan_any C v n _ g.arena who _ (R + 1) X _ hc4 hop4.oaP.1 (by omega) (by omega) hbig).mono ?_; rintro e w5 ⟨up, pl, rfl, hpx, hd5⟩))
  all_goals
    have hdd := hdq.trans hd5
    have hpl : OwnInts w5 (X + 1) up pl := hpx.more (by omega)
    clear q0 q1 q2 q3 hX4 hop4 hc4 hcd hd5 hdq hpx hX4l
    replace hd := hd.trans hdd
    replace hX := Eq.trans (hdd.2.block X (Arr.lt hX) (by omega)) hX
    replace hR := Eq.trans (hdd.2.block R (Arr.lt hR) (by omega)) hR
    replace hop := hop.chgP hdd.2 (by omega)
    clear hdd
    have q2 := Arr.c2 hX
    go_wp2_with fail
    refine (l1DrawSet_any C v n g.prio.length _ hd.1 (by omega)).mono ?_
    rintro e w6 ⟨ur, r, rfl, hrx, hrl, _, hdd⟩
    have hrr : OwnInts w6 (X + 1) ur r := hrx.more (by have := Arr.lt hX; omega)
    clear q2
    replace hd := hd.trans hdd
    replace hX := Eq.trans (hdd.2.block X (Arr.lt hX) (by omega)) hX
    replace hR := Eq.trans (hdd.2.block R (Arr.lt hR) (by omega)) hR
    replace hop := hop.chgP hdd.2 (by omega)
    replace hpl := hpl.drawn hdd (by omega)
    clear hdd
    have q0 := Arr.c0 hX
    have q1 := Arr.c1 hX
    have q2 := Arr.c2 hX
    go_wp2_with fail
    refine (specParityOk_any _ g _ hop.parity).mono ?_
    rintro e w7 ⟨rfl, hbe⟩
    clear q0 q1 q2 hrx
    replace hd := hd.below hbe
    replace hX := Arr.below hX hbe (Arr.lt hX)
    replace hR := Arr.below hR hbe (Arr.lt hR)
    replace hop := hop.below hbe
    replace hpl := hpl.below hbe (Nat.le_refl _)
    replace hrr := hrr.below hbe (Nat.le_refl _)
    clear hbe
    cases hE : parityOkB g
    · skip
      have p0 := Arr.c0 hX
      have p1 := Arr.c1 hX
      have p2 := Arr.c2 hX
      have p3 := Arr.c0 hR
      have p4 := Arr.c1 hR
      have p5 := Arr.c2 hR
      have p6 := Arr.frozen hR 0
      have p7 := Arr.frozen hR 1
      have p8 := Arr.frozen hR 2
      have hRl := Arr.lt hR
      have hXl := Arr.lt hX
      go_wp2
      have hR9 := ((Arr.set_ hR 0 (.slice A g.arena.owner.length ac)).set_ 1 (.slice A' g.arena.next.length ac')).set_ 2 (.slice P g.prio.length pc)
      have hd9 := ((hd.setCell hc (p := ⟨R, 0, none⟩) (by show w.heap.size ≤ R; omega) (.slice A g.arena.owner.length ac)).setCell hc (p := ⟨R, 1, none⟩) (by show w.heap.size ≤ R; omega) (.slice A' g.arena.next.length ac')).setCell hc (p := ⟨R, 2, none⟩) (by show w.heap.size ≤ R; omega) (.slice P g.prio.length pc)
      have hcb : ∀ b, R + 1 ≤ b → (((w7.setCell ⟨R, 0, none⟩ (.slice A g.arena.owner.length ac)).setCell ⟨R, 1, none⟩ (.slice A' g.arena.next.length ac')).setCell ⟨R, 2, none⟩ (.slice P g.prio.length pc)).heap[b]? = w7.heap[b]? := fun b hb => by
        rw [Below.heap_setCell _ _ _ _ (by simp; omega), Below.heap_setCell _ _ _ _ (by simp; omega), Below.heap_setCell _ _ _ _ (by simp; omega)]
      have hsz : (((w7.setCell ⟨R, 0, none⟩ (.slice A g.arena.owner.length ac)).setCell ⟨R, 1, none⟩ (.slice A' g.arena.next.length ac')).setCell ⟨R, 2, none⟩ (.slice P g.prio.length pc)).heap.size = w7.heap.size := by simp
      have hop9 := hop.heapFrom (fun b hb => hcb b (by omega))
      have hr9 := (hrr.heap (fun b hb => hcb b (by have := (hrr.lt b hb).1; omega)))
      have hp9 := (hpl.heap (fun b hb => hcb b (by have := (hpl.lt b hb).1; omega)))
      generalize ((w7.setCell ⟨R, 0, none⟩ (.slice A g.arena.owner.length ac)).setCell ⟨R, 1, none⟩ (.slice A' g.arena.next.length ac')).setCell ⟨R, 2, none⟩ (.slice P g.prio.length pc) = wZ at *
      have y0 := hR9.c0
      have y1 := hR9.c1
      have y2 := hR9.c2
      refine bodyPost_ret (v := .tuple #[.agg #[.slice A g.arena.owner.length ac, .slice A' g.arena.next.length ac', .slice P g.prio.length pc], .int .i64 who, ur, up]) (by simp [results, Try.results70, go_sem, y0, y1, y2]) rfl ?_
      first | exact ⟨_, _, _, _, rfl, g, r, pl, hop9.mono (by omega) (by omega), hwho, hr9.more (by omega), hp9.more (by omega), hd9⟩ | exact ⟨_, _, _, _, g, r, pl, rfl, hop9.mono (by omega) (by omega), hwho, hr9.more (by omega), hp9.more (by omega), hd9⟩
    · have hok := parityOkB_iff.1 hE
      have hle := hok.arena.le
      go_wp2_with fail
      refine (l1Once_any C v n 4 _ hd.1).mono ?_
      rintro e w8 ⟨b2, rfl, hdd⟩
      replace hd := hd.trans hdd
      replace hX := Eq.trans (hdd.2.block X (Arr.lt hX) (by omega)) hX
      replace hR := Eq.trans (hdd.2.block R (Arr.lt hR) (by omega)) hR
      replace hop := hop.chgP hdd.2 (by omega)
      replace hpl := hpl.drawn hdd (by omega)
      replace hrr := hrr.drawn hdd (by omega)
      clear hdd
      cases b2
      · skip
        have q0 := Arr.c0 hX
        have q1 := Arr.c1 hX
        have q2 := Arr.c2 hX
        clear hrr
        go_wp2_with fail
        clear q0 q1 q2
        refine (l4All_any _ g _ hop.parity).mono ?_
        rintro e w9 ⟨ur2, rfl, hr2, hbe⟩
        rw [allL_nat (m := g.prio.length) (by rw [hok.len]; exact hle)] at hr2
        have hrr : OwnInts w9 (X + 1) ur2 (upFrom 0 g.prio.length) := hr2.more (by have := Arr.lt hX; omega)
        have Hset := Lib.hid (show IsSet (upFrom 0 g.prio.length) g.arena.owner.length from by
          have h := set_upFromD g.prio.length
          rw [hok.len] at h ⊢
          exact h)
        have Hul := Lib.hid (show (upFrom 0 g.prio.length).length ≤ 1099511627776 from by rw [length_upFrom, hok.len]; omega)
        clear hr2
        obtain ⟨r2, hr2e⟩ : ∃ r2, upFrom 0 g.prio.length = r2 := ⟨_, rfl⟩
        rw [hr2e] at hrr Hset Hul
        clear hr2e
        replace hd := hd.below hbe
        replace hX := Arr.below hX hbe (Arr.lt hX)
        replace hR := Arr.below hR hbe (Arr.lt hR)
        replace hop := hop.below hbe
        replace hpl := hpl.below hbe (Nat.le_refl _)
        clear hbe
        have q0 := Arr.c0 hX
        have q1 := Arr.c1 hX
        go_wp2_with fail
        clear q0 q1
        refine (specPlanOk_any _ g.arena who _ pl _ hop.oaP.1.arena hpl.ints).mono ?_
        rintro e wa ⟨rfl, hbe⟩
        replace hd := hd.below hbe
        replace hX := Arr.below hX hbe (Arr.lt hX)
        replace hR := Arr.below hR hbe (Arr.lt hR)
        replace hop := hop.below hbe
        replace hpl := hpl.below hbe (Nat.le_refl _)
        replace hrr := hrr.below hbe (Nat.le_refl _)
        clear hbe
        cases hK : planOkB g.arena who pl
        · skip
          have p0 := Arr.c0 hX
          have p1 := Arr.c1 hX
          have p2 := Arr.c2 hX
          have p3 := Arr.c0 hR
          have p4 := Arr.c1 hR
          have p5 := Arr.c2 hR
          have p6 := Arr.frozen hR 0
          have p7 := Arr.frozen hR 1
          have p8 := Arr.frozen hR 2
          have hRl := Arr.lt hR
          have hXl := Arr.lt hX
          go_wp2
          have hR9 := ((Arr.set_ hR 0 (.slice A g.arena.owner.length ac)).set_ 1 (.slice A' g.arena.next.length ac')).set_ 2 (.slice P g.prio.length pc)
          have hd9 := ((hd.setCell hc (p := ⟨R, 0, none⟩) (by show w.heap.size ≤ R; omega) (.slice A g.arena.owner.length ac)).setCell hc (p := ⟨R, 1, none⟩) (by show w.heap.size ≤ R; omega) (.slice A' g.arena.next.length ac')).setCell hc (p := ⟨R, 2, none⟩) (by show w.heap.size ≤ R; omega) (.slice P g.prio.length pc)
          have hcb : ∀ b, R + 1 ≤ b → (((wa.setCell ⟨R, 0, none⟩ (.slice A g.arena.owner.length ac)).setCell ⟨R, 1, none⟩ (.slice A' g.arena.next.length ac')).setCell ⟨R, 2, none⟩ (.slice P g.prio.length pc)).heap[b]? = wa.heap[b]? := fun b hb => by
            rw [Below.heap_setCell _ _ _ _ (by simp; omega), Below.heap_setCell _ _ _ _ (by simp; omega), Below.heap_setCell _ _ _ _ (by simp; omega)]
          have hsz : (((wa.setCell ⟨R, 0, none⟩ (.slice A g.arena.owner.length ac)).setCell ⟨R, 1, none⟩ (.slice A' g.arena.next.length ac')).setCell ⟨R, 2, none⟩ (.slice P g.prio.length pc)).heap.size = wa.heap.size := by simp
          have hop9 := hop.heapFrom (fun b hb => hcb b (by omega))
          have hr9 := (hrr.heap (fun b hb => hcb b (by have := (hrr.lt b hb).1; omega)))
          have hp9 := (hpl.heap (fun b hb => hcb b (by have := (hpl.lt b hb).1; omega)))
          generalize ((wa.setCell ⟨R, 0, none⟩ (.slice A g.arena.owner.length ac)).setCell ⟨R, 1, none⟩ (.slice A' g.arena.next.length ac')).setCell ⟨R, 2, none⟩ (.slice P g.prio.length pc) = wZ at *
          have y0 := hR9.c0
          have y1 := hR9.c1
          have y2 := hR9.c2
          refine bodyPost_ret (v := .tuple #[.agg #[.slice A g.arena.owner.length ac, .slice A' g.arena.next.length ac', .slice P g.prio.length pc], .int .i64 who, ur2, up]) (by simp [results, Try.results70, go_sem, y0, y1, y2]) rfl ?_
          first | exact ⟨_, _, _, _, rfl, g, r2, pl, hop9.mono (by omega) (by omega), hwho, hr9.more (by omega), hp9.more (by omega), hd9⟩ | exact ⟨_, _, _, _, g, r2, pl, rfl, hop9.mono (by omega) (by omega), hwho, hr9.more (by omega), hp9.more (by omega), hd9⟩
        · have Hplan := Lib.hid (show PlanOk g.arena who pl from by
            unfold planOkB at hK
            simp only [Bool.and_eq_true] at hK
            exact planB_iff.1 hK.2.2)
          have HfG : Hid (fixG g.arena who pl = fixA g.arena pl) := Lib.hid (by unfold fixG; rw [hK]; rfl)
          have HK := Lib.hid hK
          clear hK
          go_wp2_with fail
          refine (l1Once_any C v n 3 _ hd.1).mono ?_
          rintro e wb ⟨b3, rfl, hdd⟩
          replace hd := hd.trans hdd
          replace hX := Eq.trans (hdd.2.block X (Arr.lt hX) (by omega)) hX
          replace hR := Eq.trans (hdd.2.block R (Arr.lt hR) (by omega)) hR
          replace hop := hop.chgP hdd.2 (by omega)
          replace hpl := hpl.drawn hdd (by omega)
          replace hrr := hrr.drawn hdd (by omega)
          clear hdd
          cases b3
          · skip
            have q0 := Arr.c0 hX
            have q1 := Arr.c1 hX
            go_wp2_with fail
            clear q0 q1
            have HcF := Lib.hid (specFixedBy_any _ g.arena who _ pl _ hop.oaP.1.arena hpl.ints)
            rw [HfG.out, HK.out] at HcF
            refine HcF.out.mono ?_
            rintro e wc ⟨uf, rfl, hfa, hbe⟩
            clear HcF
            replace hd := hd.below hbe
            replace hX := Arr.below hX hbe (Arr.lt hX)
            replace hR := Arr.below hR hbe (Arr.lt hR)
            replace hop := hop.below hbe
            replace hpl := hpl.below hbe (Nat.le_refl _)
            replace hrr := hrr.below hbe (Nat.le_refl _)
            clear hbe
            have Hfok := Lib.hid (fixA_ok hok.arena Hplan.out)
            have Hfs : Hid (IsSet r2 (fixA g.arena pl).owner.length) := Lib.hid Hset.out
            have Hbs : Hid (IsSet (badG g who r2 pl) (fixA g.arena pl).owner.length) := Lib.hid (badG_set Hset.out)
            obtain ⟨F, hFe⟩ : ∃ F, fixA g.arena pl = F := ⟨_, rfl⟩
            rw [hFe] at hfa Hfok Hfs Hbs
            clear hFe
            obtain ⟨FA, fc, FB, fd, rfl⟩ := hfa.form
            have hfi := hfa.arena
            have hZ := Arr.new wc 30 [.slice FA F.owner.length fc, .slice FB F.next.length fd]
            have hbe := (Below.refl wc.heap.size wc).alloc (Nat.le_refl _) (.cells #[.slice FA F.owner.length fc, .slice FB F.next.length fd] 30)
            replace hd := hd.below hbe
            replace hX := Arr.below hX hbe (Arr.lt hX)
            replace hR := Arr.below hR hbe (Arr.lt hR)
            replace hop := hop.below hbe
            replace hpl := hpl.below hbe (Nat.le_refl _)
            replace hrr := hrr.below hbe (Nat.le_refl _)
            replace hfi := hfi.kept (Kept.of hbe)
            clear hbe hfa
            obtain ⟨Z, hZe⟩ : ∃ Z, wc.heap.size = Z := ⟨_, rfl⟩
            go_wp2_with fail
            rw [hZe] at hZ
            clear hZe
            generalize wc.alloc (.cells #[.slice FA F.owner.length fc, .slice FB F.next.length fd] 30) = wd at *
            have hR0 : Below wd.heap.size wd wd.drew := ⟨rfl, rfl, rfl, Nat.le_refl _, fun _ _ => rfl⟩
            have HSS := Lib.hid (fun W (hW : Below wd.heap.size wd W) => (show W.cell? ⟨X, 0, none⟩ = some (.slice A g.arena.owner.length ac) ∧ W.cell? ⟨X, 1, none⟩ = some (.slice A' g.arena.next.length ac') ∧ W.cell? ⟨X, 2, none⟩ = some (.slice P g.prio.length pc) ∧ W.cell? ⟨Z, 0, none⟩ = some (.slice FA F.owner.length fc) ∧ W.cell? ⟨Z, 1, none⟩ = some (.slice FB F.next.length fd) from ⟨(Arr.below hX hW (Arr.lt hX)).c0, (Arr.below hX hW (Arr.lt hX)).c1, (Arr.below hX hW (Arr.lt hX)).c2, (hZ.below hW hZ.lt).c0, (hZ.below hW hZ.lt).c1⟩))
            have hwa : 0 ≤ who := by omega
            have hwb : who ≤ 1 := by omega
            obtain ⟨ow, how⟩ : ∃ ow : Int, 1 - who = ow := ⟨_, rfl⟩
            have how1 : 0 ≤ ow := by omega
            have how2 : ow ≤ 1 := by omega
            have hwr : IntKind.i64.wrap ow = ow := by rw [IntKind.wrap_i64]; omega
            have Hc1 := Lib.hid (fun W (hW : Below wd.heap.size wd W) => specBadLoops_any _ g who _ r2 _ pl W (hop.parity.kept (Kept.of hW)) (hrr.ints.kept (Kept.of hW)) (hpl.ints.kept (Kept.of hW)))
            have Hc2 := Lib.hid (fun W u (hW : Below wd.heap.size wd W) (hu : Ints W u (badG g who r2 pl)) => l3Attract_any _ F ow _ r2 u (badG g who r2 pl) W (hfi.kept (Kept.of hW)) (hrr.ints.kept (Kept.of hW)) hu Hfok.out Hfs.out Hbs.out)
            obtain ⟨x0, x1, x2, x3, x4⟩ := HSS.out wd (Below.refl _ _)
            go_region_law (first | (go_simp; go_at_call 37; refine (Hc1.out _ hR0).mono ?_; rintro e we ⟨ub, rfl, hub, hb6⟩; have hR1 := Below.up hR0 hb6; obtain ⟨y0, y1, y2, y3, y4⟩ := HSS.out _ hR1) | (go_simp; go_at_call 62; refine (Hc2.out _ _ hR1 hub.ints).mono ?_; rintro e wf ⟨ut, rfl, hut, hb7⟩; have hR2 := Below.up hR1 hb7))
            all_goals
              have hbe := hR2
              clear HSS Hc1 Hc2 hZ x0 x1 x2 x3 x4 y0 y1 y2 y3 y4
              replace hd := hd.below hbe
              replace hX := Arr.below hX hbe (Arr.lt hX)
              replace hR := Arr.below hR hbe (Arr.lt hR)
              replace hop := hop.below hbe
              replace hpl := hpl.below hbe (Nat.le_refl _)
              replace hrr := hrr.below hbe (Nat.le_refl _)
              clear hbe
              obtain ⟨q, hqe⟩ : ∃ q, attrL F ow r2 (badG g who r2 pl) = q := ⟨_, rfl⟩
              rw [hqe] at hut
              clear hqe
              go_wp2_with fail
              refine (specLessOf_any _ _ r2 q _ hrr.ints hut.ints Hul.out).mono ?_
              rintro e wg ⟨ur3, rfl, hr3, hbe⟩
              have hr3' : OwnInts wg (X + 1) ur3 (LessOf r2 q) := hr3.more (by have := Arr.lt hX; omega)
              replace hd := hd.below hbe
              replace hX := Arr.below hX hbe (Arr.lt hX)
              replace hR := Arr.below hR hbe (Arr.lt hR)
              replace hop := hop.below hbe
              replace hpl := hpl.below hbe (Nat.le_refl _)
              clear hbe hr3 hrr
              obtain ⟨r3, hr3e⟩ : ∃ r3, LessOf r2 q = r3 := ⟨_, rfl⟩
              rw [hr3e] at hr3'
              clear hr3e
              have p0 := Arr.c0 hX
              have p1 := Arr.c1 hX
              have p2 := Arr.c2 hX
              have p3 := Arr.c0 hR
              have p4 := Arr.c1 hR
              have p5 := Arr.c2 hR
              have p6 := Arr.frozen hR 0
              have p7 := Arr.frozen hR 1
              have p8 := Arr.frozen hR 2
              have hRl := Arr.lt hR
              have hXl := Arr.lt hX
              go_wp2
              have hR9 := ((Arr.set_ hR 0 (.slice A g.arena.owner.length ac)).set_ 1 (.slice A' g.arena.next.length ac')).set_ 2 (.slice P g.prio.length pc)
              have hd9 := ((hd.setCell hc (p := ⟨R, 0, none⟩) (by show w.heap.size ≤ R; omega) (.slice A g.arena.owner.length ac)).setCell hc (p := ⟨R, 1, none⟩) (by show w.heap.size ≤ R; omega) (.slice A' g.arena.next.length ac')).setCell hc (p := ⟨R, 2, none⟩) (by show w.heap.size ≤ R; omega) (.slice P g.prio.length pc)
              have hcb : ∀ b, R + 1 ≤ b → (((wg.setCell ⟨R, 0, none⟩ (.slice A g.arena.owner.length ac)).setCell ⟨R, 1, none⟩ (.slice A' g.arena.next.length ac')).setCell ⟨R, 2, none⟩ (.slice P g.prio.length pc)).heap[b]? = wg.heap[b]? := fun b hb => by
                rw [Below.heap_setCell _ _ _ _ (by simp; omega), Below.heap_setCell _ _ _ _ (by simp; omega), Below.heap_setCell _ _ _ _ (by simp; omega)]
              have hsz : (((wg.setCell ⟨R, 0, none⟩ (.slice A g.arena.owner.length ac)).setCell ⟨R, 1, none⟩ (.slice A' g.arena.next.length ac')).setCell ⟨R, 2, none⟩ (.slice P g.prio.length pc)).heap.size = wg.heap.size := by simp
              have hop9 := hop.heapFrom (fun b hb => hcb b (by omega))
              have hr9 := (hr3'.heap (fun b hb => hcb b (by have := (hr3'.lt b hb).1; omega)))
              have hp9 := (hpl.heap (fun b hb => hcb b (by have := (hpl.lt b hb).1; omega)))
              generalize ((wg.setCell ⟨R, 0, none⟩ (.slice A g.arena.owner.length ac)).setCell ⟨R, 1, none⟩ (.slice A' g.arena.next.length ac')).setCell ⟨R, 2, none⟩ (.slice P g.prio.length pc) = wZ at *
              have y0 := hR9.c0
              have y1 := hR9.c1
              have y2 := hR9.c2
              refine bodyPost_ret (v := .tuple #[.agg #[.slice A g.arena.owner.length ac, .slice A' g.arena.next.length ac', .slice P g.prio.length pc], .int .i64 who, ur3, up]) (by simp [results, Try.results70, go_sem, y0, y1, y2]) rfl ?_
              first | exact ⟨_, _, _, _, rfl, g, r3, pl, hop9.mono (by omega) (by omega), hwho, hr9.more (by omega), hp9.more (by omega), hd9⟩ | exact ⟨_, _, _, _, g, r3, pl, rfl, hop9.mono (by omega) (by omega), hwho, hr9.more (by omega), hp9.more (by omega), hd9⟩
          · skip
            have p0 := Arr.c0 hX
            have p1 := Arr.c1 hX
            have p2 := Arr.c2 hX
            have p3 := Arr.c0 hR
            have p4 := Arr.c1 hR
            have p5 := Arr.c2 hR
            have p6 := Arr.frozen hR 0
            have p7 := Arr.frozen hR 1
            have p8 := Arr.frozen hR 2
            have hRl := Arr.lt hR
            have hXl := Arr.lt hX
            go_wp2
            have hR9 := ((Arr.set_ hR 0 (.slice A g.arena.owner.length ac)).set_ 1 (.slice A' g.arena.next.length ac')).set_ 2 (.slice P g.prio.length pc)
            have hd9 := ((hd.setCell hc (p := ⟨R, 0, none⟩) (by show w.heap.size ≤ R; omega) (.slice A g.arena.owner.length ac)).setCell hc (p := ⟨R, 1, none⟩) (by show w.heap.size ≤ R; omega) (.slice A' g.arena.next.length ac')).setCell hc (p := ⟨R, 2, none⟩) (by show w.heap.size ≤ R; omega) (.slice P g.prio.length pc)
            have hcb : ∀ b, R + 1 ≤ b → (((wb.setCell ⟨R, 0, none⟩ (.slice A g.arena.owner.length ac)).setCell ⟨R, 1, none⟩ (.slice A' g.arena.next.length ac')).setCell ⟨R, 2, none⟩ (.slice P g.prio.length pc)).heap[b]? = wb.heap[b]? := fun b hb => by
              rw [Below.heap_setCell _ _ _ _ (by simp; omega), Below.heap_setCell _ _ _ _ (by simp; omega), Below.heap_setCell _ _ _ _ (by simp; omega)]
            have hsz : (((wb.setCell ⟨R, 0, none⟩ (.slice A g.arena.owner.length ac)).setCell ⟨R, 1, none⟩ (.slice A' g.arena.next.length ac')).setCell ⟨R, 2, none⟩ (.slice P g.prio.length pc)).heap.size = wb.heap.size := by simp
            have hop9 := hop.heapFrom (fun b hb => hcb b (by omega))
            have hr9 := (hrr.heap (fun b hb => hcb b (by have := (hrr.lt b hb).1; omega)))
            have hp9 := (hpl.heap (fun b hb => hcb b (by have := (hpl.lt b hb).1; omega)))
            generalize ((wb.setCell ⟨R, 0, none⟩ (.slice A g.arena.owner.length ac)).setCell ⟨R, 1, none⟩ (.slice A' g.arena.next.length ac')).setCell ⟨R, 2, none⟩ (.slice P g.prio.length pc) = wZ at *
            have y0 := hR9.c0
            have y1 := hR9.c1
            have y2 := hR9.c2
            refine bodyPost_ret (v := .tuple #[.agg #[.slice A g.arena.owner.length ac, .slice A' g.arena.next.length ac', .slice P g.prio.length pc], .int .i64 who, ur2, up]) (by simp [results, Try.results70, go_sem, y0, y1, y2]) rfl ?_
            first | exact ⟨_, _, _, _, rfl, g, r2, pl, hop9.mono (by omega) (by omega), hwho, hr9.more (by omega), hp9.more (by omega), hd9⟩ | exact ⟨_, _, _, _, g, r2, pl, rfl, hop9.mono (by omega) (by omega), hwho, hr9.more (by omega), hp9.more (by omega), hd9⟩
      · skip
        have p0 := Arr.c0 hX
        have p1 := Arr.c1 hX
        have p2 := Arr.c2 hX
        have p3 := Arr.c0 hR
        have p4 := Arr.c1 hR
        have p5 := Arr.c2 hR
        have p6 := Arr.frozen hR 0
        have p7 := Arr.frozen hR 1
        have p8 := Arr.frozen hR 2
        have hRl := Arr.lt hR
        have hXl := Arr.lt hX
        go_wp2
        have hR9 := ((Arr.set_ hR 0 (.slice A g.arena.owner.length ac)).set_ 1 (.slice A' g.arena.next.length ac')).set_ 2 (.slice P g.prio.length pc)
        have hd9 := ((hd.setCell hc (p := ⟨R, 0, none⟩) (by show w.heap.size ≤ R; omega) (.slice A g.arena.owner.length ac)).setCell hc (p := ⟨R, 1, none⟩) (by show w.heap.size ≤ R; omega) (.slice A' g.arena.next.length ac')).setCell hc (p := ⟨R, 2, none⟩) (by show w.heap.size ≤ R; omega) (.slice P g.prio.length pc)
        have hcb : ∀ b, R + 1 ≤ b → (((w8.setCell ⟨R, 0, none⟩ (.slice A g.arena.owner.length ac)).setCell ⟨R, 1, none⟩ (.slice A' g.arena.next.length ac')).setCell ⟨R, 2, none⟩ (.slice P g.prio.length pc)).heap[b]? = w8.heap[b]? := fun b hb => by
          rw [Below.heap_setCell _ _ _ _ (by simp; omega), Below.heap_setCell _ _ _ _ (by simp; omega), Below.heap_setCell _ _ _ _ (by simp; omega)]
        have hsz : (((w8.setCell ⟨R, 0, none⟩ (.slice A g.arena.owner.length ac)).setCell ⟨R, 1, none⟩ (.slice A' g.arena.next.length ac')).setCell ⟨R, 2, none⟩ (.slice P g.prio.length pc)).heap.size = w8.heap.size := by simp
        have hop9 := hop.heapFrom (fun b hb => hcb b (by omega))
        have hr9 := (hrr.heap (fun b hb => hcb b (by have := (hrr.lt b hb).1; omega)))
        have hp9 := (hpl.heap (fun b hb => hcb b (by have := (hpl.lt b hb).1; omega)))
        generalize ((w8.setCell ⟨R, 0, none⟩ (.slice A g.arena.owner.length ac)).setCell ⟨R, 1, none⟩ (.slice A' g.arena.next.length ac')).setCell ⟨R, 2, none⟩ (.slice P g.prio.length pc) = wZ at *
        have y0 := hR9.c0
        have y1 := hR9.c1
        have y2 := hR9.c2
        refine bodyPost_ret (v := .tuple #[.agg #[.slice A g.arena.owner.length ac, .slice A' g.arena.next.length ac', .slice P g.prio.length pc], .int .i64 who, ur, up]) (by simp [results, Try.results70, go_sem, y0, y1, y2]) rfl ?_
        first | exact ⟨_, _, _, _, rfl, g, r, pl, hop9.mono (by omega) (by omega), hwho, hr9.more (by omega), hp9.more (by omega), hd9⟩ | exact ⟨_, _, _, _, g, r, pl, rfl, hop9.mono (by omega) (by omega), hwho, hr9.more (by omega), hp9.more (by omega), hd9⟩
set_option maxRecDepth 100000 in
set_option maxHeartbeats 8000000 in
theorem DrawWinsBy_any (v : Value) (n : Nat) (w : World) (hb : Bytes w v n) (hn : n ≤ 4096) :
    Calls Try.prog 33 #[v] w fun e w' => ∃ ug who ur up, e = .returned (.tuple #[ug, .int .i64 who, ur, up]) ∧ ∃ g r pl, OP w' w.heap.size w'.heap.size ug g ∧ (who = 0 ∨ who = 1) ∧ OwnInts w' w.heap.size ur r ∧ OwnInts w' w.heap.size up pl ∧ Below w.heap.size w w' := by
  obtain ⟨BA, bc, rfl, hbl, hbm⟩ := hb.form
  have hR0 := Arr.new w 32 [.slice none 0 0, .slice none 0 0, .slice none 0 0]
  have hbn := (Below.refl w.heap.size w).alloc (Nat.le_refl _) (.cells #[.slice none 0 0, .slice none 0 0, .slice none 0 0] 32)
  have hb0 := hb.kept (Kept.of hbn)
  have hRs : w.heap.size < (w.alloc (.cells #[.slice none 0 0, .slice none 0 0, .slice none 0 0] 32)).heap.size := by simp
  go_enter Try.func33, Try.ntmps33
  go_wp2_with fail
  generalize w.alloc (.cells #[.slice none 0 0, .slice none 0 0, .slice none 0 0] 32) = w0 at *
  refine (l1New_any _ n _ hb0 hn).mono ?_
  rintro e w1 ⟨C, rfl, hc, hC, hb1⟩
  have hR1 := hR0.below hb1 hRs
  have hCl := hc.lt
  go_wp2_with fail
  refine (l6Draw_any C _ n _ hc).mono ?_
  rintro e w2 ⟨ug, who, ur, up, rfl, g, r, pl, hop, hwho, hr, hp, hd⟩
  obtain ⟨A, ac, A', ac', P, pc, rfl⟩ := hop.form
  have hR2 : Arr w2 w.heap.size 32 [.slice none 0 0, .slice none 0 0, .slice none 0 0] := (hd.2.block w.heap.size hR1.lt (by omega)).trans hR1
  have hbe : Below w.heap.size w w2 := Below.drawn (C := C) (hbn.trans (hb1.mono (by omega))) (by omega) hd.2
  obtain ⟨R, hR⟩ : ∃ R, w.heap.size = R := ⟨_, rfl⟩
  have hR3 := hR2
  rw [hR] at hR3
  have hRC : R < w1.heap.size := by omega
  have p8 := hR3.c0
  have p9 := hR3.c1
  have p7 := hR3.c2
  have p2 := hR3.frozen 0
  have p3 := hR3.frozen 1
  have p4 := hR3.frozen 2
  go_wp2
  have hR9 := ((hR3.set_ 0 (.slice A g.arena.owner.length ac)).set_ 1 (.slice A' g.arena.next.length ac')).set_ 2 (.slice P g.prio.length pc)
  have hcb : ∀ b, R + 1 ≤ b → (((w2.setCell ⟨R, 0, none⟩ (.slice A g.arena.owner.length ac)).setCell ⟨R, 1, none⟩ (.slice A' g.arena.next.length ac')).setCell ⟨R, 2, none⟩ (.slice P g.prio.length pc)).heap[b]? = w2.heap[b]? := fun b hb => by
    rw [Below.heap_setCell _ _ _ _ (by simp; omega), Below.heap_setCell _ _ _ _ (by simp; omega), Below.heap_setCell _ _ _ _ (by simp; omega)]
  have hsz : (((w2.setCell ⟨R, 0, none⟩ (.slice A g.arena.owner.length ac)).setCell ⟨R, 1, none⟩ (.slice A' g.arena.next.length ac')).setCell ⟨R, 2, none⟩ (.slice P g.prio.length pc)).heap.size = w2.heap.size := by simp
  have hop9 := hop.heapFrom (fun b hb => hcb b (by omega))
  have hr9 := hr.heap (fun b hb => hcb b (by have := (hr.lt b hb).1; omega))
  have hp9 := hp.heap (fun b hb => hcb b (by have := (hp.lt b hb).1; omega))
  have hbz : Below w.heap.size w (((w2.setCell ⟨R, 0, none⟩ (.slice A g.arena.owner.length ac)).setCell ⟨R, 1, none⟩ (.slice A' g.arena.next.length ac')).setCell ⟨R, 2, none⟩ (.slice P g.prio.length pc)) := ((hbe.setCell (p := ⟨R, 0, none⟩) (by show _ ≤ R; omega) _).setCell (p := ⟨R, 1, none⟩) (by show _ ≤ R; omega) _).setCell (p := ⟨R, 2, none⟩) (by show _ ≤ R; omega) _
  clear hcb
  generalize ((w2.setCell ⟨R, 0, none⟩ (.slice A g.arena.owner.length ac)).setCell ⟨R, 1, none⟩ (.slice A' g.arena.next.length ac')).setCell ⟨R, 2, none⟩ (.slice P g.prio.length pc) = wZ at *
  have p0 := hR9.c0
  have p1 := hR9.c1
  have p5 := hR9.c2
  refine bodyPost_ret (v := .tuple #[.agg #[.slice A g.arena.owner.length ac, .slice A' g.arena.next.length ac', .slice P g.prio.length pc], .int .i64 who, ur, up]) (by simp [results, Try.results33, go_sem, p0, p1, p5]) rfl ?_
  first | exact ⟨_, _, _, _, rfl, g, r, pl, hop9.mono (by omega) (by omega), hwho, hr9.more (by omega), hp9.more (by omega), hbz⟩ | exact ⟨_, _, _, _, g, r, pl, rfl, hop9.mono (by omega) (by omega), hwho, hr9.more (by omega), hp9.more (by omega), hbz⟩
end Go.Proofs.Ytogfpalgnjlfcaa
