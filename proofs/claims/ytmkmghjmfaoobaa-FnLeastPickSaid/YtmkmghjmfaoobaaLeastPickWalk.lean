/- The law that no smaller pick keeps the winners. Printed by gen_solved.py. -/
import Derived.Test.YtmkmghjmfaoobaaTable
import Derived.Test.YtmkmghjmfaoobaaSolveWalks
import Derived.Test.YtmkmghjmfaoobaaWinsWalks
namespace Go.Proofs.Ytmkmghjmfaoobaa
set_option linter.unusedSimpArgs false
set_option linter.unusedVariables false
open Go.RowKit

section
variable {g : ParityD} {plan : List Int}
theorem cut_picks (h : PlanInv g g.arena.owner.length plan) (v : Nat) : Picks g (cutTo plan v) := ⟨by rw [length_cutTo, h.len], fun x hx => by
  rw [ix_cutTo (by rw [h.len]; exact hx)]
  split
  · exact h.picks.at_ x hx
  · exact .inl rfl⟩
theorem plan_neg (h : PlanInv g g.arena.owner.length plan) {v : Nat} (hv : v < g.arena.owner.length) (hn : ¬ 0 ≤ ix plan v) : ix plan v = -1 := by
  refine h.none_ v hv (.inl fun e => hn ?_)
  obtain ⟨u, h1, _⟩ := h.made v hv hv e
  omega
theorem cut_skip {k : Nat} (hk : ix plan k = -1) : cutTo plan k = cutTo plan (k + 1) := ints_ext (by simp) fun v hv => by
  rw [length_cutTo] at hv
  rw [ix_cutTo hv, ix_cutTo hv]
  by_cases e : v = k
  · subst e; rw [if_neg (by omega), if_pos (by omega), hk]
  · by_cases e2 : v < k
    · rw [if_pos e2, if_pos (by omega)]
    · rw [if_neg e2, if_neg (by omega)]
theorem cut_put {k : Nat} (hk : k < plan.length) : (cutTo plan k).set k (ix plan k) = cutTo plan (k + 1) := ints_ext (by simp) fun v hv => by
  rw [length_cutTo] at hv
  rw [ix_setP (by simpa using hk), ix_cutTo hv, ix_cutTo hv]
  by_cases e : v = k
  · subst e; rw [if_pos rfl, if_pos (by omega)]
  · rw [if_neg e]
    by_cases e2 : v < k
    · rw [if_pos e2, if_pos (by omega)]
    · rw [if_neg e2, if_neg (by omega)]
end
set_option maxRecDepth 100000 in
set_option maxHeartbeats 16000000 in
theorem FnLeastPick_true (v0 : Value) (l0 : Nat) (w : World) (hl0 : Bytes w v0 l0) :
    Calls Try.prog 7 #[v0] w fun e w' => e = .returned (.bool true) ∧ Below w.heap.size w w' := by
  have Hbig := Lib.hid (big_any v0 l0 w hl0)
  obtain ⟨BA, bc, rfl, hbl, hbm⟩ := hl0.form
  by_cases hn : l0 ≤ 4096
  · have hd : decide (4096 < l0) = false := by simp; omega
    rw [hd] at Hbig
    clear hd
    go_enter Try.func7, Try.ntmps7
    go_wp2_with fail
    refine Hbig.out.mono ?_
    rintro e w0 ⟨rfl, hw0⟩
    subst w0
    go_wp2_with fail
    refine (roll_any _ l0 902 _ hl0 hn (by omega)).mono ?_
    rintro e w1 ⟨C, rfl, hC, hdie, hbw⟩
    clear Hbig
    have hCl := hdie.lt
    go_wp2_with fail
    refine (w9Game_any C _ l0 7 _ (by omega) (by omega) hdie).mono ?_
    rintro e w2 ⟨ug, g, rfl, hop, hok, hg9, hd2⟩
    replace hbw := Below.drawn hbw hC hd2.2
    obtain ⟨A, ac, A', ac', P, pc, rfl⟩ := hop.form
    have hT := Tab.new hd2 hCl hop
    replace hbw := Below.up hbw ((Below.refl w2.heap.size w2).alloc (Nat.le_refl _) (.cells #[.slice A g.arena.owner.length ac, .slice A' g.arena.next.length ac', .slice P g.prio.length pc] 32))
    clear hop hd2 hdie
    have q0 := hT.box.c0
    have q1 := hT.box.c1
    have q2 := hT.box.c2
    go_wp2_with fail
    obtain ⟨X, hX⟩ : ∃ X, w2.heap.size = X := ⟨_, rfl⟩
    obtain ⟨D, hD⟩ : ∃ D, w1.heap.size = D := ⟨_, rfl⟩
    rw [hX, hD] at hT
    rw [hD] at hCl
    clear q0 q1 q2
    generalize w2.alloc (.cells #[.slice A g.arena.owner.length ac, .slice A' g.arena.next.length ac', .slice P g.prio.length pc] 32) = w3 at *
    have hXlt := hT.box.lt
    refine (Solved_any _ g _ hT.parity hok).mono ?_
    rintro e w4 ⟨us, up, plan, rfl, hus, hup, hfin, hbx⟩
    have hwl : (wonOf g).length = g.arena.owner.length := by unfold wonOf; exact length_winnersL _ _
    obtain ⟨WA, wac, hef, _⟩ := hus.ints.form
    rw [hwl] at hef
    subst hef
    obtain ⟨QA, qac, hef, _⟩ := hup.ints.form
    rw [hfin.len] at hef
    subst hef
    replace hT := hT.below hbx
    replace hbw := Below.up hbw hbx
    have hX4 : X < w4.heap.size := Nat.lt_of_lt_of_le hXlt hbx.size
    clear hbx
    have hY0 := Arr.new w4 51 [.slice WA g.arena.owner.length wac, .slice QA g.arena.owner.length qac]
    have hbx := (Below.refl w4.heap.size w4).alloc (Nat.le_refl _) (.cells #[.slice WA g.arena.owner.length wac, .slice QA g.arena.owner.length qac] 51)
    replace hT := hT.below hbx
    replace hbw := Below.up hbw hbx
    replace hus := hus.below hbx (Nat.le_refl _)
    replace hup := hup.below hbx (Nat.le_refl _)
    clear hbx
    have hpl : g.prio.length = g.arena.owner.length := hok.len
    have hpos := hok.arena.pos
    have hle := hok.arena.le
    have q0 := hT.box.c0
    have q1 := hT.box.c1
    have q2 := hT.box.c2
    rw [hpl] at q2
    have q3 := hY0.c0
    have q4 := hY0.c1
    have Hpl := Lib.hid hpl
    have Hwl := Lib.hid hwl
    have Hfin := Lib.hid hfin
    clear hpl hwl hfin
    go_wp2_with fail
    clear q0 q1 q2 q3 q4
    obtain ⟨Y, hY⟩ : ∃ Y, w4.heap.size = Y := ⟨_, rfl⟩
    rw [hY] at hY0
    have hX0 := hT.box
    have hg := hT.parity
    have hnx := hT.arena.parts.2
    have hupi := hup.ints
    clear hus hT hCl hXlt hX4 hup
    generalize w4.alloc (.cells #[.slice WA g.arena.owner.length wac, .slice QA g.arena.owner.length qac] 51) = w5 at *
    rw [Hpl.out] at hX0 hg
    have Hplen := Lib.hid Hfin.out.len
    have Hkeep : Hid (keepsB g plan = true) := Lib.hid (by unfold keepsB; rw [fin_keeps hok Hfin.out, decide_eq_true rfl])
    have HcK := Lib.hid (fun W (u : Value) (l : List Int) (hW : IsParity W (.agg #[.slice A g.arena.owner.length ac, .slice A' g.arena.next.length ac', .slice P g.arena.owner.length pc]) g) (hu : Ints W u l) (hp : Picks g l) => KeepsWon_any _ g u l W hW hu hok hp)
    have Hleast := Lib.hid (fun (v : Nat) (hv : v < g.arena.owner.length) (ho : ix g.arena.owner v = ix (wonOf g) v) (j : Nat) (hj : j < (rx g.arena.next v).length) (hlt : ix (rx g.arena.next v) j < ix plan v) => (show keepsB g ((cutTo plan v).set v (ix (rx g.arena.next v) j)) = false from by
      unfold keepsB
      exact decide_eq_false fun e => fin_least hok Hfin.out hv ho hj hlt e.symm))
    have Hcut := Lib.hid (fun (v : Nat) => cut_picks Hfin.out v)
    have Hput := Lib.hid (fun (v : Nat) (hv : v < g.arena.owner.length) (j : Nat) (hj : j < (rx g.arena.next v).length) => set_picks (Hcut.out v) hv (mem_ix.2 ⟨j, hj, rfl⟩))
    have Hsign := Lib.hid (fun (v : Nat) (hv : v < g.arena.owner.length) => plan_sign Hfin.out hv)
    have Hneg := Lib.hid (fun (v : Nat) (hv : v < g.arena.owner.length) => plan_neg Hfin.out hv)
    have Hpk := Lib.hid Hfin.out.picks
    have Hnl := Lib.hid hok.arena.len
    have Hdeg := Lib.hid (fun (v : Nat) (hv : v < g.arena.owner.length) => hok.arena.deg hv)
    clear Hfin
    have hn9 : g.arena.owner.length ≤ 256 := hle
    have q0 := hX0.c0
    have q1 := hX0.c1
    have q2 := hX0.c2
    have q3 := Arr.c0 hY0
    have q4 := Arr.c1 hY0
    refine (HcK.out _ _ plan hg hupi Hpk.out).mono ?_
    rintro e w6 ⟨rfl, hbx⟩
    rw [Hkeep.out]
    replace hX0 := hX0.below hbx hX0.lt
    replace hY0 := Arr.below hY0 hbx (Arr.lt hY0)
    replace hg := hg.kept (Kept.of hbx)
    replace hnx := hnx.kept (Kept.of hbx)
    replace hupi := hupi.kept (Kept.of hbx)
    replace hbw := Below.up hbw hbx
    clear hbx q0 q1 q2 q3 q4 Hkeep
    have q2 := hX0.c2
    go_wp2_with fail
    clear q2
    refine (w9None_any g.arena.owner.length _ (by omega)).mono ?_
    rintro e w7 ⟨un, rfl, hno, hbx⟩
    have hXl := hX0.lt
    have hYl := Arr.lt hY0
    obtain ⟨G, cap, hGf, hG1, hG2⟩ := hno.form' (List.length_replicate ..) hpos
    subst hGf
    have hcut0 : List.replicate g.arena.owner.length (-1) = cutTo plan 0 := ints_ext (by simp [Hplen.out]) fun v hv => by
      rw [length_cutTo, Hplen.out] at hv
      rw [ix_cutTo (by rw [Hplen.out]; exact hv), if_neg (by omega)]
      simp [ix, hv]
    rw [hcut0] at hno
    clear hcut0
    go_wp2_with fail
    go_loopw [7] (fun i wr => ∃ k : Nat, k ≤ g.arena.owner.length ∧ i = .int .i64 k ∧ OwnInts wr w6.heap.size (.slice (some ⟨G, 0, none⟩) g.arena.owner.length cap) (cutTo plan k) ∧ Below w6.heap.size w6 wr) (fun i _ => g.arena.owner.length - (intOf i).toNat)
    case atStart => exact ⟨0, Nat.zero_le _, rfl, hno, hbx⟩
    case round =>
      clear hno hbx
      obtain ⟨k, hk, rfl, hown, hbr⟩ := hrel
      obtain ⟨wo, rfl⟩ : ∃ wo : World, wo = wr := ⟨_, rfl⟩
      have hX1 := hX0.below hbr hXl
      have hY1 := Arr.below hY0 hbr hYl
      have q1 := hX1.c1
      have q2 := hX1.c2
      have q4 := Arr.c1 hY1
      by_cases hlt : k < g.arena.owner.length
      · have hlt2 : (k : Int) < g.arena.owner.length := by omega
        obtain ⟨b1, e1, hc1⟩ := (hupi.kept (Kept.of hbr)).at_ (k := k) (by rw [Hplen.out]; exact hlt)
        subst e1
        by_cases hp0 : 0 ≤ ix plan k
        · have hpn : ¬ ix plan k < 0 := by omega
          obtain ⟨b3, RA, rc, e3, hc40, hrow⟩ := hnx.at_ (k := k) (by rw [Hnl.out]; exact hlt)
          subst e3
          have hln : (k : Int) < g.arena.next.length := by rw [Hnl.out]; exact hlt2
          have hdg := Hdeg.out k hlt
          have Hown := Lib.hid ((Hsign.out k hlt).1 hp0).symm
          have hcl : (cutTo plan k).length = g.arena.owner.length := by rw [length_cutTo, Hplen.out]
          have Hcl := Lib.hid hcl
          have Hcp : Hid ((cutTo plan k).set k (ix plan k) = cutTo plan (k + 1)) := Lib.hid (cut_put (by rw [Hplen.out]; exact hlt))
          clear hcl
          go_wp2_with fail
          go_loopw [8] (fun i wr => ∃ (t : Nat) (l : List Int), t ≤ (rx g.arena.next k).length ∧ i = .int .i64 t ∧ OwnInts wr w6.heap.size (.slice (some ⟨G, 0, none⟩) g.arena.owner.length cap) l ∧ Hid (l.length = g.arena.owner.length ∧ ∀ x, l.set k x = (cutTo plan k).set k x) ∧ Below w6.heap.size w6 wr) (fun i _ => (rx g.arena.next k).length - (intOf i).toNat)
          case atStart => exact ⟨0, _, Nat.zero_le _, rfl, hown, Lib.hid ⟨Hcl.out, fun x => rfl⟩, hbr⟩
          case round =>
            clear hown hbr hX1 hY1 q1 q2 q4 hc1
            obtain ⟨t, l, ht, rfl, hown, HL, hbr⟩ := hrel
            obtain ⟨wi, rfl⟩ : ∃ wi : World, wi = wr := ⟨_, rfl⟩
            have hX1 := hX0.below hbr hXl
            have hY1 := Arr.below hY0 hbr hYl
            have q1 := hX1.c1
            have q4 := Arr.c1 hY1
            have hc4 := (Kept.of hbr).cell hc40
            obtain ⟨b1', e1', hc1⟩ := (hupi.kept (Kept.of hbr)).at_ (k := k) (by rw [Hplen.out]; exact hlt)
            cases e1'
            have hcG : wi.cell? ⟨G, k, none⟩ = some (.int .i64 (ix l k)) := OwnInts.cell hown (by rw [HL.out.1]; exact hlt)
            have hfz := hown.frozen' HL.out.1.symm k
            by_cases htl : t < (rx g.arena.next k).length
            · have htl2 : (t : Int) < (rx g.arena.next k).length := by omega
              obtain ⟨b4, e4, hc5⟩ := (hrow.kept (Kept.of hbr)).at_ htl
              subst e4
              by_cases hlow : ix (rx g.arena.next k) t < ix plan k
              · have Hk := Lib.hid (Hleast.out k hlt Hown.out t htl hlow)
                have Hpp := Lib.hid (Hput.out k hlt t htl)
                have hdl : decide (ix (rx g.arena.next k) t < ix plan k) = true := decide_eq_true hlow
                go_wp2_with fail
                go_region
                all_goals
                  have hput := OwnInts.drew (hown.put HL.out.1.symm k (ix (rx g.arena.next k) t))
                  rw [HL.out.2] at hput
                  have hbs : Below w6.heap.size w6 (wi.setCell ⟨G, k, none⟩ (.int .i64 (ix (rx g.arena.next k) t))).drew := below_drwS (hbr.setCell hG1 _)
                  have hXs := hX0.below hbs hXl
                  have p0 := hXs.c0
                  have p1 := hXs.c1
                  have p2 := hXs.c2
                  go_wp2_with fail
                  refine (HcK.out _ _ _ (hg.kept (Kept.of hbs)) hput.ints Hpp.out).mono ?_
                  rintro e w8 ⟨rfl, hb8⟩
                  rw [Hk.out]
                  have hput8 := hput.below hb8 (Nat.le_refl _)
                  have hbs8 := hbs.trans (hb8.mono hbs.size)
                  have hl8 : ((cutTo plan k).set k (ix (rx g.arena.next k) t)).length = g.arena.owner.length := by rw [List.length_set, Hcl.out]
                  go_wp2_with fail
                  exact ⟨⟨t + 1, _, by omega, by go_num, hput8, Lib.hid ⟨hl8, fun x => by rw [List.set_set]⟩, hbs8⟩, by simp [intOf]; omega⟩
              · have hdl : decide (ix (rx g.arena.next k) t < ix plan k) = false := decide_eq_false hlow
                have hput := OwnInts.drew (hown.put HL.out.1.symm k (ix plan k))
                rw [HL.out.2, Hcp.out] at hput
                go_wp2_with fail
                go_region
                all_goals
                  go_wp2_with fail
                  exact ⟨⟨k + 1, by omega, by go_num, hput, below_drwS (hbr.setCell hG1 _)⟩, by simp [intOf]; omega⟩
            · obtain rfl : t = (rx g.arena.next k).length := by omega
              have htl2 : ¬ (((rx g.arena.next k).length : Nat) : Int) < (rx g.arena.next k).length := by omega
              have hput := OwnInts.drew (hown.put HL.out.1.symm k (ix plan k))
              rw [HL.out.2, Hcp.out] at hput
              go_wp2_with fail
              go_region
              all_goals
                go_wp2_with fail
                exact ⟨⟨k + 1, by omega, by go_num, hput, below_drwS (hbr.setCell hG1 _)⟩, by simp [intOf]; omega⟩
        · have hpn : ix plan k < 0 := by omega
          have hsk := cut_skip (Hneg.out k hlt (by first | exact hp0 | exact hpn))
          rw [hsk] at hown
          clear hsk
          go_wp2_with fail
          exact ⟨⟨k + 1, by omega, by go_num, hown, hbr⟩, by simp [intOf]; omega⟩
      · obtain rfl : k = g.arena.owner.length := by omega
        have hlt2 : ¬ ((g.arena.owner.length : Nat) : Int) < g.arena.owner.length := by omega
        go_wp2
        go_ret
        exact ⟨rfl, hbw.trans (hbr.mono hbw.size)⟩
  · have hd : decide (4096 < l0) = true := by simp; omega
    rw [hd] at Hbig
    clear hd
    go_enter Try.func7, Try.ntmps7
    go_wp2_with fail
    refine Hbig.out.mono ?_
    rintro e w0 ⟨rfl, hw0⟩
    subst w0
    go_wp2
    go_ret
    exact ⟨rfl, Below.refl _ _⟩
end Go.Proofs.Ytmkmghjmfaoobaa
