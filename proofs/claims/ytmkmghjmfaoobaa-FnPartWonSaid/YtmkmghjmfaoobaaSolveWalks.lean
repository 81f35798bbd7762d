/- The walks of planFrom, Solved and KeepsWon. Condition of planFrom: the game is valid, there are no picks, the winners are the game's. -/
import Derived.Test.YtmkmghjmfaoobaaSolvePlain
import Derived.Test.YtmkmghjmfaoobaaRankWalks4
import Derived.Test.YtmkmghjmfaoobaaPkE
import Derived.Test.YtmkmghjmfaoobaaPkB
namespace Go.Proofs.Ytmkmghjmfaoobaa
set_option linter.unusedSimpArgs false
set_option linter.unusedVariables false
open Go.RowKit

/-- An answer of a game: its winners, and a plan that wins. -/
def RetSolved (w : World) (g : ParityD) (e : Ending) (w' : World) : Prop := ∃ ws ps plan, e = .returned (.agg #[ws, ps]) ∧ OwnInts w' w.heap.size ws (wonOf g) ∧ OwnInts w' w.heap.size ps plan ∧ PlanInv g g.arena.owner.length plan ∧ Below w.heap.size w w'
theorem set_back {l : List Int} {k : Nat} {x : Int} (h : ix l k = -1) (hk : k < l.length) : (l.set k x).set k (-1) = l := ints_ext (by simp) fun v hv => by
  rw [ix_set (by simpa using hk)]
  split
  · rename_i e; subst e; exact h.symm
  · rename_i e
    rw [ix_set hk, if_neg e]
theorem below_drwS {B : Nat} {a w : World} (h : Below B a w) : Below B a w.drew := ⟨h.os, h.tape, h.output, h.size, h.block⟩
set_option maxRecDepth 100000 in
set_option maxHeartbeats 16000000 in
theorem planFrom_any (v : Value) (g : ParityD) (u z : Value) (w : World) (hv : IsParity w v g) (hok : ParityOk g) (hu : Ints w u (List.replicate g.arena.owner.length (-1))) (hz : Ints w z (wonOf g)) :
    Calls Try.prog 63 #[v, u, z] w (RetSolved w g) := by
  obtain ⟨o, n, p, rfl, hbw, hB⟩ := parity_box hv
  obtain ⟨ha, hp⟩ := hv.parts
  obtain ⟨ho, hn⟩ := ha.parts
  obtain ⟨OA, oc, rfl, _⟩ := ho.form
  obtain ⟨NA, nc, rfl, _⟩ := hn.form
  obtain ⟨PA, pc, rfl, _⟩ := hp.form
  obtain ⟨ZA, zc, hzf, _⟩ := hz.form
  have hwl : (wonOf g).length = g.arena.owner.length := by unfold wonOf; exact length_winnersL _ _
  rw [hwl] at hzf
  subst hzf
  obtain ⟨UA, uc, huf, _⟩ := hu.form
  rw [List.length_replicate] at huf
  subst huf
  have hle := hok.arena.le
  have hpos := hok.arena.pos
  have Hwl := Lib.hid hwl
  have Hpl := Lib.hid hok.len
  have Hnl := Lib.hid hok.arena.len
  clear hwl
  have hR0 : Arr ((w.alloc (.cells #[.slice OA g.arena.owner.length oc, .slice NA g.arena.next.length nc, .slice PA g.prio.length pc] 32)).alloc (.cells #[.slice none 0 0, .slice none 0 0] 51)) (w.heap.size + 1) 51 [.slice none 0 0, .slice none 0 0] := by
    simpa using Arr.new (w.alloc (.cells #[.slice OA g.arena.owner.length oc, .slice NA g.arena.next.length nc, .slice PA g.prio.length pc] 32)) 51 [.slice none 0 0, .slice none 0 0]
  replace hB := hB.alloc (.cells #[.slice none 0 0, .slice none 0 0] 51)
  replace hbw := hbw.alloc hbw.size (.cells #[.slice none 0 0, .slice none 0 0] 51)
  obtain ⟨hn0, hbn⟩ := new_ints ((w.alloc (.cells #[.slice OA g.arena.owner.length oc, .slice NA g.arena.next.length nc, .slice PA g.prio.length pc] 32)).alloc (.cells #[.slice none 0 0, .slice none 0 0] 51))
  have hsz : ((w.alloc (.cells #[.slice OA g.arena.owner.length oc, .slice NA g.arena.next.length nc, .slice PA g.prio.length pc] 32)).alloc (.cells #[.slice none 0 0, .slice none 0 0] 51)).heap.size = w.heap.size + 2 := by simp
  rw [hsz] at hn0
  replace hR0 := hR0.below hbn hR0.lt
  replace hB := hB.below hbn hB.lt
  replace hbw := Below.up hbw hbn
  clear hbn
  have hux := hu.kept (Kept.of hbw)
  have hszn : w.heap.size + 2 ≤ (((w.alloc (.cells #[.slice OA g.arena.owner.length oc, .slice NA g.arena.next.length nc, .slice PA g.prio.length pc] 32)).alloc (.cells #[.slice none 0 0, .slice none 0 0] 51)).alloc (.cells #[] 2)).heap.size := by simp
  go_enter Try.func63, Try.ntmps63
  go_wp2_with (at_builtin; refine append_ints _ rfl (.tmp 14) (.tmp 15) rfl (w.heap.size + 2) _ [] rfl (by first | exact hn0 | simpa using hn0) _ (List.replicate g.arena.owner.length (-1)) rfl hux (by simp; omega) hszn ?_; intro v1 w1 ho1 hb1 hg1 hl1; rw [List.nil_append] at ho1; obtain ⟨G, cap, e1, hG1, hG2⟩ := ho1.form' (List.length_replicate ..) hpos; subst e1)
  replace hR0 := hR0.below hb1 (by omega)
  replace hB := hB.below hb1 (by omega)
  replace hbw := hbw.trans (hb1.mono (by omega))
  have hw1 : w.heap.size + 2 ≤ w1.heap.size := Nat.le_trans hszn hb1.size
  have Hi0 := Lib.hid (inv_zero hok)
  clear hn0 hsz hszn hux hg1 hl1 hb1
  go_loopw [19] (fun i wr => ∃ (k : Nat) (l : List Int), k ≤ g.arena.owner.length ∧ i = .int .i64 k ∧ OwnInts wr (w.heap.size + 2) (.slice (some ⟨G, 0, none⟩) g.arena.owner.length cap) l ∧ Hid (PlanInv g k l) ∧ Below (w.heap.size + 2) w1 wr) (fun i _ => g.arena.owner.length - (intOf i).toNat)
  case atStart => exact ⟨0, _, Nat.zero_le _, rfl, ho1, Hi0, Below.refl _ _⟩
  case round =>
    clear ho1 Hi0
    obtain ⟨k, l, hk, rfl, hown, HI, hbr⟩ := hrel
    obtain ⟨wo, rfl⟩ : ∃ wo : World, wo = wr := ⟨_, rfl⟩
    have Hll : Hid (l.length = g.arena.owner.length) := Lib.hid HI.out.len
    have hbwo : Below w.heap.size w wo := hbw.trans (hbr.mono (by omega))
    have hBo := hB.below hbr (by omega)
    have hRo := hR0.below hbr (by omega)
    by_cases hlt : k < g.arena.owner.length
    · have hlt2 : (k : Int) < g.arena.owner.length := by omega
      have q0 := hBo.c0
      obtain ⟨b1, e1, hc1⟩ := (ho.kept (Kept.of hbwo)).at_ hlt
      obtain ⟨b2, e2, hc2⟩ := (hz.kept (Kept.of hbwo)).at_ (k := k) (by rw [Hwl.out]; exact hlt)
      subst e1
      subst e2
      have hc3 : wo.cell? ⟨G, k, none⟩ = some (.int .i64 (ix l k)) := OwnInts.cell hown (by rw [Hll.out]; exact hlt)
      by_cases hown2 : ix g.arena.owner k = ix (wonOf g) k
      · have hneg : ix l k = -1 := HI.out.none_ k hlt (.inr (Nat.le_refl _))
        rw [hneg] at hc3
        have hi01 := won01 g hlt
        have Hneg := Lib.hid hneg
        clear hneg
        obtain ⟨i, hi⟩ : ∃ i, ix (wonOf g) k = i := ⟨_, rfl⟩
        rw [hi] at hown2 hc2 hi01
        rw [hown2] at hc1
        have Ho := Lib.hid hown2
        have Hw := Lib.hid hi
        clear hown2 hi
        have hreg : regionOf ⟨wonOf g, []⟩ i = places (wonOf g) i := by unfold regionOf; rw [if_pos (by simpa [Hwl.out] using hle)]
        have Hreg := Lib.hid hreg
        clear hreg
        obtain ⟨b3, RA, rc, e3, hc4, hrow⟩ := hn.at_ (k := k) (by rw [Hnl.out]; exact hlt)
        subst e3
        have hln : (k : Int) < g.arena.next.length := by rw [Hnl.out]; exact hlt2
        have hdeg := hok.arena.deg hlt
        have Hsome := Lib.hid (HI.out.some_ hok hlt hi01 Ho.out Hw.out)
        go_wp2_with fail
        go_region
        all_goals
          go_wp2_with fail
          refine (implRegionOf_any _ ⟨wonOf g, []⟩ i _ ⟨_, .slice none 0 0, rfl, hz.kept (Kept.of (below_drwS hbwo)), Ints.nil _⟩).mono ?_
          rintro e w4 ⟨ureg, rfl, hrg, hb4⟩
          rw [Hreg.out] at hrg
          have hb4' : Below wo.heap.size wo w4 := ⟨hb4.os, hb4.tape, hb4.output, hb4.size, hb4.block⟩
          clear hb4
          obtain ⟨GA, gc, hgf, _⟩ := hrg.ints.form
          subst hgf
          have hown4 := hown.below hb4' (Nat.le_refl _)
          have hG3 : G < wo.heap.size := (hown.lt G rfl).2
          have hbr4 : Below (w.heap.size + 2) w1 w4 := hbr.trans (hb4'.mono (by have := hbr.size; omega))
          have hB4 := hB.below hbr4 (by omega)
          have q1 := hB4.c1
          have hc4' := (Kept.of (hbw.trans (hbr4.mono (by omega)))).cell hc4
          have hrg4 : OwnInts w4 wo.heap.size (.slice GA (places (wonOf g) i).length gc) (places (wonOf g) i) := hrg
          clear hrg hb4' hown hbr q0 hc1 hc2 hc3 hBo hRo
          go_wp2_with fail
          go_loopw [54] (fun iv wr => ∃ t : Nat, t ≤ (rx g.arena.next k).length ∧ iv = .int .i64 t ∧ OwnInts wr (w.heap.size + 2) (.slice (some ⟨G, 0, none⟩) g.arena.owner.length cap) l ∧ OwnInts wr wo.heap.size (.slice GA (places (wonOf g) i).length gc) (places (wonOf g) i) ∧ Below (w.heap.size + 2) w1 wr ∧ Hid (∀ j, j < t → ix (wonOf g) (ix (rx g.arena.next k) j).toNat ≠ i ∨ ¬ Holds g (l.set k (ix (rx g.arena.next k) j)) i)) (fun iv _ => (rx g.arena.next k).length - (intOf iv).toNat)
          case atStart => exact ⟨0, Nat.zero_le _, rfl, hown4, hrg4, hbr4, Lib.hid fun j hj => by omega⟩
          case round =>
            clear hown4 hrg4 hbr4 q1 hc4' hB4
            obtain ⟨t, ht, rfl, hown, hrg, hbr, HF⟩ := hrel
            obtain ⟨wi, rfl⟩ : ∃ wi : World, wi = wr := ⟨_, rfl⟩
            have hbwi : Below w.heap.size w wi := hbw.trans (hbr.mono (by omega))
            by_cases htl : t < (rx g.arena.next k).length
            · have htl2 : (t : Int) < (rx g.arena.next k).length := by omega
              obtain ⟨b4, e4, hc5⟩ := (hrow.kept (Kept.of hbwi)).at_ htl
              subst e4
              obtain ⟨j, hj, hjn⟩ := (hok.arena.set hlt).vert t htl
              rw [hj] at hc5
              have Hj := Lib.hid hj
              clear hj
              have hjn2 : (j : Int) < g.arena.owner.length := by omega
              obtain ⟨b2', e2', hc6⟩ := (hz.kept (Kept.of hbwi)).at_ (k := j) (by rw [Hwl.out]; exact hjn)
              cases e2'
              obtain ⟨b2', e2', hc7⟩ := (hz.kept (Kept.of hbwi)).at_ (k := k) (by rw [Hwl.out]; exact hlt)
              cases e2'
              rw [Hw.out] at hc7
              by_cases hwj : ix (wonOf g) j = i
              · have Hwj := Lib.hid hwj
                rw [hwj] at hc6
                clear hwj
                have hcG : wi.cell? ⟨G, k, none⟩ = some (.int .i64 (ix l k)) := OwnInts.cell hown (by rw [Hll.out]; exact hlt)
                have hfz := hown.frozen' Hll.out.symm k
                have hput := OwnInts.drew (hown.put Hll.out.symm k (j : Int))
                have hbs : Below (w.heap.size + 2) w1 (wi.setCell ⟨G, k, none⟩ (.int .i64 j)).drew := below_drwS (hbr.setCell (by omega) _)
                have hrs : OwnInts (wi.setCell ⟨G, k, none⟩ (.int .i64 j)).drew wo.heap.size (.slice GA (places (wonOf g) i).length gc) (places (wonOf g) i) := OwnInts.drew (OwnInts.far hrg (by show G < wo.heap.size; omega) _)
                have hBs := hB.below hbs (by omega)
                have q0 := hBs.c0
                have q1 := hBs.c1
                have q2 := hBs.c2
                have hx : (j : Int) ∈ rx g.arena.next k := by rw [← Hj.out]; exact mem_ix.2 ⟨t, htl, rfl⟩
                have Hpk := Lib.hid (set_picks HI.out.picks hlt hx)
                have Htot := Lib.hid (HI.out.tot hok hlt hx hi01 Ho.out Hw.out (by rw [Int.toNat_natCast]; exact Hwj.out))
                have Hln : Hid ((l.set k (j : Int)).length = g.prio.length) := Lib.hid (by rw [List.length_set, Hll.out, Hpl.out])
                have Hbk := Lib.hid (set_back (x := (j : Int)) Hneg.out (by rw [Hll.out]; exact hlt))
                clear hx
                go_wp2_with fail
                go_region
                all_goals
                  go_wp2_with fail
                  have hbw5 : Below w.heap.size w (wi.setCell ⟨G, k, none⟩ (.int .i64 j)).drew := hbw.trans (hbs.mono (by omega))
                  generalize (wi.setCell ⟨G, k, none⟩ (.int .i64 j)).drew = w5 at *
                  refine (onlyBy_any _ g _ (l.set k (j : Int)) _ (hv.kept (Kept.of hbw5)) hput.ints hok Hln.out).mono ?_
                  rintro e w6 ⟨uo, rfl, hop, hb6⟩
                  have hput6 := hput.below hb6 (Nat.le_refl _)
                  have hrs6 := hrs.below hb6 (Nat.le_refl _)
                  have hbs6 := hbs.trans (hb6.mono (by have := hbs.size; omega))
                  clear hput hrs q0 q1 q2
                  go_wp2_with fail
                  refine (wonIn_any _ (onlyP g (l.set k (j : Int))) _ (places (wonOf g) i) _ hop.parity hrs6.ints (only_ok hok Hpk.out) (vert_reg g i) (by
                    have e : On (marksL (onlyP g (l.set k (j : Int))).arena.owner.length (places (wonOf g) i)) = Reg g i := funext fun v => propext on_reg
                    rw [e]; exact Htot.out)).mono ?_
                  rintro e w7 ⟨ev, od, B0, C0, B1, C1, rfl, hev, hod, _, hb7⟩
                  have Htest := Lib.hid (test_holds (i := i) hok Hpk.out Htot.out)
                  obtain ⟨E, hE⟩ : ∃ E, markedL (evenW (duelP (onlyP g (l.set k (j : Int)))) (marksL (onlyP g (l.set k (j : Int))).arena.owner.length (places (wonOf g) i))) = E := ⟨_, rfl⟩
                  obtain ⟨O, hO⟩ : ∃ O, markedL (restL (marksL (onlyP g (l.set k (j : Int))).arena.owner.length (places (wonOf g) i)) (evenW (duelP (onlyP g (l.set k (j : Int)))) (marksL (onlyP g (l.set k (j : Int))).arena.owner.length (places (wonOf g) i)))) = O := ⟨_, rfl⟩
                  rw [hE] at hev
                  rw [hO] at hod
                  have HT0 : Hid (i = 0 → (O = [] ↔ Holds g (l.set k (j : Int)) i)) := Lib.hid (by rw [← hO]; exact Htest.out.1)
                  have HT1 : Hid (i = 1 → (E = [] ↔ Holds g (l.set k (j : Int)) i)) := Lib.hid (by rw [← hE]; exact Htest.out.2)
                  clear hE hO Htest hop
                  obtain ⟨EA, ec, hef, _⟩ := hev.ints.form
                  obtain ⟨OA2, oc2, hof, _⟩ := hod.ints.form
                  subst hef
                  subst hof
                  have hput7 := hput6.below hb7 (Nat.le_refl _)
                  have hrs7 := hrs6.below hb7 (Nat.le_refl _)
                  have hbs7 := hbs6.trans (hb7.mono (by have := hbs6.size; omega))
                  have hbw7 := hbw.trans (hbs7.mono (by omega))
                  obtain ⟨b2', e2', hc8⟩ := (hz.kept (Kept.of hbw7)).at_ (k := k) (by rw [Hwl.out]; exact hlt)
                  cases e2'
                  rw [Hw.out] at hc8
                  clear hput6 hrs6 hb6 hb7 hev hod hbs6
                  have hl2 : (l.set k (j : Int)).length = g.arena.owner.length := by rw [List.length_set, Hll.out]
                  have Hpick : Hid (Holds g (l.set k (j : Int)) i → PlanInv g (k + 1) (l.set k (j : Int))) := Lib.hid fun hh => by
                    have := HI.out.pick hok hlt hi01 Ho.out Hw.out htl (by rw [Hj.out, Int.toNat_natCast]; exact Hwj.out) (by rw [Hj.out]; exact hh) HF.out
                    rwa [Hj.out] at this
                  have Hfail : Hid (¬ Holds g (l.set k (j : Int)) i → ∀ j', j' < t + 1 → ix (wonOf g) (ix (rx g.arena.next k) j').toNat ≠ i ∨ ¬ Holds g (l.set k (ix (rx g.arena.next k) j')) i) := Lib.hid fun hh j' hj' => by
                    by_cases e : j' = t
                    · subst e; right; rw [Hj.out]; exact hh
                    · exact HF.out j' (by omega)
                  have hcG7 : w7.cell? ⟨G, k, none⟩ = some (.int .i64 (ix (l.set k (j : Int)) k)) := OwnInts.cell hput7 (by rw [hl2]; exact hlt)
                  have hfz7 := hput7.frozen' hl2.symm k
                  have hback := hput7.put hl2.symm k (-1)
                  rw [Hbk.out] at hback
                  have hbs8 := hbs7.setCell (p := ⟨G, k, none⟩) (by omega) (.int .i64 (-1))
                  have hrs8 := OwnInts.far hrs7 (p := ⟨G, k, none⟩) (by show G < wo.heap.size; omega) (.int .i64 (-1))
                  clear hl2 hcG hfz
                  rcases hi01 with rfl | rfl
                  · by_cases hh : Holds g (l.set k (j : Int)) 0
                    · have hO := (HT0.out rfl).2 hh
                      subst hO
                      go_wp2_with fail
                      exact ⟨⟨k + 1, _, by omega, by go_num, hput7, Lib.hid (Hpick.out hh), hbs7⟩, by simp [intOf]; omega⟩
                    · have hO : ¬ O.length = 0 := fun e => hh ((HT0.out rfl).1 (List.length_eq_zero_iff.1 e))
                      have hO2 : ((O.length : Int) == 0) = false := beq_eq_false_iff_ne.2 (by omega)
                      go_wp2_with fail
                      exact ⟨⟨t + 1, by omega, by go_num, hback, hrs8, hbs8, Lib.hid (Hfail.out hh)⟩, by simp [intOf]; omega⟩
                  · by_cases hh : Holds g (l.set k (j : Int)) 1
                    · have hE := (HT1.out rfl).2 hh
                      subst hE
                      go_wp2_with fail
                      exact ⟨⟨k + 1, _, by omega, by go_num, hput7, Lib.hid (Hpick.out hh), hbs7⟩, by simp [intOf]; omega⟩
                    · have hE : ¬ E.length = 0 := fun e => hh ((HT1.out rfl).1 (List.length_eq_zero_iff.1 e))
                      have hE2 : ((E.length : Int) == 0) = false := beq_eq_false_iff_ne.2 (by omega)
                      go_wp2_with fail
                      exact ⟨⟨t + 1, by omega, by go_num, hback, hrs8, hbs8, Lib.hid (Hfail.out hh)⟩, by simp [intOf]; omega⟩
              · have hnb : (ix (wonOf g) j != i) = true := by simpa using hwj
                go_wp2_with fail
                go_region
                all_goals
                  go_wp2_with fail
                  exact ⟨⟨t + 1, by omega, by go_num, hown, hrg, below_drwS hbr, Lib.hid fun j' hj' => by
                    by_cases e : j' = t
                    · subst e; left; rw [Hj.out, Int.toNat_natCast]; exact hwj
                    · exact HF.out j' (by omega)⟩, by simp [intOf]; omega⟩
            · exfalso
              obtain ⟨t', h1, h2, h3⟩ := Hsome.out
              rcases HF.out t' (by omega) with h4 | h4
              · exact h4 h2
              · exact h4 h3
      · have hnb : (ix g.arena.owner k != ix (wonOf g) k) = true := by simpa using hown2
        go_wp2_with fail
        go_region
        all_goals
          go_wp2
          exact ⟨⟨k + 1, l, by omega, by go_num, hown, Lib.hid (HI.out.skip hown2), below_drwS hbr⟩, by simp [intOf]; omega⟩
    · obtain rfl : k = g.arena.owner.length := by omega
      have hlt2 : ¬ ((g.arena.owner.length : Nat) : Int) < g.arena.owner.length := by omega
      obtain ⟨hn0, hbn⟩ := new_ints wo
      have hzx := hz.kept (Kept.of (Below.up hbwo hbn))
      have hnw : wo.heap.size ≤ (wo.alloc (.cells #[] 2)).heap.size := by simp
      have hfin : PlanInv g g.arena.owner.length l := HI.out
      have Hfin := Lib.hid hfin
      have hR2 := hRo.below hbn hRo.lt
      have hown2 := hown.below hbn (Nat.le_refl _)
      have hbwn := Below.up hbwo hbn
      have hRl := hRo.lt
      clear hfin hbn
      go_wp2_with (at_builtin; refine append_ints _ rfl (.tmp 106) (.tmp 107) rfl wo.heap.size _ [] rfl (by first | exact hn0 | simpa using hn0) _ (wonOf g) rfl hzx (by rw [Hwl.out]; simp; omega) hnw ?_; intro v2 w2 ho2 hb2 hg2 hl2; rw [List.nil_append] at ho2; obtain ⟨G2, cap2, e2, hG3, hG4⟩ := ho2.form' Hwl.out hpos; subst e2; have hR3 := hR2.below hb2 (by omega); have p0 := hR3.c0; have p1 := hR3.c1; have p2 := hR3.frozen 0; have p3 := hR3.frozen 1)
      have hown3 : OwnInts w2 (w.heap.size + 2) (.slice (some ⟨G, 0, none⟩) g.arena.owner.length cap) l := ((OI.of hown2).heap fun b hb => hb2.block b (by
        have := (hown.lt b hb).2; omega)).1
      have hbw3 : Below w.heap.size w w2 := hbwn.trans (hb2.mono (by have := hbwo.size; omega))
      have hR9 := (hR3.set_ 0 (.slice (some ⟨G2, 0, none⟩) g.arena.owner.length cap2)).set_ 1 (.slice (some ⟨G, 0, none⟩) g.arena.owner.length cap)
      have hbz := (hbw3.setCell (p := ⟨w.heap.size + 1, 0, none⟩) (by show _ ≤ w.heap.size + 1; omega) (.slice (some ⟨G2, 0, none⟩) g.arena.owner.length cap2)).setCell (p := ⟨w.heap.size + 1, 1, none⟩) (by show _ ≤ w.heap.size + 1; omega) (.slice (some ⟨G, 0, none⟩) g.arena.owner.length cap)
      have ho9 := ((ho2.far (p := ⟨w.heap.size + 1, 0, none⟩) (by show w.heap.size + 1 < wo.heap.size; omega) (.slice (some ⟨G2, 0, none⟩) g.arena.owner.length cap2)).far (p := ⟨w.heap.size + 1, 1, none⟩) (by show w.heap.size + 1 < wo.heap.size; omega) (.slice (some ⟨G, 0, none⟩) g.arena.owner.length cap))
      have hp9 := ((hown3.far (p := ⟨w.heap.size + 1, 0, none⟩) (by show w.heap.size + 1 < w.heap.size + 2; omega) (.slice (some ⟨G2, 0, none⟩) g.arena.owner.length cap2)).far (p := ⟨w.heap.size + 1, 1, none⟩) (by show w.heap.size + 1 < w.heap.size + 2; omega) (.slice (some ⟨G, 0, none⟩) g.arena.owner.length cap))
      clear p0 p1 p2 p3
      generalize ((w2.setCell ⟨w.heap.size + 1, 0, none⟩ (.slice (some ⟨G2, 0, none⟩) g.arena.owner.length cap2)).setCell ⟨w.heap.size + 1, 1, none⟩ (.slice (some ⟨G, 0, none⟩) g.arena.owner.length cap)) = w9 at *
      have p0 := hR9.c0
      have p1 := hR9.c1
      refine bodyPost_ret (v := .agg #[.slice (some ⟨G2, 0, none⟩) g.arena.owner.length cap2, .slice (some ⟨G, 0, none⟩) g.arena.owner.length cap]) (by simp [results, Try.results63, go_sem, p0, p1]) rfl ?_
      exact ⟨_, _, l, rfl, ho9.more hbwo.size, hp9.more (by omega), Hfin.out, hbz⟩
theorem noneL_rep (n : Nat) : noneL n = List.replicate n (-1) := by first | rfl | simp [noneL]
theorem length_noneL' (n : Nat) : (noneL n).length = n := by rw [noneL_rep, List.length_replicate]
set_option maxRecDepth 100000 in
set_option maxHeartbeats 8000000 in
theorem Solved_any (v : Value) (g : ParityD) (w : World) (hv : IsParity w v g) (hok : ParityOk g) :
    Calls Try.prog 29 #[v] w (RetSolved w g) := by
  obtain ⟨o, n, p, rfl, hbw, hB⟩ := parity_box hv
  obtain ⟨ha, hp⟩ := hv.parts
  have hle := hok.arena.le
  have hR0 : Arr ((w.alloc (.cells #[o, n, p] 32)).alloc (.cells #[.slice none 0 0, .slice none 0 0] 51)) (w.heap.size + 1) 51 [.slice none 0 0, .slice none 0 0] := by
    simpa using Arr.new (w.alloc (.cells #[o, n, p] 32)) 51 [.slice none 0 0, .slice none 0 0]
  replace hB := hB.alloc (.cells #[.slice none 0 0, .slice none 0 0] 51)
  replace hbw := hbw.alloc hbw.size (.cells #[.slice none 0 0, .slice none 0 0] 51)
  have q0 := hB.c0
  have q1 := hB.c1
  have q2 := hB.c2
  go_enter Try.func29, Try.ntmps29
  go_wp2_with fail
  clear q0 q1 q2
  generalize (w.alloc (.cells #[o, n, p] 32)).alloc (.cells #[.slice none 0 0, .slice none 0 0] 51) = w0 at *
  refine (ParityOk_any _ g _ (hv.kept (Kept.of hbw))).mono ?_
  rintro e w1 ⟨rfl, hb1⟩
  rw [parityOkB_iff.2 hok]
  replace hB := hB.below hb1 hB.lt
  replace hR0 := hR0.below hb1 hR0.lt
  replace hbw := Below.up hbw hb1
  clear hb1
  go_wp2_with fail
  have HSS := Lib.hid (fun W (hW : Below w1.heap.size w1 W) => (show W.cell? ⟨w.heap.size, 0, none⟩ = some o ∧ W.cell? ⟨w.heap.size, 1, none⟩ = some n ∧ W.cell? ⟨w.heap.size, 2, none⟩ = some p from ⟨(hB.below hW hB.lt).c0, (hB.below hW hB.lt).c1, (hB.below hW hB.lt).c2⟩))
  have HS2 := Lib.hid (fun W x y (hW : Below w1.heap.size w1 W) => (show ((W.setCell ⟨w.heap.size + 1, 0, none⟩ x).setCell ⟨w.heap.size + 1, 1, none⟩ y).cell? ⟨w.heap.size, 0, none⟩ = some o ∧ ((W.setCell ⟨w.heap.size + 1, 0, none⟩ x).setCell ⟨w.heap.size + 1, 1, none⟩ y).cell? ⟨w.heap.size, 1, none⟩ = some n ∧ ((W.setCell ⟨w.heap.size + 1, 0, none⟩ x).setCell ⟨w.heap.size + 1, 1, none⟩ y).cell? ⟨w.heap.size, 2, none⟩ = some p from
    have h := ((hB.below hW hB.lt).far (p := ⟨w.heap.size + 1, 0, none⟩) (by show w.heap.size ≠ w.heap.size + 1; omega) x).far (p := ⟨w.heap.size + 1, 1, none⟩) (by show w.heap.size ≠ w.heap.size + 1; omega) y
    ⟨h.c0, h.c1, h.c2⟩))
  have hr0 : Below w1.heap.size w1 w1.drew := ⟨rfl, rfl, rfl, Nat.le_refl _, fun _ _ => rfl⟩
  have Hc1 := Lib.hid (fun W (hW : Below w1.heap.size w1 W) => noPlan_any _ g.arena W (ha.kept (Kept.of (Below.up hbw hW))) (by omega))
  have Hc2 := Lib.hid (fun W (hW : Below w1.heap.size w1 W) => (show Calls Try.prog 49 #[.agg #[o, n, p]] W (RetInts W (wonOf g)) from winners_any _ g W (hv.kept (Kept.of (Below.up hbw hW))) hok))
  have Hc3 := Lib.hid (fun W u z (hW : Below w1.heap.size w1 W) (h1 : Ints W u (List.replicate g.arena.owner.length (-1))) (h2 : Ints W z (wonOf g)) => planFrom_any _ g u z W (hv.kept (Kept.of (Below.up hbw hW))) hok h1 h2)
  go_region_held3 (fun W => W.cell? ⟨w.heap.size, 0, none⟩ = some o ∧ W.cell? ⟨w.heap.size, 1, none⟩ = some n ∧ W.cell? ⟨w.heap.size, 2, none⟩ = some p)
    (first | exact HSS.out _ hr0 | exact HSS.out _ hr1 | exact HSS.out _ hr2 | exact HSS.out _ hr3 | exact HS2.out _ _ _ hr3)
    (first | (go_at_call 64; refine (Hc1.out _ hr0).mono ?_; rintro e w2 ⟨G, rfl, hG0, hM, hb2⟩; have hr1 := Below.up hr0 hb2; have hpl := (IArr.own (B := 0) hM (Nat.zero_le _) (by rw [length_noneL']; omega)).ints; rw [length_noneL', noneL_rep] at hpl) | (go_at_call 49; refine (Hc2.out _ hr1).mono ?_; rintro e w3 ⟨uw, rfl, huw, hb3⟩; have hr2 := Below.up hr1 hb3; have hpl3 := hpl.kept (Kept.of hb3)) | (go_at_call 63; refine (Hc3.out _ _ _ hr2 hpl3 huw.ints).mono ?_; rintro e w4 ⟨ws, ps, pl, rfl, hus1, hus2, hfin, hb4⟩; have hr3 := Below.up hr2 hb4; obtain ⟨WA, wac, rfl, _⟩ := hus1.ints.form; obtain ⟨QA, qac, rfl, _⟩ := hus2.ints.form; have hR4 := hR0.below hr3 hR0.lt; have p0 := hR4.c0; have p1 := hR4.c1; have p2 := hR4.frozen 0; have p3 := hR4.frozen 1))
  all_goals
    have hR9 := (hR4.set_ 0 (.slice WA (wonOf g).length wac)).set_ 1 (.slice QA pl.length qac)
    have hbz := ((Below.up hbw hr3).setCell (p := ⟨w.heap.size + 1, 0, none⟩) (by show _ ≤ w.heap.size + 1; omega) (.slice WA (wonOf g).length wac)).setCell (p := ⟨w.heap.size + 1, 1, none⟩) (by show _ ≤ w.heap.size + 1; omega) (.slice QA pl.length qac)
    have hRl := hR0.lt
    have hs2 := hr2.size
    have ho9 := ((hus1.far (p := ⟨w.heap.size + 1, 0, none⟩) (by show w.heap.size + 1 < w3.heap.size; omega) (.slice WA (wonOf g).length wac)).far (p := ⟨w.heap.size + 1, 1, none⟩) (by show w.heap.size + 1 < w3.heap.size; omega) (.slice QA pl.length qac))
    have hp9 := ((hus2.far (p := ⟨w.heap.size + 1, 0, none⟩) (by show w.heap.size + 1 < w3.heap.size; omega) (.slice WA (wonOf g).length wac)).far (p := ⟨w.heap.size + 1, 1, none⟩) (by show w.heap.size + 1 < w3.heap.size; omega) (.slice QA pl.length qac))
    clear p0 p1 p2 p3
    go_wp2
    generalize (w4.setCell ⟨w.heap.size + 1, 0, none⟩ (.slice WA (wonOf g).length wac)).setCell ⟨w.heap.size + 1, 1, none⟩ (.slice QA pl.length qac) = w9 at *
    have p0 := hR9.c0
    have p1 := hR9.c1
    refine bodyPost_ret (v := .agg #[.slice WA (wonOf g).length wac, .slice QA pl.length qac]) (by simp [results, Try.results29, go_sem, p0, p1]) rfl ?_
    exact ⟨_, _, pl, rfl, ho9.more (by omega), hp9.more (by omega), hfin, hbz⟩
/-- Who wins what does not turn with the picks. -/
noncomputable def keepsB (g : ParityD) (l : List Int) : Bool := decide (wonOf g = wonOf (onlyP g l))
set_option maxRecDepth 100000 in
set_option maxHeartbeats 4000000 in
theorem KeepsWon_any (v : Value) (g : ParityD) (u : Value) (l : List Int) (w : World) (hv : IsParity w v g) (hu : Ints w u l) (hok : ParityOk g) (hp : Picks g l) :
    Calls Try.prog 30 #[v, u] w fun e w' => e = .returned (.bool (keepsB g l)) ∧ Below w.heap.size w w' := by
  obtain ⟨o, n, p, rfl, hbw, hB⟩ := parity_box hv
  have hpk : picksB g l = true := by
    unfold picksB pickAll
    rw [Bool.and_eq_true, decide_eq_true_eq, decide_eq_true_eq]
    refine ⟨by rw [hp.len, hok.len], fun x hx => ?_⟩
    rw [hp.len] at hx
    unfold pickAt
    rw [Bool.or_eq_true, decide_eq_true_eq]
    exact (hp.at_ x hx).imp id fun h => hasB_iff.2 h
  have q0 := hB.c0
  have q1 := hB.c1
  have q2 := hB.c2
  go_enter Try.func30, Try.ntmps30
  go_wp2_with fail
  clear q0 q1 q2
  generalize w.alloc (.cells #[o, n, p] 32) = w0 at *
  refine (ParityOk_any _ g _ (hv.kept (Kept.of hbw))).mono ?_
  rintro e w1 ⟨rfl, hb1⟩
  rw [parityOkB_iff.2 hok]
  replace hB := hB.below hb1 hB.lt
  replace hbw := Below.up hbw hb1
  clear hb1
  have q0 := hB.c0
  have q1 := hB.c1
  have q2 := hB.c2
  go_wp2_with fail
  clear q0 q1 q2
  refine (arePicks_any _ g _ l _ (hv.kept (Kept.of hbw)) (hu.kept (Kept.of hbw)) hok).mono ?_
  rintro e w2 ⟨rfl, hb1⟩
  rw [hpk]
  replace hB := hB.below hb1 hB.lt
  replace hbw := Below.up hbw hb1
  clear hb1
  go_wp2_with fail
  have HSS := Lib.hid (fun W (hW : Below w2.heap.size w2 W) => (show W.cell? ⟨w.heap.size, 0, none⟩ = some o ∧ W.cell? ⟨w.heap.size, 1, none⟩ = some n ∧ W.cell? ⟨w.heap.size, 2, none⟩ = some p from ⟨(hB.below hW hB.lt).c0, (hB.below hW hB.lt).c1, (hB.below hW hB.lt).c2⟩))
  have hr0 : Below w2.heap.size w2 w2.drew := ⟨rfl, rfl, rfl, Nat.le_refl _, fun _ _ => rfl⟩
  have Hc1 := Lib.hid (fun W (hW : Below w2.heap.size w2 W) => (show Calls Try.prog 49 #[.agg #[o, n, p]] W (RetInts W (wonOf g)) from winners_any _ g W (hv.kept (Kept.of (Below.up hbw hW))) hok))
  have Hc2 := Lib.hid (fun W (hW : Below w2.heap.size w2 W) => onlyBy_any _ g _ l W (hv.kept (Kept.of (Below.up hbw hW))) (hu.kept (Kept.of (Below.up hbw hW))) hok (by rw [hp.len, hok.len]))
  have Hc3 := Lib.hid (fun W u (hW : IsParity W u (onlyP g l)) => (show Calls Try.prog 49 #[u] W (RetInts W (wonOf (onlyP g l))) from winners_any _ (onlyP g l) W hW (only_ok hok hp)))
  go_region_held3 (fun W => W.cell? ⟨w.heap.size, 0, none⟩ = some o ∧ W.cell? ⟨w.heap.size, 1, none⟩ = some n ∧ W.cell? ⟨w.heap.size, 2, none⟩ = some p)
    (first | exact HSS.out _ hr0 | exact HSS.out _ hr1 | exact HSS.out _ hr2 | exact HSS.out _ hr3 | exact HSS.out _ hr4)
    (first | (go_at_call 49; refine (Hc3.out _ _ hop.parity).mono ?_; rintro e w5 ⟨ux, rfl, hux, hb5⟩; have hr3 := Below.up hr2 hb5; have huw5 := (huw.kept (Kept.of hb4)).kept (Kept.of hb5)) | (go_at_call 49; refine (Hc1.out _ hr0).mono ?_; rintro e w3 ⟨uw, rfl, huw', hb3⟩; have huw := huw'.ints; have hr1 := Below.up hr0 hb3) | (go_at_call 67; refine (Hc2.out _ hr1).mono ?_; rintro e w4 ⟨uo, rfl, hop, hb4⟩; have hr2 := Below.up hr1 hb4) | (go_at_call 66; refine (drew_below (Equal_any _ _ (wonOf g) (wonOf (onlyP g l)) _ huw5 hux.ints)).mono ?_; rintro e w6 ⟨rfl, hb6⟩; have hr4 := Below.up hr3 hb6))
  all_goals
    go_wp2
    go_ret
    exact ⟨rfl, Below.up hbw hr4⟩
end Go.Proofs.Ytmkmghjmfaoobaa
