/- The walk of the program's badLoops. -/
import Derived.Test.YtpnophmanpfejaaBadPlain
import Derived.Test.YtpnophmanpfejaaReachWalks
import Derived.Test.YtpnophmanpfejaaParityWalks2
namespace Go.Proofs.Ytpnophmanpfejaa
set_option linter.unusedSimpArgs false
set_option linter.unusedVariables false
open Go.RowKit

theorem below_drw' {B : Nat} {a w : World} (h : Below B a w) : Below B a w.drew := ⟨h.os, h.tape, h.output, h.size, h.block⟩
set_option maxRecDepth 100000 in
set_option maxHeartbeats 4000000 in
theorem badLoops_any (v : Value) (g : ParityD) (who : Int) (u : Value) (s : List Int) (y : Value) (plan : List Int) (w : World) (hv : IsParity w v g) (hu : Ints w u s) (hy : Ints w y plan) (hok : ParityOk g) (hck : CheckOk g.arena who s plan) :
    Calls Try.prog 86 #[v, .int .i64 who, u, y] w (RetInts w (badL g who s plan)) := by
  obtain ⟨o, n, p, rfl, hbw, hB⟩ := parity_box hv
  obtain ⟨ha, hp⟩ := hv.parts
  obtain ⟨A, c, rfl, hlc, hcm⟩ := hp.form
  obtain ⟨US, uc, rfl, huc, hum⟩ := hu.form
  obtain ⟨YS, yc, rfl, hyc, hym⟩ := hy.form
  have hle := hck.arena.le
  have hsl := hck.set.length_le
  have hfok := fixA_ok hck.arena hck.plan
  go_enter Try.func86, Try.ntmps86
  have hBz := hB.lt
  have hBc0 := hB.c0
  have hBc1 := hB.c1
  have hBc2 := hB.c2
  go_wp2_with fail
  refine (fixedBy_any _ g.arena _ plan _ (ha.kept (Kept.of hbw)) (hy.kept (Kept.of hbw)) hck.arena hck.plan.len).mono ?_
  rintro e w1 ⟨u1, rfl, h1, hb1⟩
  obtain ⟨o1, n1, vs1, rfl, hoi1, hrw1, hne1⟩ := h1
  clear hBc0 hBc1 hBc2 hBz
  replace hB := hB.below hb1 hB.lt
  replace hbw := Below.up hbw hb1
  have hb1s := hb1.size
  clear hb1
  have hBz := hB.lt
  have hBc0 := hB.c0
  have hBc1 := hB.c1
  have hBc2 := hB.c2
  have hL0 : Arr (w1.alloc (.cells #[.slice none 0 0, .slice none 0 0] 30)) w1.heap.size 30 [.slice none 0 0, .slice none 0 0] := Arr.new _ _ _
  have hLc0 := hL0.c0
  have hLc1 := hL0.c1
  have hLf0 := hL0.frozen 0
  have hLf1 := hL0.frozen 1
  obtain ⟨N1, nc, rfl, _⟩ := hrw1.rows.form
  obtain ⟨O1, oc, rfl, _⟩ := hoi1.1.ints.form
  go_wp2
  clear hLc0 hLc1 hLf0 hLf1
  clear hBc0 hBc1 hBc2 hBz
  have hL : Arr (w1.alloc (.cells #[.slice O1 (fixA g.arena plan).owner.length oc, .slice N1 (fixA g.arena plan).next.length nc] 30)) w1.heap.size 30 [.slice O1 (fixA g.arena plan).owner.length oc, .slice N1 (fixA g.arena plan).next.length nc] := Arr.new _ _ _
  have hb2 := (Below.refl w1.heap.size w1).alloc (Nat.le_refl _) (.cells #[.slice O1 (fixA g.arena plan).owner.length oc, .slice N1 (fixA g.arena plan).next.length nc] 30)
  have hE1 : IsArena w1 (.agg #[.slice O1 (fixA g.arena plan).owner.length oc, .slice N1 (fixA g.arena plan).next.length nc]) (fixA g.arena plan) := OA.arena ⟨_, _, _, rfl, hoi1, hrw1, hne1⟩
  have hE2 := hE1.kept (Kept.of hb2)
  have hB2 := hB.below hb2 hB.lt
  have hbw2 := Below.up hbw hb2
  have hsz2 : (w1.alloc (.cells #[.slice O1 (fixA g.arena plan).owner.length oc, .slice N1 (fixA g.arena plan).next.length nc] 30)).heap.size = w1.heap.size + 1 := by simp
  obtain ⟨hown, hbn⟩ := new_ints (w1.alloc (.cells #[.slice O1 (fixA g.arena plan).owner.length oc, .slice N1 (fixA g.arena plan).next.length nc] 30))
  have hw1 := hbw.size
  have hBlt := hB.lt
  clear hE1 hB hbw hoi1 hrw1 hne1 hL0 hb2 hb1s
  generalize w1.alloc (.cells #[.slice O1 (fixA g.arena plan).owner.length oc, .slice N1 (fixA g.arena plan).next.length nc] 30) = w2 at *
  rw [← hsz2]
  generalize w2.alloc (.cells #[] 2) = w3 at *
  obtain ⟨X, hX⟩ : ∃ X, w1.heap.size = X := ⟨_, rfl⟩
  rw [hX] at hw1 hBlt hL hsz2 ⊢
  clear hX
  have hX2 : X < w2.heap.size := by omega
  clear hsz2
  have Hpn := Lib.hid hok.len
  have Hnx := Lib.hid (show (fixA g.arena plan).next.length = g.prio.length by simp [fixA, hck.arena.len, hok.len])
  have Hres := Lib.hid (show s.filter (fun x => badAt (fixA g.arena plan).next g.prio.length g.prio s who x.toNat) = badL g who s plan from rfl)
  generalize badL g who s plan = R at *
  have Hall := Lib.hid (filter_all s fun x => badAt (fixA g.arena plan).next g.prio.length g.prio s who x.toNat)
  have HE := Lib.hid hE2
  have hown1 : (fixA g.arena plan).owner.length = g.prio.length := by rw [hok.len]; rfl
  have Hown := Lib.hid hown1
  clear hown1 hE2
  have Hfok := Lib.hid hfok
  clear hfok
  have Hpr := Lib.hid hok.prio
  have Hset := Lib.hid hck.set
  have hple : g.prio.length ≤ 256 := by rw [hok.len]; exact hle
  clear hok hck
  generalize fixA g.arena plan = F at *
  go_loopw [10, 26] (fun v i wr => ∃ k : Nat, k ≤ s.length ∧ i = .int .i64 k ∧ OwnInts wr w2.heap.size v ((s.take k).filter fun x => badAt F.next g.prio.length g.prio s who x.toNat) ∧ Below w2.heap.size w2 wr) (fun _ i _ => s.length - (intOf i).toNat)
  case atStart => exact ⟨0, Nat.zero_le _, rfl, by simpa using hown, hbn⟩
  case round =>
    obtain ⟨k, hk, rfl, hown, hbr⟩ := hrel
    obtain ⟨wo, rfl⟩ : ∃ wo : World, wo = wr := ⟨_, rfl⟩
    have hbs := hbr.size
    have hbw := Below.up hbw2 hbr
    have hBr := hB2.below hbr (by omega)
    have hBc2 := hBr.c2
    have hLr := hL.below hbr (by omega)
    have hLc0 := hLr.c0
    have hLc1 := hLr.c1
    by_cases hlt : k < s.length
    · obtain ⟨a1, rfl, hc1⟩ := ((hu.kept (Kept.of hbw))).at_ hlt
      obtain ⟨j, hj, hjn⟩ := Hset.out.vert k hlt
      have hjp : j < g.prio.length := by rw [Hpn.out]; exact hjn
      obtain ⟨a2, rfl, hc2⟩ := ((hp.kept (Kept.of hbw))).at_ hjp
      have hpj := (Hpr.out j hjp).1
      have Hs := Lib.hid (filter_take hlt fun x => badAt F.next g.prio.length g.prio s who x.toNat)
      rw [hj] at hc1 Hs
      rw [Int.toNat_natCast] at Hs
      clear hj
      have hjl : (j : Int) < g.prio.length := by omega
      have hlen : ((s.take k).filter fun x => badAt F.next g.prio.length g.prio s who x.toNat).length ≤ s.length := length_filter_take
      have hmk := make_one elem_bool g.prio.length (by omega)
      by_cases e : ¬ ix g.prio j % 2 = who
      · have hd : (ix g.prio j % 2 == who) = false := by simpa using e
        have Hbad := Lib.hid (show badAt F.next g.prio.length g.prio s who j = bx (beyondL F.next (bx (insideL g.prio.length g.prio s (ix g.prio j))) g.prio.length (fun y => (y : Int) ∈ [(j : Int)])) j by unfold badAt; rw [decide_eq_false e]; rfl)
        clear e
        go_wp2
        clear hmk
        have hM := BArr.new wo g.prio.length
        rw [← insideL_zero g.prio.length g.prio s (ix g.prio j)] at hM
        have hbm := (Below.refl wo.heap.size wo).alloc (Nat.le_refl _) (.cells (zeros (.bool false) g.prio.length).toArray 4)
        clear hBc2 hLc0 hLc1 hc1
        generalize wo.alloc (.cells (zeros (.bool false) g.prio.length).toArray 4) = w5 at *
        go_loopw [44] (fun i wr => ∃ t : Nat, t ≤ s.length ∧ i = .int .i64 t ∧ BArr wr wo.heap.size (insideL g.prio.length g.prio (s.take t) (ix g.prio j)) ∧ Below wo.heap.size wo wr) (fun i _ => s.length - (intOf i).toNat)
        case atStart => exact ⟨0, Nat.zero_le _, rfl, hM, hbm⟩
        case round =>
          obtain ⟨t, ht, rfl, hM, hbm⟩ := hrel
          have hbms := hbm.size
          have hbw' := Below.up hbw hbm
          have hBm := hBr.below hbm (by omega)
          have hBc2 := hBm.c2
          by_cases htl : t < s.length
          · obtain ⟨a3, ha3, hc3⟩ := (hu.kept (Kept.of hbw')).at_ htl
            obtain rfl := Option.some.inj ha3
            obtain ⟨i, hi, hin⟩ := Hset.out.vert t htl
            have hip : i < g.prio.length := by rw [Hpn.out]; exact hin
            obtain ⟨a4, ha4, hc4⟩ := (hp.kept (Kept.of hbw')).at_ hip
            obtain rfl := Option.some.inj ha4
            have hc2 := (Kept.of hbm).cell hc2
            have hMc := hM.cell (k := i) (by simpa using hip)
            have hMf := hM.frozen i
            have hset := hM.set_ i (decide (ix g.prio i ≤ ix g.prio j))
            rw [← insideL_step htl hi hip] at hset
            rw [hi] at hc3
            have hil : (i : Int) < g.prio.length := by omega
            clear hi ha3 ha4
            go_wp2
            go_region
            all_goals
              go_wp2
              exact ⟨⟨t + 1, by omega, by go_num, hset, below_drw' (hbm.setCell (Nat.le_refl _) _)⟩, by simp [intOf]; omega⟩
          · obtain rfl : t = s.length := by omega
            obtain ⟨wm, rfl⟩ : ∃ wm : World, wm = wr := ⟨_, rfl⟩
            rw [List.take_length] at hM
            have Hml := Lib.hid (length_insideL g.prio.length g.prio s (ix g.prio j))
            generalize insideL g.prio.length g.prio s (ix g.prio j) = m at *
            clear hBc2
            have hmk := make_one elem_bool g.prio.length (by omega)
            have hMlt := hM.lt
            have hS := BArr.new wm g.prio.length
            rw [← startL_zero g.prio.length m (rx F.next j)] at hS
            have hbt := (Below.refl wm.heap.size wm).alloc (Nat.le_refl _) (.cells (zeros (.bool false) g.prio.length).toArray 4)
            have hbwt := Below.up hbw' hbt
            have hBt := hBm.below hbt (by omega)
            have hBc2m := hBm.c2
            have hBc2 := hBt.c2
            have hLt := (hLr.below hbm (by omega)).below hbt (by omega)
            have hLc1 := hLt.c1
            have hMt := hM.below hbt hMlt
            have hbrm := Below.up hbr hbm
            obtain ⟨a5, R5, q5, rfl, hc5, hrow⟩ := HE.out.parts.2.at_ (k := j) (by rw [Hnx.out]; exact hjp)
            replace hc5 := (Kept.of (Below.up hbrm hbt)).cell hc5
            have hjl2 : (j : Int) < F.next.length := by rw [Hnx.out]; exact hjl
            have hvn := Lib.hid (show Vert (rx F.next j) g.prio.length by rw [← Hown.out]; exact Hfok.out.vert_next (by rw [Hown.out]; exact hjp))
            have hdeg := (Hfok.out.deg (v := j) (by rw [Hown.out]; exact hjp)).2
            obtain ⟨R5', q5', he5, _, _⟩ := hrow.form
            simp only [Value.slice.injEq, true_and] at he5
            obtain ⟨rfl, rfl⟩ := he5
            go_wp2
            clear hmk
            have Hval := Lib.hid (show bx (reachL F.next (bx m) F.owner.length (fun x => bx (startL g.prio.length m (rx F.next j)) x = true)) j = badAt F.next g.prio.length g.prio s who j by rw [Hown.out, reach_start hjp hvn.out, Hbad.out])
            clear Hbad
            generalize rx F.next j = row at *
            generalize badAt F.next g.prio.length g.prio s who j = bad at *
            have hrow0 := hrow
            have hbrt := Below.up hbrm hbt
            have hot := Below.up hbm hbt
            have hsp := hbt.size
            clear hbms hc5 hBc2 hLc1 hBc2m hc2
            generalize wm.alloc (.cells (zeros (.bool false) g.prio.length).toArray 4) = w6 at *
            go_loopw [73] (fun i wr => ∃ t : Nat, t ≤ row.length ∧ i = .int .i64 t ∧ BArr wr wm.heap.size (startL g.prio.length m (row.take t)) ∧ Below wm.heap.size wm wr) (fun i _ => row.length - (intOf i).toNat)
            case atStart => exact ⟨0, Nat.zero_le _, rfl, hS, hbt⟩
            case round =>
              obtain ⟨t, ht, rfl, hS, hbx⟩ := hrel
              have hMx := hM.below hbx hMlt
              by_cases htl : t < row.length
              · obtain ⟨a6, rfl, hc6⟩ := (hrow.kept (Kept.of (Below.up hbrm hbx))).at_ htl
                obtain ⟨i, hi, hip⟩ := hvn.out t htl
                have hMc := hMx.cell (k := i) (by rw [Hml.out]; exact hip)
                have hSc := hS.cell (k := i) (by simpa using hip)
                have hSf := hS.frozen i
                have hset := hS.set_ i (bx m i)
                rw [← startL_step htl hi hip] at hset
                rw [hi] at hc6
                have hil : (i : Int) < g.prio.length := by omega
                clear hi
                go_wp2
                exact ⟨⟨t + 1, by omega, by go_num, hset, hbx.setCell (Nat.le_refl _) _⟩, by simp [intOf]; omega⟩
              · obtain rfl : t = row.length := by omega
                rw [List.take_length] at hS
                obtain ⟨wq, rfl⟩ : ∃ wq : World, wq = wr := ⟨_, rfl⟩
                have hbrx := Below.up hbrm hbx
                have hLq := (hLr.below hbm (by omega)).below hbx (by omega)
                have hLc0 := hLq.c0
                have hLc1 := hLq.c1
                have hSb := hS.bools (by simp; omega)
                have hMb := hMx.bools (by rw [Hml.out]; omega)
                rw [length_startL] at hSb
                rw [Hml.out] at hMb
                go_wp2_with fail
                refine (reachIn_in _ F _ _ _ m _ (HE.out.kept (Kept.of hbrx)) hSb hMb (by rw [Hml.out, Hown.out]) Hfok.out (by rw [length_startL, Hown.out])).mono ?_
                rintro e w7 ⟨u7, rfl, ho7, hb7⟩
                have hb7o := Below.up (Below.up hbm hbx) hb7
                obtain ⟨A7, c7, rfl, _, _⟩ := ho7.bools.form
                obtain ⟨a7, rfl, hc7⟩ := ho7.bools.at_ (k := j) (by rw [length_reachL, Hown.out]; exact hjp)
                have Hrl := Lib.hid (show (reachL F.next (bx m) F.owner.length fun x => bx (startL g.prio.length m row) x = true).length = g.prio.length by rw [length_reachL, Hown.out])
                rw [Hval.out] at hc7
                rw [Hrl.out]
                have ho9 := hown.below hb7o (Nat.le_refl _)
                have hbs7 : w2.heap.size ≤ w7.heap.size := by have := hb7o.size; omega
                have hbr7 := Below.up hbr hb7o
                cases bad
                · go_wp2
                  exact ⟨⟨k + 1, by omega, by go_num, by rw [Hs.out]; simpa using ho9, hbr7⟩, by simp [intOf]; omega⟩
                · go_wp2_with (at_builtin; refine append_int _ rfl (.tmp 92) (.tmp 94) rfl w2.heap.size u10 _ rfl ho9 (j : Int) rfl (by omega) hbs7 ?_; intro v1 w8 ho1 hb1 hg1 hl1)
                  exact ⟨⟨k + 1, by omega, by go_num, by rw [Hs.out]; simpa using ho1, hbr7.trans hb1⟩, by simp [intOf]; omega⟩
      · replace e := Classical.not_not.1 e
        have hd : (ix g.prio j % 2 == who) = true := by simpa using e
        have hbad : badAt F.next g.prio.length g.prio s who j = false := by unfold badAt; rw [decide_eq_true e]; rfl
        rw [hbad] at Hs
        clear e hbad
        go_wp2
        exact ⟨⟨k + 1, by omega, by go_num, by rw [Hs.out]; simpa using hown, hbr⟩, by simp [intOf]; omega⟩
    · obtain rfl : k = s.length := by omega
      rw [Hall.out, Hres.out] at hown
      go_wp2
      go_ret
      exact .mk' (hown.more (by have := hbw2.size; omega)) hbw
end Go.Proofs.Ytpnophmanpfejaa
