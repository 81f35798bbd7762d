/- The walks of the reference's BadLoops, CleanIn and WinsBy. -/
import Derived.Test.YtogfpalgnjlfcaaPkH
namespace Go.Proofs.Ytogfpalgnjlfcaa
set_option linter.unusedSimpArgs false
set_option linter.unusedVariables false
open Go.RowKit

set_option maxRecDepth 100000 in
set_option maxHeartbeats 4000000 in
theorem specBadLoops_any (v : Value) (g : ParityD) (who : Int) (u : Value) (s : List Int) (y : Value) (plan : List Int) (w : World) (hv : IsParity w v g) (hu : Ints w u s) (hy : Ints w y plan) :
    Calls Try.prog 37 #[v, .int .i64 who, u, y] w (RetInts w (badG g who s plan)) := by
  obtain ⟨o, n, p, rfl, hbw, hB⟩ := parity_box hv
  obtain ⟨ha, hp⟩ := hv.parts
  obtain ⟨A, c, rfl, hlc, hcm⟩ := hp.form
  obtain ⟨US, uc, rfl, huc, hum⟩ := hu.form
  obtain ⟨YS, yc, rfl, hyc, hym⟩ := hy.form
  obtain ⟨hown, hbn⟩ := new_ints (w.alloc (.cells #[o, n, .slice A g.prio.length c] 32))
  have hsz : (w.alloc (.cells #[o, n, .slice A g.prio.length c] 32)).heap.size = w.heap.size + 1 := by simp
  have hB2 := hB.below hbn hB.lt
  have hbw2 := Below.up hbw hbn
  have hw0 : w.heap.size < (w.alloc (.cells #[o, n, .slice A g.prio.length c] 32)).heap.size := by omega
  have Hright := Lib.hid (fun W (hW : Kept w W) => l6Right_any _ g who _ s _ plan W (hv.kept hW) (hu.kept hW) (hy.kept hW))
  cases hE : badOkB g who s plan
  · have hres : badG g who s plan = [] := by unfold badG; rw [hE]; rfl
    rw [hres]; clear hres
    rw [hE] at Hright
    clear hE
    have hBc0 := hB2.c0
    have hBc1 := hB2.c1
    have hBc2 := hB2.c2
    go_enter Try.func37, Try.ntmps37
    go_wp2_with fail
    refine (Hright.out _ (Kept.of hbw2)).mono ?_
    rintro e w9 ⟨rfl, hb9⟩
    have ho9 := hown.below hb9 (Nat.le_refl _)
    rw [hsz] at ho9
    go_wp2
    go_ret
    exact .mk' (ho9.more (Nat.le_succ _)) (Below.up hbw2 hb9)
  · have hres : badG g who s plan = badL g who s plan := by unfold badG; rw [hE]; rfl
    rw [hres]; clear hres
    rw [hE] at Hright
    have hE' := hE
    unfold badOkB at hE'
    rw [Bool.and_eq_true] at hE'
    have hok := parityOkB_iff.1 hE'.1
    have hck := checkB_iff.1 hE'.2
    clear hE hE'
    have hle := hck.arena.le
    have hsl := hck.set.length_le
    have hfok := fixA_ok hck.arena hck.plan
    have hBc0 := hB2.c0
    have hBc1 := hB2.c1
    have hBc2 := hB2.c2
    go_enter Try.func37, Try.ntmps37
    go_wp2_with fail
    refine (Hright.out _ (Kept.of hbw2)).mono ?_
    rintro e w4 ⟨rfl, hb4⟩
    rw [← hsz]
    generalize w.alloc (.cells #[o, n, .slice A g.prio.length c] 32) = w1 at *
    have h12 : w1.heap.size < (w1.alloc (.cells #[] 2)).heap.size := by simp
    generalize w1.alloc (.cells #[] 2) = w2 at *
    have hw2 := hbw2.size
    have hbw1 := hbw
    clear hbw
    have hB4 := hB2.below hb4 hB2.lt
    have hbw4 := Below.up hbw2 hb4
    have ho4 := hown.below hb4 (Nat.le_refl _)
    have hb14 := Below.up hbn hb4
    clear hBc0 hBc1 hBc2 hsz hown Hright
    have hBc0 := hB4.c0
    have hBc1 := hB4.c1
    have hBc2 := hB4.c2
    go_wp2_with fail
    refine (l6Edges_any _ g.arena _ plan w _ ha (Kept.of hbw4) (hy.kept (Kept.of hbw4)) (by rw [hck.plan.len, hck.arena.len]) (by rw [hck.arena.len]; exact hle)).mono ?_
    rintro e w5 ⟨u5, rfl, hE5, hb5⟩
    have hB5 := hB4.below hb5 hB4.lt
    have hbw5 := Below.up hbw4 hb5
    have ho5 := ho4.below hb5 (Nat.le_refl _)
    have hb15 := Below.up hb14 hb5
    clear hBc0 hBc1 hBc2 hb14 ho4
    have hFn := Lib.hid (show (fixA g.arena plan).next = fixTo g.arena plan g.arena.next.length from rfl)
    rw [← hFn.out] at hE5
    clear hFn
    have Hpn := Lib.hid hok.len
    have Hnx := Lib.hid (show (fixA g.arena plan).next.length = g.prio.length by simp [fixA, hck.arena.len, hok.len])
    have Hres := Lib.hid (show s.filter (fun x => badAt (fixA g.arena plan).next g.prio.length g.prio s who x.toNat) = badL g who s plan from rfl)
    generalize badL g who s plan = R at *
    have Hall := Lib.hid (filter_all s fun x => badAt (fixA g.arena plan).next g.prio.length g.prio s who x.toNat)
    have Hown := Lib.hid (show (fixA g.arena plan).owner.length = g.prio.length by rw [hok.len]; rfl)
    have Hfok := Lib.hid hfok
    clear hfok
    have Hpr := Lib.hid hok.prio
    have Hset := Lib.hid hck.set
    have hple : g.prio.length ≤ 256 := by rw [hok.len]; exact hle
    clear hok hck
    generalize fixA g.arena plan = F at *
    have HE := Lib.hid hE5
    clear hE5
    have hw1 := hb15.size
    have hw45 := hb5.size
    have hw24 := hb4.size
    have hw12 : w1.heap.size < w4.heap.size := by have := hb4.size; have := h12; omega
    go_wp2
    go_loopw [9, 11] (fun v i wr => ∃ k : Nat, k ≤ s.length ∧ i = .int .i64 k ∧ OwnInts wr w1.heap.size v ((s.take k).filter fun x => badAt F.next g.prio.length g.prio s who x.toNat) ∧ Below w1.heap.size w1 wr ∧ w5.heap.size ≤ wr.heap.size ∧ (∀ b, w4.heap.size ≤ b → b < w5.heap.size → wr.heap[b]? = w5.heap[b]?) ∧ (∀ b, v.ownBlock = some b → b < w4.heap.size ∨ w5.heap.size ≤ b)) (fun _ i _ => s.length - (intOf i).toNat)
    case atStart => exact ⟨0, Nat.zero_le _, rfl, by simpa using ho5, hb15, Nat.le_refl _, fun b _ _ => rfl, fun b hb => .inl (by simp only [Value.ownBlock, Option.some.injEq] at hb; omega)⟩
    case round =>
      obtain ⟨k, hk, rfl, hown, hbr, hsr, hhr, hvr⟩ := hrel
      obtain ⟨wo, rfl⟩ : ∃ wo : World, wo = wr := ⟨_, rfl⟩
      have hbs := hbr.size
      have hbw := Below.up hbw1 hbr
      have hBr := hB.below hbr (by omega)
      have hBc0 := hBr.c0
      have hBc1 := hBr.c1
      have hBc2 := hBr.c2
      by_cases hlt : k < s.length
      · obtain ⟨a1, rfl, hc1⟩ := ((hu.kept (Kept.of hbw))).at_ hlt
        obtain ⟨j, hj, hjn⟩ := Hset.out.vert k hlt
        have hjp : j < g.prio.length := by rw [Hpn.out]; exact hjn
        obtain ⟨a2, rfl, hc2⟩ := ((hp.kept (Kept.of hbw))).at_ hjp
        have hpj := (Hpr.out j hjp).1
        have Hs := Lib.hid (filter_take hlt fun x => badAt F.next g.prio.length g.prio s who x.toNat)
        rw [hj] at hc1 Hs
        rw [Int.toNat_natCast] at Hs
        clear hj
        have hjl : (j : Int) < g.prio.length := by omega
        have hkl : (k : Int) < s.length := by omega
        have hlen : ((s.take k).filter fun x => badAt F.next g.prio.length g.prio s who x.toNat).length ≤ s.length := length_filter_take
        have hmk := make_one elem_bool g.prio.length (by omega)
        by_cases e : ¬ ix g.prio j % 2 = who
        · have hd : (ix g.prio j % 2 == who) = false := by simpa using e
          have Hbad := Lib.hid (show badAt F.next g.prio.length g.prio s who j = bx (beyondL F.next (bx (insideL g.prio.length g.prio s (ix g.prio j))) g.prio.length (fun y => (y : Int) ∈ [(j : Int)])) j by unfold badAt; rw [decide_eq_false e]; rfl)
          clear e
          go_wp2
          clear hmk
          have hM := BArr.new wo g.prio.length
          rw [← insideL_zero g.prio.length g.prio s (ix g.prio j)] at hM
          have hbm := (Below.refl wo.heap.size wo).alloc (Nat.le_refl _) (.cells (zeros (.bool false) g.prio.length).toArray 4)
          clear hBc0 hBc1 hBc2 hc1
          generalize wo.alloc (.cells (zeros (.bool false) g.prio.length).toArray 4) = w7 at *
          go_loopw [14] (fun i wr => ∃ t : Nat, t ≤ s.length ∧ i = .int .i64 t ∧ BArr wr wo.heap.size (insideL g.prio.length g.prio (s.take t) (ix g.prio j)) ∧ Below wo.heap.size wo wr) (fun i _ => s.length - (intOf i).toNat)
          case atStart => exact ⟨0, Nat.zero_le _, rfl, hM, hbm⟩
          case round =>
            obtain ⟨t, ht, rfl, hM, hbm⟩ := hrel
            have hbms := hbm.size
            have hbw' := Below.up hbw hbm
            have hBm := hBr.below hbm (by omega)
            have hBc2 := hBm.c2
            by_cases htl : t < s.length
            · obtain ⟨a3, ha3, hc3⟩ := (hu.kept (Kept.of hbw')).at_ htl
              obtain rfl := Option.some.inj ha3
              obtain ⟨i, hi, hin⟩ := Hset.out.vert t htl
              have hip : i < g.prio.length := by rw [Hpn.out]; exact hin
              obtain ⟨a4, ha4, hc4⟩ := (hp.kept (Kept.of hbw')).at_ hip
              obtain rfl := Option.some.inj ha4
              have hc2 := (Kept.of hbm).cell hc2
              have hMc := hM.cell (k := i) (by simpa using hip)
              have hMf := hM.frozen i
              have hset := hM.set_ i (decide (ix g.prio i ≤ ix g.prio j))
              rw [← insideL_step htl hi hip] at hset
              rw [hi] at hc3
              have hil : (i : Int) < g.prio.length := by omega
              have htll : (t : Int) < s.length := by omega
              clear hi ha3 ha4
              go_wp2
              go_region
              all_goals
                go_wp2
                exact ⟨⟨t + 1, by omega, by go_num, hset, below_drw' (hbm.setCell (Nat.le_refl _) _)⟩, by simp [intOf]; omega⟩
            · obtain rfl : t = s.length := by omega
              obtain ⟨wm, rfl⟩ : ∃ wm : World, wm = wr := ⟨_, rfl⟩
              rw [List.take_length] at hM
              have Hml := Lib.hid (length_insideL g.prio.length g.prio s (ix g.prio j))
              generalize insideL g.prio.length g.prio s (ix g.prio j) = m at *
              have hMb0 := hM.bools (by rw [Hml.out]; omega)
              rw [Hml.out] at hMb0
              have hone := ione_new wm (j : Int)
              have hbt := (Below.refl wm.heap.size wm).alloc (Nat.le_refl _) (.cells #[.int .i64 (j : Int)] 2)
              have hot := Below.up hbm hbt
              have hMb := hMb0.kept (Kept.of hbt)
              have hbrt := Below.up hbr hot
              have hRows := HE.out (wm.alloc (.cells #[.int .i64 (j : Int)] 2)) (Kept.of (Below.up hbw hot)) (fun b h1 h2 => (hot.block b (by omega)).trans (hhr b h1 h2))
              have Hval := Lib.hid Hbad.out.symm
              clear Hbad
              have hVert : ∀ k, k < F.next.length → Vert (rx F.next k) F.next.length := fun k hk => by
                rw [Hnx.out, ← Hown.out]; exact Hfok.out.vert_next (by rw [Hown.out, ← Hnx.out]; exact hk)
              have HV := Lib.hid hVert
              clear hVert
              go_wp2_with fail
              refine (l1Beyond_any _ F.next _ m _ [(j : Int)] _ hRows hMb hone.one_ints (by rw [Hml.out, Hnx.out]) HV.out (fun k hk => ⟨j, by have : k = 0 := by simpa using hk
                                                                                                                                              subst this; rfl, by rw [Hnx.out]; exact hjp⟩) (by rw [Hnx.out]; exact hple) (by simp)).mono ?_
              rintro e w8 ⟨u8, rfl, ho8, hb8⟩
              have hb8o := Below.up hot hb8
              rw [Hnx.out] at ho8
              obtain ⟨A8, c8, rfl, _, _⟩ := ho8.bools.form
              obtain ⟨a8, rfl, hc8⟩ := ho8.bools.at_ (k := j) (by rw [length_beyondL]; exact hjp)
              rw [Hval.out] at hc8
              have Hbl := Lib.hid (show (beyondL F.next (bx m) g.prio.length fun y => (y : Int) ∈ [(j : Int)]).length = g.prio.length from length_beyondL ..)
              rw [Hbl.out]
              generalize badAt F.next g.prio.length g.prio s who j = bad at *
              have ho9 := hown.below hb8o (Nat.le_refl _)
              have hbs8 : w1.heap.size ≤ w8.heap.size := by have := hb8o.size; omega
              have hbr8 := Below.up hbr hb8o
              have hsr8 : w5.heap.size ≤ w8.heap.size := by have := hb8o.size; omega
              have hh8 : ∀ b, w4.heap.size ≤ b → b < w5.heap.size → w8.heap[b]? = w5.heap[b]? := fun b h1 h2 => (hb8o.block b (by omega)).trans (hhr b h1 h2)
              cases bad
              · go_wp2
                exact ⟨⟨k + 1, by omega, by go_num, by rw [Hs.out]; simpa using ho9, hbr8, hsr8, hh8, hvr⟩, by simp [intOf]; omega⟩
              · go_wp2_with (at_builtin; refine append_int _ rfl (.tmp 83) (.tmp 85) rfl w1.heap.size u9 _ rfl ho9 (j : Int) rfl (by omega) hbs8 ?_; intro v1 w10 ho1 hb1 hg1 hl1)
                have hs10 := hb1.size
                refine ⟨⟨k + 1, by omega, by go_num, by rw [Hs.out]; simpa using ho1, hbr8.trans hb1, by omega, fun b h1 h2 => ?_, fun b hb => ?_⟩, by simp [intOf]; omega⟩
                · refine (hg1.block b (by omega) fun e => ?_).trans (hh8 b h1 h2)
                  rcases hvr b e.symm with h | h <;> omega
                · rcases hl1 with h | h
                  · exact hvr b (by rw [← h]; exact hb)
                  · rw [h] at hb
                    have := Option.some.inj hb
                    exact .inr (by omega)
        · replace e := Classical.not_not.1 e
          have hd : (ix g.prio j % 2 == who) = true := by simpa using e
          have hbad : badAt F.next g.prio.length g.prio s who j = false := by unfold badAt; rw [decide_eq_true e]; rfl
          rw [hbad] at Hs
          clear e hbad
          go_wp2
          exact ⟨⟨k + 1, by omega, by go_num, by rw [Hs.out]; simpa using hown, hbr, hsr, hhr, hvr⟩, by simp [intOf]; omega⟩
      · obtain rfl : k = s.length := by omega
        rw [Hall.out, Hres.out] at hown
        go_wp2
        go_ret
        exact .mk' (hown.more (by have := hbw1.size; omega)) hbw

set_option maxHeartbeats 1000000 in
theorem specCleanIn_any (v : Value) (g : ParityD) (who : Int) (u : Value) (s : List Int) (y : Value) (plan : List Int) (w : World) (hv : IsParity w v g) (hu : Ints w u s) (hy : Ints w y plan) :
    Calls Try.prog 74 #[v, .int .i64 who, u, y] w fun e w' => e = .returned (.bool (cleanB g who s plan)) ∧ Below w.heap.size w w' := by
  obtain ⟨o, n, p, rfl, hbw, hB⟩ := parity_box hv
  cases hE : badOkB g who s plan
  · have hres : cleanB g who s plan = false := by unfold cleanB; rw [hE]; rfl
    rw [hres]; clear hres
    have Hr := Lib.hid (fun W (hW : Kept w W) => l6Right_any _ g who _ s _ plan W (hv.kept hW) (hu.kept hW) (hy.kept hW))
    rw [hE] at Hr
    go_enter Try.func74, Try.ntmps74
    have hBz := hB.lt
    have hBc0 := hB.c0
    have hBc1 := hB.c1
    have hBc2 := hB.c2
    go_wp2_with fail
    refine (Hr.out _ (Kept.of hbw)).mono ?_
    rintro e w1 ⟨rfl, hb1⟩
    clear hBc0 hBc1 hBc2 hBz
    replace hB := hB.below hb1 hB.lt
    replace hbw := Below.up hbw hb1
    have hb1s := hb1.size
    clear hb1
    have hBz := hB.lt
    have hBc0 := hB.c0
    have hBc1 := hB.c1
    have hBc2 := hB.c2
    go_wp2
    go_ret
    exact ⟨rfl, hbw⟩
  · have hres : cleanB g who s plan = ((badL g who s plan).length == (0 : Int)) := by unfold cleanB; rw [hE]; rfl
    have hG : badG g who s plan = badL g who s plan := by unfold badG; rw [hE]; rfl
    rw [hres]; clear hres
    have Hr := Lib.hid (fun W (hW : Kept w W) => l6Right_any _ g who _ s _ plan W (hv.kept hW) (hu.kept hW) (hy.kept hW))
    rw [hE] at Hr
    have Hb := Lib.hid (fun W (hW : Kept w W) => specBadLoops_any _ g who _ s _ plan W (hv.kept hW) (hu.kept hW) (hy.kept hW))
    rw [hG] at Hb
    clear hG
    go_enter Try.func74, Try.ntmps74
    have hBz := hB.lt
    have hBc0 := hB.c0
    have hBc1 := hB.c1
    have hBc2 := hB.c2
    go_wp2_with fail
    refine (Hr.out _ (Kept.of hbw)).mono ?_
    rintro e w1 ⟨rfl, hb1⟩
    clear hBc0 hBc1 hBc2 hBz
    replace hB := hB.below hb1 hB.lt
    replace hbw := Below.up hbw hb1
    have hb1s := hb1.size
    clear hb1
    have hBz := hB.lt
    have hBc0 := hB.c0
    have hBc1 := hB.c1
    have hBc2 := hB.c2
    go_wp2_with fail
    refine (Hb.out _ (Kept.of hbw)).mono ?_
    rintro e w9 ⟨u9, rfl, ho9, hb9⟩
    obtain ⟨A9, c9, rfl, _⟩ := ho9.ints.form
    go_wp2
    go_ret
    exact ⟨rfl, Below.up hbw hb9⟩

theorem winsG_spec (g : ParityD) (who : Int) (s plan : List Int) : winsG g who s plan = (cleanB g who s plan && closedG g.arena who s plan) := by
  unfold winsG winsB cleanB closedG
  cases hE : badOkB g who s plan
  · rfl
  · have h : checkB g.arena who s plan = true := by unfold badOkB at hE; exact (Bool.and_eq_true _ _ ▸ hE).2
    rw [h, Bool.true_and, Bool.true_and, Bool.true_and, Bool.and_comm]
set_option maxHeartbeats 1000000 in
theorem specWinsBy_any (v : Value) (g : ParityD) (who : Int) (u : Value) (s : List Int) (y : Value) (plan : List Int) (w : World) (hv : IsParity w v g) (hu : Ints w u s) (hy : Ints w y plan) :
    Calls Try.prog 36 #[v, .int .i64 who, u, y] w fun e w' => e = .returned (.bool (winsG g who s plan)) ∧ Below w.heap.size w w' := by
  obtain ⟨o, n, p, rfl, hbw, hB⟩ := parity_box hv
  obtain ⟨ha, hp⟩ := hv.parts
  rw [winsG_spec]
  have Hr := Lib.hid (fun W (hW : Kept w W) => specCleanIn_any _ g who _ s _ plan W (hv.kept hW) (hu.kept hW) (hy.kept hW))
  cases hE : cleanB g who s plan
  · rw [hE] at Hr
    go_enter Try.func36, Try.ntmps36
    have hBz := hB.lt
    have hBc0 := hB.c0
    have hBc1 := hB.c1
    have hBc2 := hB.c2
    go_wp2_with fail
    refine (Hr.out _ (Kept.of hbw)).mono ?_
    rintro e w1 ⟨rfl, hb1⟩
    clear hBc0 hBc1 hBc2 hBz
    replace hB := hB.below hb1 hB.lt
    replace hbw := Below.up hbw hb1
    have hb1s := hb1.size
    clear hb1
    have hBz := hB.lt
    have hBc0 := hB.c0
    have hBc1 := hB.c1
    have hBc2 := hB.c2
    go_wp2
    go_ret
    exact ⟨rfl, hbw⟩
  · rw [hE] at Hr
    rw [Bool.true_and]
    go_enter Try.func36, Try.ntmps36
    have hBz := hB.lt
    have hBc0 := hB.c0
    have hBc1 := hB.c1
    have hBc2 := hB.c2
    go_wp2_with fail
    refine (Hr.out _ (Kept.of hbw)).mono ?_
    rintro e w1 ⟨rfl, hb1⟩
    clear hBc0 hBc1 hBc2 hBz
    replace hB := hB.below hb1 hB.lt
    replace hbw := Below.up hbw hb1
    have hb1s := hb1.size
    clear hb1
    have hBz := hB.lt
    have hBc0 := hB.c0
    have hBc1 := hB.c1
    have hBc2 := hB.c2
    go_wp2_with fail
    refine (specClosedIn_any _ g.arena who _ s _ plan _ (ha.kept (Kept.of hbw)) (hu.kept (Kept.of hbw)) (hy.kept (Kept.of hbw))).mono ?_
    rintro e w2 ⟨rfl, hb2⟩
    clear hBc0 hBc1 hBc2 hBz
    replace hB := hB.below hb2 hB.lt
    replace hbw := Below.up hbw hb2
    have hb2s := hb2.size
    clear hb2
    have hBz := hB.lt
    have hBc0 := hB.c0
    have hBc1 := hB.c1
    have hBc2 := hB.c2
    go_wp2
    go_ret
    exact ⟨rfl, hbw⟩
end Go.Proofs.Ytogfpalgnjlfcaa
