/- Texts of this claim that go together: BadWalks, EdgesWalks, BadWalks2. Conditions: those that each theorem names. -/
import Derived.Test.YtogfpalgnjlfcaaBadPlain
import Derived.Test.YtogfpalgnjlfcaaReachWalks
import Derived.Test.YtogfpalgnjlfcaaPkB
import Derived.Test.YtogfpalgnjlfcaaPkA
/- The walk of the program's badLoops. -/
namespace Go.Proofs.Ytogfpalgnjlfcaa
set_option linter.unusedSimpArgs false
set_option linter.unusedVariables false
open Go.RowKit

theorem below_drw' {B : Nat} {a w : World} (h : Below B a w) : Below B a w.drew := ⟨h.os, h.tape, h.output, h.size, h.block⟩
set_option maxRecDepth 100000 in
set_option maxHeartbeats 4000000 in
theorem badLoops_any (v : Value) (g : ParityD) (who : Int) (u : Value) (s : List Int) (y : Value) (plan : List Int) (w : World) (hv : IsParity w v g) (hu : Ints w u s) (hy : Ints w y plan) (hok : ParityOk g) (hck : CheckOk g.arena who s plan) :
    Calls Try.prog 73 #[v, .int .i64 who, u, y] w (RetInts w (badL g who s plan)) := by
  obtain ⟨o, n, p, rfl, hbw, hB⟩ := parity_box hv
  obtain ⟨ha, hp⟩ := hv.parts
  obtain ⟨A, c, rfl, hlc, hcm⟩ := hp.form
  obtain ⟨US, uc, rfl, huc, hum⟩ := hu.form
  obtain ⟨YS, yc, rfl, hyc, hym⟩ := hy.form
  have hle := hck.arena.le
  have hsl := hck.set.length_le
  have hfok := fixA_ok hck.arena hck.plan
  go_enter Try.func73, Try.ntmps73
  have hBz := hB.lt
  have hBc0 := hB.c0
  have hBc1 := hB.c1
  have hBc2 := hB.c2
  go_wp2_with fail
  refine (fixedBy_any _ g.arena _ plan _ (ha.kept (Kept.of hbw)) (hy.kept (Kept.of hbw)) hck.arena hck.plan.len).mono ?_
  rintro e w1 ⟨u1, rfl, h1, hb1⟩
  obtain ⟨o1, n1, vs1, rfl, hoi1, hrw1, hne1⟩ := h1
  clear hBc0 hBc1 hBc2 hBz
  replace hB := hB.below hb1 hB.lt
  replace hbw := Below.up hbw hb1
  have hb1s := hb1.size
  clear hb1
  have hBz := hB.lt
  have hBc0 := hB.c0
  have hBc1 := hB.c1
  have hBc2 := hB.c2
  have hL0 : Arr (w1.alloc (.cells #[.slice none 0 0, .slice none 0 0] 30)) w1.heap.size 30 [.slice none 0 0, .slice none 0 0] := Arr.new _ _ _
  have hLc0 := hL0.c0
  have hLc1 := hL0.c1
  have hLf0 := hL0.frozen 0
  have hLf1 := hL0.frozen 1
  obtain ⟨N1, nc, rfl, _⟩ := hrw1.rows.form
  obtain ⟨O1, oc, rfl, _⟩ := hoi1.1.ints.form
  go_wp2
  clear hLc0 hLc1 hLf0 hLf1
  clear hBc0 hBc1 hBc2 hBz
  have hL : Arr (w1.alloc (.cells #[.slice O1 (fixA g.arena plan).owner.length oc, .slice N1 (fixA g.arena plan).next.length nc] 30)) w1.heap.size 30 [.slice O1 (fixA g.arena plan).owner.length oc, .slice N1 (fixA g.arena plan).next.length nc] := Arr.new _ _ _
  have hb2 := (Below.refl w1.heap.size w1).alloc (Nat.le_refl _) (.cells #[.slice O1 (fixA g.arena plan).owner.length oc, .slice N1 (fixA g.arena plan).next.length nc] 30)
  have hE1 : IsArena w1 (.agg #[.slice O1 (fixA g.arena plan).owner.length oc, .slice N1 (fixA g.arena plan).next.length nc]) (fixA g.arena plan) := OA.arena ⟨_, _, _, rfl, hoi1, hrw1, hne1⟩
  have hE2 := hE1.kept (Kept.of hb2)
  have hB2 := hB.below hb2 hB.lt
  have hbw2 := Below.up hbw hb2
  have hsz2 : (w1.alloc (.cells #[.slice O1 (fixA g.arena plan).owner.length oc, .slice N1 (fixA g.arena plan).next.length nc] 30)).heap.size = w1.heap.size + 1 := by simp
  obtain ⟨hown, hbn⟩ := new_ints (w1.alloc (.cells #[.slice O1 (fixA g.arena plan).owner.length oc, .slice N1 (fixA g.arena plan).next.length nc] 30))
  have hw1 := hbw.size
  have hBlt := hB.lt
  clear hE1 hB hbw hoi1 hrw1 hne1 hL0 hb2 hb1s
  generalize w1.alloc (.cells #[.slice O1 (fixA g.arena plan).owner.length oc, .slice N1 (fixA g.arena plan).next.length nc] 30) = w2 at *
  rw [← hsz2]
  generalize w2.alloc (.cells #[] 2) = w3 at *
  obtain ⟨X, hX⟩ : ∃ X, w1.heap.size = X := ⟨_, rfl⟩
  rw [hX] at hw1 hBlt hL hsz2 ⊢
  clear hX
  have hX2 : X < w2.heap.size := by omega
  clear hsz2
  have Hpn := Lib.hid hok.len
  have Hnx := Lib.hid (show (fixA g.arena plan).next.length = g.prio.length by simp [fixA, hck.arena.len, hok.len])
  have Hres := Lib.hid (show s.filter (fun x => badAt (fixA g.arena plan).next g.prio.length g.prio s who x.toNat) = badL g who s plan from rfl)
  generalize badL g who s plan = R at *
  have Hall := Lib.hid (filter_all s fun x => badAt (fixA g.arena plan).next g.prio.length g.prio s who x.toNat)
  have HE := Lib.hid hE2
  have hown1 : (fixA g.arena plan).owner.length = g.prio.length := by rw [hok.len]; rfl
  have Hown := Lib.hid hown1
  clear hown1 hE2
  have Hfok := Lib.hid hfok
  clear hfok
  have Hpr := Lib.hid hok.prio
  have Hset := Lib.hid hck.set
  have hple : g.prio.length ≤ 256 := by rw [hok.len]; exact hle
  clear hok hck
  generalize fixA g.arena plan = F at *
  go_loopw [10, 26] (fun v i wr => ∃ k : Nat, k ≤ s.length ∧ i = .int .i64 k ∧ OwnInts wr w2.heap.size v ((s.take k).filter fun x => badAt F.next g.prio.length g.prio s who x.toNat) ∧ Below w2.heap.size w2 wr) (fun _ i _ => s.length - (intOf i).toNat)
  case atStart => exact ⟨0, Nat.zero_le _, rfl, by simpa using hown, hbn⟩
  case round =>
    obtain ⟨k, hk, rfl, hown, hbr⟩ := hrel
    obtain ⟨wo, rfl⟩ : ∃ wo : World, wo = wr := ⟨_, rfl⟩
    have hbs := hbr.size
    have hbw := Below.up hbw2 hbr
    have hBr := hB2.below hbr (by omega)
    have hBc2 := hBr.c2
    have hLr := hL.below hbr (by omega)
    have hLc0 := hLr.c0
    have hLc1 := hLr.c1
    by_cases hlt : k < s.length
    · obtain ⟨a1, rfl, hc1⟩ := ((hu.kept (Kept.of hbw))).at_ hlt
      obtain ⟨j, hj, hjn⟩ := Hset.out.vert k hlt
      have hjp : j < g.prio.length := by rw [Hpn.out]; exact hjn
      obtain ⟨a2, rfl, hc2⟩ := ((hp.kept (Kept.of hbw))).at_ hjp
      have hpj := (Hpr.out j hjp).1
      have Hs := Lib.hid (filter_take hlt fun x => badAt F.next g.prio.length g.prio s who x.toNat)
      rw [hj] at hc1 Hs
      rw [Int.toNat_natCast] at Hs
      clear hj
      have hjl : (j : Int) < g.prio.length := by omega
      have hlen : ((s.take k).filter fun x => badAt F.next g.prio.length g.prio s who x.toNat).length ≤ s.length := length_filter_take
      have hmk := make_one elem_bool g.prio.length (by omega)
      by_cases e : ¬ ix g.prio j % 2 = who
      · have hd : (ix g.prio j % 2 == who) = false := by simpa using e
        have Hbad := Lib.hid (show badAt F.next g.prio.length g.prio s who j = bx (beyondL F.next (bx (insideL g.prio.length g.prio s (ix g.prio j))) g.prio.length (fun y => (y : Int) ∈ [(j : Int)])) j by unfold badAt; rw [decide_eq_false e]; rfl)
        clear e
        go_wp2
        clear hmk
        have hM := BArr.new wo g.prio.length
        rw [← insideL_zero g.prio.length g.prio s (ix g.prio j)] at hM
        have hbm := (Below.refl wo.heap.size wo).alloc (Nat.le_refl _) (.cells (zeros (.bool false) g.prio.length).toArray 4)
        clear hBc2 hLc0 hLc1 hc1
        generalize wo.alloc (.cells (zeros (.bool false) g.prio.length).toArray 4) = w5 at *
        go_loopw [44] (fun i wr => ∃ t : Nat, t ≤ s.length ∧ i = .int .i64 t ∧ BArr wr wo.heap.size (insideL g.prio.length g.prio (s.take t) (ix g.prio j)) ∧ Below wo.heap.size wo wr) (fun i _ => s.length - (intOf i).toNat)
        case atStart => exact ⟨0, Nat.zero_le _, rfl, hM, hbm⟩
        case round =>
          obtain ⟨t, ht, rfl, hM, hbm⟩ := hrel
          have hbms := hbm.size
          have hbw' := Below.up hbw hbm
          have hBm := hBr.below hbm (by omega)
          have hBc2 := hBm.c2
          by_cases htl : t < s.length
          · obtain ⟨a3, ha3, hc3⟩ := (hu.kept (Kept.of hbw')).at_ htl
            obtain rfl := Option.some.inj ha3
            obtain ⟨i, hi, hin⟩ := Hset.out.vert t htl
            have hip : i < g.prio.length := by rw [Hpn.out]; exact hin
            obtain ⟨a4, ha4, hc4⟩ := (hp.kept (Kept.of hbw')).at_ hip
            obtain rfl := Option.some.inj ha4
            have hc2 := (Kept.of hbm).cell hc2
            have hMc := hM.cell (k := i) (by simpa using hip)
            have hMf := hM.frozen i
            have hset := hM.set_ i (decide (ix g.prio i ≤ ix g.prio j))
            rw [← insideL_step htl hi hip] at hset
            rw [hi] at hc3
            have hil : (i : Int) < g.prio.length := by omega
            clear hi ha3 ha4
            go_wp2
            go_region
            all_goals
              go_wp2
              exact ⟨⟨t + 1, by omega, by go_num, hset, below_drw' (hbm.setCell (Nat.le_refl _) _)⟩, by simp [intOf]; omega⟩
          · obtain rfl : t = s.length := by omega
            obtain ⟨wm, rfl⟩ : ∃ wm : World, wm = wr := ⟨_, rfl⟩
            rw [List.take_length] at hM
            have Hml := Lib.hid (length_insideL g.prio.length g.prio s (ix g.prio j))
            generalize insideL g.prio.length g.prio s (ix g.prio j) = m at *
            clear hBc2
            have hmk := make_one elem_bool g.prio.length (by omega)
            have hMlt := hM.lt
            have hS := BArr.new wm g.prio.length
            rw [← startL_zero g.prio.length m (rx F.next j)] at hS
            have hbt := (Below.refl wm.heap.size wm).alloc (Nat.le_refl _) (.cells (zeros (.bool false) g.prio.length).toArray 4)
            have hbwt := Below.up hbw' hbt
            have hBt := hBm.below hbt (by omega)
            have hBc2m := hBm.c2
            have hBc2 := hBt.c2
            have hLt := (hLr.below hbm (by omega)).below hbt (by omega)
            have hLc1 := hLt.c1
            have hMt := hM.below hbt hMlt
            have hbrm := Below.up hbr hbm
            obtain ⟨a5, R5, q5, rfl, hc5, hrow⟩ := HE.out.parts.2.at_ (k := j) (by rw [Hnx.out]; exact hjp)
            replace hc5 := (Kept.of (Below.up hbrm hbt)).cell hc5
            have hjl2 : (j : Int) < F.next.length := by rw [Hnx.out]; exact hjl
            have hvn := Lib.hid (show Vert (rx F.next j) g.prio.length by rw [← Hown.out]; exact Hfok.out.vert_next (by rw [Hown.out]; exact hjp))
            have hdeg := (Hfok.out.deg (v := j) (by rw [Hown.out]; exact hjp)).2
            obtain ⟨R5', q5', he5, _, _⟩ := hrow.form
            simp only [Value.slice.injEq, true_and] at he5
            obtain ⟨rfl, rfl⟩ := he5
            go_wp2
            clear hmk
            have Hval := Lib.hid (show bx (reachL F.next (bx m) F.owner.length (fun x => bx (startL g.prio.length m (rx F.next j)) x = true)) j = badAt F.next g.prio.length g.prio s who j by rw [Hown.out, reach_start hjp hvn.out, Hbad.out])
            clear Hbad
            generalize rx F.next j = row at *
            generalize badAt F.next g.prio.length g.prio s who j = bad at *
            have hrow0 := hrow
            have hbrt := Below.up hbrm hbt
            have hot := Below.up hbm hbt
            have hsp := hbt.size
            clear hbms hc5 hBc2 hLc1 hBc2m hc2
            generalize wm.alloc (.cells (zeros (.bool false) g.prio.length).toArray 4) = w6 at *
            go_loopw [73] (fun i wr => ∃ t : Nat, t ≤ row.length ∧ i = .int .i64 t ∧ BArr wr wm.heap.size (startL g.prio.length m (row.take t)) ∧ Below wm.heap.size wm wr) (fun i _ => row.length - (intOf i).toNat)
            case atStart => exact ⟨0, Nat.zero_le _, rfl, hS, hbt⟩
            case round =>
              obtain ⟨t, ht, rfl, hS, hbx⟩ := hrel
              have hMx := hM.below hbx hMlt
              by_cases htl : t < row.length
              · obtain ⟨a6, rfl, hc6⟩ := (hrow.kept (Kept.of (Below.up hbrm hbx))).at_ htl
                obtain ⟨i, hi, hip⟩ := hvn.out t htl
                have hMc := hMx.cell (k := i) (by rw [Hml.out]; exact hip)
                have hSc := hS.cell (k := i) (by simpa using hip)
                have hSf := hS.frozen i
                have hset := hS.set_ i (bx m i)
                rw [← startL_step htl hi hip] at hset
                rw [hi] at hc6
                have hil : (i : Int) < g.prio.length := by omega
                clear hi
                go_wp2
                exact ⟨⟨t + 1, by omega, by go_num, hset, hbx.setCell (Nat.le_refl _) _⟩, by simp [intOf]; omega⟩
              · obtain rfl : t = row.length := by omega
                rw [List.take_length] at hS
                obtain ⟨wq, rfl⟩ : ∃ wq : World, wq = wr := ⟨_, rfl⟩
                have hbrx := Below.up hbrm hbx
                have hLq := (hLr.below hbm (by omega)).below hbx (by omega)
                have hLc0 := hLq.c0
                have hLc1 := hLq.c1
                have hSb := hS.bools (by simp; omega)
                have hMb := hMx.bools (by rw [Hml.out]; omega)
                rw [length_startL] at hSb
                rw [Hml.out] at hMb
                go_wp2_with fail
                refine (reachIn_in _ F _ _ _ m _ (HE.out.kept (Kept.of hbrx)) hSb hMb (by rw [Hml.out, Hown.out]) Hfok.out (by rw [length_startL, Hown.out])).mono ?_
                rintro e w7 ⟨u7, rfl, ho7, hb7⟩
                have hb7o := Below.up (Below.up hbm hbx) hb7
                obtain ⟨A7, c7, rfl, _, _⟩ := ho7.bools.form
                obtain ⟨a7, rfl, hc7⟩ := ho7.bools.at_ (k := j) (by rw [length_reachL, Hown.out]; exact hjp)
                have Hrl := Lib.hid (show (reachL F.next (bx m) F.owner.length fun x => bx (startL g.prio.length m row) x = true).length = g.prio.length by rw [length_reachL, Hown.out])
                rw [Hval.out] at hc7
                rw [Hrl.out]
                have ho9 := hown.below hb7o (Nat.le_refl _)
                have hbs7 : w2.heap.size ≤ w7.heap.size := by have := hb7o.size; omega
                have hbr7 := Below.up hbr hb7o
                cases bad
                · go_wp2
                  exact ⟨⟨k + 1, by omega, by go_num, by rw [Hs.out]; simpa using ho9, hbr7⟩, by simp [intOf]; omega⟩
                · go_wp2_with (at_builtin; refine append_int _ rfl (.tmp 92) (.tmp 94) rfl w2.heap.size u10 _ rfl ho9 (j : Int) rfl (by omega) hbs7 ?_; intro v1 w8 ho1 hb1 hg1 hl1)
                  exact ⟨⟨k + 1, by omega, by go_num, by rw [Hs.out]; simpa using ho1, hbr7.trans hb1⟩, by simp [intOf]; omega⟩
      · replace e := Classical.not_not.1 e
        have hd : (ix g.prio j % 2 == who) = true := by simpa using e
        have hbad : badAt F.next g.prio.length g.prio s who j = false := by unfold badAt; rw [decide_eq_true e]; rfl
        rw [hbad] at Hs
        clear e hbad
        go_wp2
        exact ⟨⟨k + 1, by omega, by go_num, by rw [Hs.out]; simpa using hown, hbr⟩, by simp [intOf]; omega⟩
    · obtain rfl : k = s.length := by omega
      rw [Hall.out, Hres.out] at hown
      go_wp2
      go_ret
      exact .mk' (hown.more (by have := hbw2.size; omega)) hbw
end Go.Proofs.Ytogfpalgnjlfcaa

/- The walk of the reference's l6Edges: rows that are the arena's own or made anew. -/
namespace Go.Proofs.Ytogfpalgnjlfcaa
set_option linter.unusedSimpArgs false
set_option linter.unusedVariables false
open Go.RowKit

/-- A slice of rows of the call's own, from block B on; each row reads already in w0, or is one new element. -/
structure Lent (w0 : World) (B : Nat) (w : World) (v : Value) (vs : List Value) (ll : List (List Int)) : Prop where
  len : vs.length = ll.length
  own : w.ownsRow B 27 1 v ll.length vs
  row : ∀ k, k < ll.length → Ints w0 (vx vs k) (rx ll k) ∨ ∃ (G : Nat) (x : Int), B ≤ G ∧ G < w.heap.size ∧ v.ownBlock ≠ some G ∧ vx vs k = .slice (some ⟨G, 0, none⟩) 1 1 ∧ rx ll k = [x] ∧ IArr w G [x]
theorem vx_snoc_l {vs : List Value} {y : Value} {k : Nat} (hk : k < vs.length) : vx (vs ++ [y]) k = vx vs k := by
  rw [vx_lt (by simp; omega), vx_lt (by omega), List.getElem_append_left (by omega)]
theorem rx_snoc_l {ll : List (List Int)} {l : List Int} {k : Nat} (hk : k < ll.length) : rx (ll ++ [l]) k = rx ll k := by
  rw [rx_lt (by simp; omega), rx_lt hk, List.getElem_append_left hk]
theorem Lent.snoc {w0 w w' : World} {B : Nat} {v v' y : Value} {vs : List Value} {ll : List (List Int)} {l : List Int} (h : Lent w0 B w v vs ll)
    (hy : Ints w0 y l ∨ ∃ (G : Nat) (x : Int), B ≤ G ∧ G < w'.heap.size ∧ v'.ownBlock ≠ some G ∧ y = .slice (some ⟨G, 0, none⟩) 1 1 ∧ l = [x] ∧ IArr w' G [x])
    (hown : w'.ownsRow B 27 1 v' (ll.length + 1) (vs ++ [y])) (hg : w.grownBy w' v.ownBlock) (hd : v'.ownBlock = v.ownBlock ∨ ∃ m, v'.ownBlock = some m ∧ w.heap.size ≤ m) : Lent w0 B w' v' (vs ++ [y]) (ll ++ [l]) := by
  have hl := h.len
  refine ⟨by simp [hl], by simpa using hown, fun k hk => ?_⟩
  by_cases e : k = ll.length
  · subst e
    have h1 : vx (vs ++ [y]) ll.length = y := by rw [vx_lt (by simp; omega), List.getElem_append_right (by omega)]; simp [hl]
    have h2 : rx (ll ++ [l]) ll.length = l := by rw [rx_lt (by simp)]; simp
    rw [h1, h2]
    exact hy
  · have hk' : k < ll.length := by simp at hk; omega
    rw [vx_snoc_l (by omega), rx_snoc_l hk']
    rcases h.row k hk' with h1 | ⟨G, x, h1, h2, h3, h4, h5, h6⟩
    · exact .inl h1
    · refine .inr ⟨G, x, h1, Nat.lt_of_lt_of_le h2 hg.size, ?_, h4, h5, h6.heap' (hg.block G h2 fun e => h3 e.symm)⟩
      rcases hd with hd | ⟨m, hd, hm⟩
      · rw [hd]; exact h3
      · rw [hd]; intro e; have := Option.some.inj e; omega
theorem Lent.rows {w0 w W : World} {B : Nat} {v : Value} {vs : List Value} {ll : List (List Int)} (h : Lent w0 B w v vs ll) (hk : Kept w0 W) (hh : ∀ b, B ≤ b → b < w.heap.size → W.heap[b]? = w.heap[b]?) : Rows W v ll := by
  have hown : W.ownsRow B 27 1 v ll.length vs := by
    refine ⟨h.own.1, ?_⟩
    rcases h.own.2 with h1 | ⟨g, cap, cur, rfl, hB, hg, rest⟩
    · exact .inl h1
    · exact .inr ⟨g, cap, cur, rfl, hB, (hh g hB (Array.getElem?_eq_some_iff.1 hg).1).trans hg, rest⟩
  refine ⟨vx vs, (SlF.of_own hown).congr fun k hk => rfl, fun k hkk => ?_⟩
  rcases h.row k hkk with h1 | ⟨G, x, h1, h2, h3, h4, h5, h6⟩
  · exact h1.kept hk
  · rw [h4, h5]
    exact (h6.heap' (hh G h1 h2)).one_ints
theorem fixTo_take {a : ArenaD} {plan : List Int} {k : Nat} (hk : k < a.next.length) : (fixTo a plan a.next.length).take (k + 1) = (fixTo a plan a.next.length).take k ++ [fixAt a plan k] := by
  have h1 : k < (fixTo a plan a.next.length).length := by simpa using hk
  rw [List.take_succ_eq_append_getElem h1]
  congr 2
  have := rx_fixTo (a := a) (plan := plan) (k := a.next.length) hk
  rw [if_pos hk, rx_lt h1] at this
  exact this

/-- append_one, where the walk has reckoned the place of the new cell. -/
theorem append_oneK {ops : Array Oper} {rest : List Oper} {o : Oper} {a : Act} {Q : Exit → Act → World → Prop} {t e : TypeId} {z : Value} (E : Elem t e z) (w0 : World) (hgd : o.guard = none) (s x : Operand)
    (ho : o.op = .call { callee := .builtin .append, args := #[s, x], argTypes := #[t, t] })
    (B : Nat) (v : Value) (n : Nat) (xs : List Value) (hs : a.eval s = v) (hown : w0.ownsRow B e 1 v n xs) (y : Value) (hy : y.oneCell' = true) (H : Nat) (hH : w0.heap.size = H)
    (hx : a.eval x = .slice (some ⟨H, 0, none⟩) 1 1) (hn : n ≤ 1099511627776) (hB : B ≤ w0.heap.size)
    (h : ∀ v' w', w'.ownsRow B e 1 v' (n + 1) (xs ++ [y]) → w0.grownBy w' v.ownBlock → (v'.ownBlock = v.ownBlock ∨ v'.ownBlock = some (w0.heap.size + 1)) → wpList Try.prog ops Q rest (a.put o.dst v') w') :
    wpList Try.prog ops Q (o :: rest) a (w0.alloc (.cells #[y] e)) := by
  subst hH
  exact append_one E w0 hgd s x ho B v n xs hs hown y hy hx hn hB h

set_option maxRecDepth 100000 in
set_option maxHeartbeats 1000000 in
theorem l6Edges_any (v : Value) (a : ArenaD) (u : Value) (plan : List Int) (w0 w : World) (hv0 : IsArena w0 v a) (hk0 : Kept w0 w) (hu : Ints w u plan) (hpl : plan.length = a.next.length) (hn1 : a.next.length ≤ 256) :
    Calls Try.prog 77 #[v, u] w fun e w' => ∃ r, e = .returned r ∧ (∀ W, Kept w0 W → (∀ b, w.heap.size ≤ b → b < w'.heap.size → W.heap[b]? = w'.heap[b]?) → Rows W r (fixTo a plan a.next.length)) ∧ Below w.heap.size w w' := by
  have hv := hv0.kept hk0
  obtain ⟨o, n, rfl, hbw, hB⟩ := arena_open hv
  obtain ⟨ho, hn⟩ := hv.parts
  obtain ⟨N, nc, rfl, hnc, hnm⟩ := hn.form
  have hn0 := hv0.parts.2
  obtain ⟨US, uc, rfl, huc, hum⟩ := hu.form
  have hn9 : Lent w0 w.heap.size ((w.alloc (.cells #[o, .slice N a.next.length nc] 30)).alloc (.cells #[] 27)) (.slice (some ⟨w.heap.size + 1, 0, none⟩) 0 0) [] [] := by
    refine ⟨rfl, ?_, fun k hk => by simp at hk⟩
    have := World.ownsRow_made (w.alloc (.cells #[o, .slice N a.next.length nc] 30)) (e := 27) (size := 1) (base := w.heap.size) #[] 0 (by simp) (by unfold maxLen; omega) (by simp)
    simpa using this
  have hbn := hbw.alloc hbw.size (.cells #[] 27)
  have hB2 := hB.alloc (.cells #[] 27)
  have Hall := Lib.hid (show (fixTo a plan a.next.length).take a.next.length = fixTo a plan a.next.length from List.take_of_length_le (by simp))
  have Hst := Lib.hid (fun k => fixTo_take (a := a) (plan := plan) (k := k))
  have hlE : (fixTo a plan a.next.length).length = a.next.length := by simp
  have HlE := Lib.hid hlE
  clear hlE
  have Hpl := Lib.hid hpl
  clear hpl
  go_enter Try.func77, Try.ntmps77
  go_wp2
  generalize (w.alloc (.cells #[o, .slice N a.next.length nc] 30)).alloc (.cells #[] 27) = w1 at *
  generalize hE : fixTo a plan a.next.length = E at *
  have Hres := Lib.hid hE
  clear hE
  go_loopw [5, 6] (fun v i wr => ∃ (k : Nat) (vs : List Value), k ≤ a.next.length ∧ i = .int .i64 k ∧ Lent w0 w.heap.size wr v vs (E.take k) ∧ Below w.heap.size w wr ∧ Arr wr w.heap.size 30 [o, .slice N a.next.length nc] ∧ v.ownBlock ≠ some w.heap.size) (fun _ i _ => a.next.length - (intOf i).toNat)
  case atStart => exact ⟨0, [], Nat.zero_le _, rfl, by simpa using hn9, hbn, hB2, by simp [Value.ownBlock]⟩
  case round =>
    obtain ⟨k, vs, hk, rfl, hL, hbr, hBr, hnb⟩ := hrel
    have hbs := hbr.size
    have hBc1 := hBr.c1
    by_cases hlt : k < a.next.length
    · have Hs := Lib.hid (Hst.out k hlt)
      have hlk : (E.take k).length = k := by rw [List.length_take, HlE.out]; omega
      obtain ⟨a1, rfl, hc1⟩ := (hu.kept (Kept.of hbr)).at_ (k := k) (by rw [Hpl.out]; exact hlt)
      have hkl : (k : Int) < plan.length := by rw [Hpl.out]; omega
      have hkl2 : (k : Int) < a.next.length := by omega
      by_cases e : 0 ≤ ix plan k
      · have hd : decide (0 ≤ ix plan k) = true := decide_eq_true e
        have hx : fixAt a plan k = [ix plan k] := if_pos e
        rw [hx] at Hs
        clear hx
        have hown := hL.own
        rw [hlk] at hown
        have hown1 := hown.alloc (.cells #[.int .i64 (ix plan k)] 2)
        have hH1 : (wr.alloc (.cells #[.int .i64 (ix plan k)] 2)).heap.size = wr.heap.size + 1 := by simp
        go_wp2_with (at_builtin; refine append_oneK elem_rows (wr.alloc (.cells #[.int .i64 (ix plan k)] 2)) rfl (.tmp 20) (.tmp 26) rfl w.heap.size u5 _ vs rfl hown1 (.slice (some ⟨wr.heap.size, 0, none⟩) 1 1) rfl (wr.heap.size + 1) hH1 rfl (by omega) (by omega) ?_; intro v7 w7 ho7 hg7 hl7)
        have hult := fun b hb => (hown.lt b hb).2
        have hg : wr.grownBy w7 u5.ownBlock := ⟨hg7.os, hg7.tape, hg7.output, by have := hg7.size; omega, fun k hk hne => (hg7.block k (by omega) hne).trans (Below.heap_alloc wr _ k hk)⟩
        have hG : IArr w7 wr.heap.size [ix plan k] := (ione_new wr (ix plan k)).heap' (hg7.block _ (by omega) fun e => by have := hult _ e.symm; omega)
        have hd7 : v7.ownBlock = u5.ownBlock ∨ ∃ m, v7.ownBlock = some m ∧ wr.heap.size < m := hl7.imp id fun h => ⟨_, h, by omega⟩
        have hn7 : v7.ownBlock ≠ some wr.heap.size := by
          rcases hd7 with h | ⟨m, h, hm⟩
          · rw [h]; intro e; have := hult _ e; omega
          · rw [h]; intro e; have := Option.some.inj e; omega
        have hLn := hL.snoc (.inr ⟨wr.heap.size, _, hbs, by have := hg7.size; omega, hn7, rfl, rfl, hG⟩) (by rw [hlk]; exact ho7) hg (hd7.imp id fun ⟨m, h, hm⟩ => ⟨m, h, by omega⟩)
        have hbz := hBr.lt
        refine ⟨⟨k + 1, _, by omega, by go_num, by rw [Hs.out]; exact hLn, hbr.grown hg hbs fun b hb => (hown.lt b hb).1, Eq.trans (hg.block _ hbz fun e => hnb e.symm) hBr, ?_⟩, by simp [intOf]; omega⟩
        rcases hd7 with h | ⟨m, h, hm⟩
        · rw [h]; exact hnb
        · rw [h]; intro e; have := Option.some.inj e; omega
      · have hd : decide (0 ≤ ix plan k) = false := decide_eq_false e
        have hx : fixAt a plan k = rx a.next k := if_neg e
        rw [hx] at Hs
        clear hx
        obtain ⟨a3, R, q, h3, hc3, hrow⟩ := hn0.at_ hlt
        subst h3
        replace hc3 := (Kept.of hbr).cell (hk0.cell hc3)
        have hown := hL.own
        rw [hlk] at hown
        go_wp2_with (at_builtin; refine append_one elem_rows wr rfl (.tmp 28) (.tmp 34) rfl w.heap.size u5 _ vs rfl hown (.slice R (rx a.next k).length q) rfl rfl (by omega) (by omega) ?_; intro v7 w7 ho7 hg7 hl7)
        have hd7 : v7.ownBlock = u5.ownBlock ∨ ∃ m, v7.ownBlock = some m ∧ wr.heap.size < m := hl7.imp id fun h => ⟨_, h, by omega⟩
        have hLn := hL.snoc (.inl hrow) (by rw [hlk]; exact ho7) hg7 (hd7.imp id fun ⟨m, h, hm⟩ => ⟨m, h, by omega⟩)
        have hbz := hBr.lt
        refine ⟨⟨k + 1, _, by omega, by go_num, by rw [Hs.out]; exact hLn, hbr.grown hg7 hbs fun b hb => (hown.lt b hb).1, Eq.trans (hg7.block _ hbz fun e => hnb e.symm) hBr, ?_⟩, by simp [intOf]; omega⟩
        rcases hd7 with h | ⟨m, h, hm⟩
        · rw [h]; exact hnb
        · rw [h]; intro e; have := Option.some.inj e; omega
    · obtain rfl : k = a.next.length := by omega
      rw [Hall.out] at hL
      go_wp2
      go_ret
      exact ⟨u5, rfl, fun W hW hh => by rw [Hres.out]; exact hL.rows hW hh, hbr⟩
end Go.Proofs.Ytogfpalgnjlfcaa

/- The walks of BadLoops, CleanIn and WinsBy. -/
namespace Go.Proofs.Ytogfpalgnjlfcaa
set_option linter.unusedSimpArgs false
set_option linter.unusedVariables false
open Go.RowKit

def badOkB (g : ParityD) (who : Int) (s plan : List Int) : Bool := parityOkB g && checkB g.arena who s plan
noncomputable def badG (g : ParityD) (who : Int) (s plan : List Int) : List Int := if badOkB g who s plan then badL g who s plan else []
theorem badOkB_spec (g : ParityD) (who : Int) (s plan : List Int) : badOkB g who s plan = (parityOkB g && (planOkB g.arena who plan && isSetB s g.prio.length)) := by
  unfold badOkB
  cases hE : parityOkB g
  · rfl
  · rw [checkB_spec, (parityOkB_iff.1 hE).len]
theorem badG_len (g : ParityD) (who : Int) (s plan : List Int) : (badG g who s plan).length ≤ 1048576 := by
  unfold badG
  split
  · rename_i h
    unfold badOkB at h
    rw [Bool.and_eq_true] at h
    have h2 := checkB_iff.1 h.2
    have := h2.set.length_le
    have := h2.arena.le
    have := badL_len g who s plan
    omega
  · simp

set_option maxHeartbeats 1000000 in
theorem l6Right_any (v : Value) (g : ParityD) (who : Int) (u : Value) (s : List Int) (y : Value) (plan : List Int) (w : World) (hv : IsParity w v g) (hu : Ints w u s) (hy : Ints w y plan) :
    Calls Try.prog 76 #[v, .int .i64 who, u, y] w fun e w' => e = .returned (.bool (badOkB g who s plan)) ∧ Below w.heap.size w w' := by
  obtain ⟨o, n, p, rfl, hbw, hB⟩ := parity_box hv
  obtain ⟨ha, hp⟩ := hv.parts
  rw [badOkB_spec]
  cases hE : parityOkB g
  · skip
    go_enter Try.func76, Try.ntmps76
    have hBz := hB.lt
    have hBc0 := hB.c0
    have hBc1 := hB.c1
    have hBc2 := hB.c2
    go_wp2_with fail
    refine (specParityOk_any _ g _ (hv.kept (Kept.of hbw))).mono ?_
    rintro e w1 ⟨rfl, hb1⟩
    clear hBc0 hBc1 hBc2 hBz
    replace hB := hB.below hb1 hB.lt
    replace hbw := Below.up hbw hb1
    have hb1s := hb1.size
    clear hb1
    have hBz := hB.lt
    have hBc0 := hB.c0
    have hBc1 := hB.c1
    have hBc2 := hB.c2
    go_wp2
    go_ret
    exact ⟨rfl, hbw⟩
  · cases hE2 : planOkB g.arena who plan
    · skip
      go_enter Try.func76, Try.ntmps76
      have hBz := hB.lt
      have hBc0 := hB.c0
      have hBc1 := hB.c1
      have hBc2 := hB.c2
      go_wp2_with fail
      refine (specParityOk_any _ g _ (hv.kept (Kept.of hbw))).mono ?_
      rintro e w1 ⟨rfl, hb1⟩
      clear hBc0 hBc1 hBc2 hBz
      replace hB := hB.below hb1 hB.lt
      replace hbw := Below.up hbw hb1
      have hb1s := hb1.size
      clear hb1
      have hBz := hB.lt
      have hBc0 := hB.c0
      have hBc1 := hB.c1
      have hBc2 := hB.c2
      go_wp2_with fail
      refine (specPlanOk_any _ g.arena who _ plan _ (ha.kept (Kept.of hbw)) (hy.kept (Kept.of hbw))).mono ?_
      rintro e w2 ⟨rfl, hb2⟩
      clear hBc0 hBc1 hBc2 hBz
      replace hB := hB.below hb2 hB.lt
      replace hbw := Below.up hbw hb2
      have hb2s := hb2.size
      clear hb2
      have hBz := hB.lt
      have hBc0 := hB.c0
      have hBc1 := hB.c1
      have hBc2 := hB.c2
      go_wp2
      go_ret
      exact ⟨rfl, hbw⟩
    · skip
      go_enter Try.func76, Try.ntmps76
      have hBz := hB.lt
      have hBc0 := hB.c0
      have hBc1 := hB.c1
      have hBc2 := hB.c2
      go_wp2_with fail
      refine (specParityOk_any _ g _ (hv.kept (Kept.of hbw))).mono ?_
      rintro e w1 ⟨rfl, hb1⟩
      clear hBc0 hBc1 hBc2 hBz
      replace hB := hB.below hb1 hB.lt
      replace hbw := Below.up hbw hb1
      have hb1s := hb1.size
      clear hb1
      have hBz := hB.lt
      have hBc0 := hB.c0
      have hBc1 := hB.c1
      have hBc2 := hB.c2
      go_wp2_with fail
      refine (specPlanOk_any _ g.arena who _ plan _ (ha.kept (Kept.of hbw)) (hy.kept (Kept.of hbw))).mono ?_
      rintro e w2 ⟨rfl, hb2⟩
      clear hBc0 hBc1 hBc2 hBz
      replace hB := hB.below hb2 hB.lt
      replace hbw := Below.up hbw hb2
      have hb2s := hb2.size
      clear hb2
      have hBz := hB.lt
      have hBc0 := hB.c0
      have hBc1 := hB.c1
      have hBc2 := hB.c2
      go_wp2_with fail
      refine (l4Set_any _ g _ s _ (hv.kept (Kept.of hbw)) (hu.kept (Kept.of hbw))).mono ?_
      rintro e w3 ⟨rfl, hb3⟩
      clear hBc0 hBc1 hBc2 hBz
      replace hB := hB.below hb3 hB.lt
      replace hbw := Below.up hbw hb3
      have hb3s := hb3.size
      clear hb3
      have hBz := hB.lt
      have hBc0 := hB.c0
      have hBc1 := hB.c1
      have hBc2 := hB.c2
      go_wp2
      go_ret
      exact ⟨rfl, hbw⟩

set_option maxHeartbeats 1000000 in
theorem BadLoops_any (v : Value) (g : ParityD) (who : Int) (u : Value) (s : List Int) (y : Value) (plan : List Int) (w : World) (hv : IsParity w v g) (hu : Ints w u s) (hy : Ints w y plan) :
    Calls Try.prog 35 #[v, .int .i64 who, u, y] w (RetInts w (badG g who s plan)) := by
  obtain ⟨o, n, p, rfl, hbw, hB⟩ := parity_box hv
  obtain ⟨ha, hp⟩ := hv.parts
  cases hE : parityOkB g
  · have hres : badG g who s plan = [] := by unfold badG badOkB; rw [hE]; rfl
    rw [hres]; clear hres
    go_enter Try.func35, Try.ntmps35
    have hBz := hB.lt
    have hBc0 := hB.c0
    have hBc1 := hB.c1
    have hBc2 := hB.c2
    go_wp2_with fail
    refine (ParityOk_any _ g _ (hv.kept (Kept.of hbw))).mono ?_
    rintro e w1 ⟨rfl, hb1⟩
    clear hBc0 hBc1 hBc2 hBz
    replace hB := hB.below hb1 hB.lt
    replace hbw := Below.up hbw hb1
    have hb1s := hb1.size
    clear hb1
    have hBz := hB.lt
    have hBc0 := hB.c0
    have hBc1 := hB.c1
    have hBc2 := hB.c2
    go_wp2
    go_ret
    exact .mk' (OwnInts.nil _ _) hbw
  · cases hE2 : checkB g.arena who s plan
    · have hres : badG g who s plan = [] := by unfold badG badOkB; rw [hE, hE2]; rfl
      rw [hres]; clear hres
      go_enter Try.func35, Try.ntmps35
      have hBz := hB.lt
      have hBc0 := hB.c0
      have hBc1 := hB.c1
      have hBc2 := hB.c2
      go_wp2_with fail
      refine (ParityOk_any _ g _ (hv.kept (Kept.of hbw))).mono ?_
      rintro e w1 ⟨rfl, hb1⟩
      clear hBc0 hBc1 hBc2 hBz
      replace hB := hB.below hb1 hB.lt
      replace hbw := Below.up hbw hb1
      have hb1s := hb1.size
      clear hb1
      have hBz := hB.lt
      have hBc0 := hB.c0
      have hBc1 := hB.c1
      have hBc2 := hB.c2
      go_wp2_with fail
      refine (canCheck_any _ g.arena who _ s _ plan _ (ha.kept (Kept.of hbw)) (hu.kept (Kept.of hbw)) (hy.kept (Kept.of hbw))).mono ?_
      rintro e w2 ⟨rfl, hb2⟩
      clear hBc0 hBc1 hBc2 hBz
      replace hB := hB.below hb2 hB.lt
      replace hbw := Below.up hbw hb2
      have hb2s := hb2.size
      clear hb2
      have hBz := hB.lt
      have hBc0 := hB.c0
      have hBc1 := hB.c1
      have hBc2 := hB.c2
      go_wp2
      go_ret
      exact .mk' (OwnInts.nil _ _) hbw
    · have hres : badG g who s plan = badL g who s plan := by unfold badG badOkB; rw [hE, hE2]; rfl
      rw [hres]; clear hres
      go_enter Try.func35, Try.ntmps35
      have hBz := hB.lt
      have hBc0 := hB.c0
      have hBc1 := hB.c1
      have hBc2 := hB.c2
      go_wp2_with fail
      refine (ParityOk_any _ g _ (hv.kept (Kept.of hbw))).mono ?_
      rintro e w1 ⟨rfl, hb1⟩
      clear hBc0 hBc1 hBc2 hBz
      replace hB := hB.below hb1 hB.lt
      replace hbw := Below.up hbw hb1
      have hb1s := hb1.size
      clear hb1
      have hBz := hB.lt
      have hBc0 := hB.c0
      have hBc1 := hB.c1
      have hBc2 := hB.c2
      go_wp2_with fail
      refine (canCheck_any _ g.arena who _ s _ plan _ (ha.kept (Kept.of hbw)) (hu.kept (Kept.of hbw)) (hy.kept (Kept.of hbw))).mono ?_
      rintro e w2 ⟨rfl, hb2⟩
      clear hBc0 hBc1 hBc2 hBz
      replace hB := hB.below hb2 hB.lt
      replace hbw := Below.up hbw hb2
      have hb2s := hb2.size
      clear hb2
      have hBz := hB.lt
      have hBc0 := hB.c0
      have hBc1 := hB.c1
      have hBc2 := hB.c2
      go_wp2_with fail
      refine (badLoops_any _ g who _ s _ plan _ (hv.kept (Kept.of hbw)) (hu.kept (Kept.of hbw)) (hy.kept (Kept.of hbw)) (parityOkB_iff.1 hE) (checkB_iff.1 hE2)).mono ?_
      rintro e w9 ⟨u9, rfl, ho9, hb9⟩
      go_wp2
      go_ret
      exact .at_ hbw ho9 hb9

noncomputable def cleanB (g : ParityD) (who : Int) (s plan : List Int) : Bool := badOkB g who s plan && ((badL g who s plan).length == (0 : Int))
set_option maxHeartbeats 1000000 in
theorem CleanIn_any (v : Value) (g : ParityD) (who : Int) (u : Value) (s : List Int) (y : Value) (plan : List Int) (w : World) (hv : IsParity w v g) (hu : Ints w u s) (hy : Ints w y plan) :
    Calls Try.prog 38 #[v, .int .i64 who, u, y] w fun e w' => e = .returned (.bool (cleanB g who s plan)) ∧ Below w.heap.size w w' := by
  obtain ⟨o, n, p, rfl, hbw, hB⟩ := parity_box hv
  obtain ⟨ha, hp⟩ := hv.parts
  cases hE : parityOkB g
  · have hres : cleanB g who s plan = false := by unfold cleanB badOkB; rw [hE]; rfl
    rw [hres]; clear hres
    go_enter Try.func38, Try.ntmps38
    have hBz := hB.lt
    have hBc0 := hB.c0
    have hBc1 := hB.c1
    have hBc2 := hB.c2
    go_wp2_with fail
    refine (ParityOk_any _ g _ (hv.kept (Kept.of hbw))).mono ?_
    rintro e w1 ⟨rfl, hb1⟩
    clear hBc0 hBc1 hBc2 hBz
    replace hB := hB.below hb1 hB.lt
    replace hbw := Below.up hbw hb1
    have hb1s := hb1.size
    clear hb1
    have hBz := hB.lt
    have hBc0 := hB.c0
    have hBc1 := hB.c1
    have hBc2 := hB.c2
    go_wp2
    go_ret
    exact ⟨rfl, hbw⟩
  · cases hE2 : checkB g.arena who s plan
    · have hres : cleanB g who s plan = false := by unfold cleanB badOkB; rw [hE, hE2]; rfl
      rw [hres]; clear hres
      go_enter Try.func38, Try.ntmps38
      have hBz := hB.lt
      have hBc0 := hB.c0
      have hBc1 := hB.c1
      have hBc2 := hB.c2
      go_wp2_with fail
      refine (ParityOk_any _ g _ (hv.kept (Kept.of hbw))).mono ?_
      rintro e w1 ⟨rfl, hb1⟩
      clear hBc0 hBc1 hBc2 hBz
      replace hB := hB.below hb1 hB.lt
      replace hbw := Below.up hbw hb1
      have hb1s := hb1.size
      clear hb1
      have hBz := hB.lt
      have hBc0 := hB.c0
      have hBc1 := hB.c1
      have hBc2 := hB.c2
      go_wp2_with fail
      refine (canCheck_any _ g.arena who _ s _ plan _ (ha.kept (Kept.of hbw)) (hu.kept (Kept.of hbw)) (hy.kept (Kept.of hbw))).mono ?_
      rintro e w2 ⟨rfl, hb2⟩
      clear hBc0 hBc1 hBc2 hBz
      replace hB := hB.below hb2 hB.lt
      replace hbw := Below.up hbw hb2
      have hb2s := hb2.size
      clear hb2
      have hBz := hB.lt
      have hBc0 := hB.c0
      have hBc1 := hB.c1
      have hBc2 := hB.c2
      go_wp2
      go_ret
      exact ⟨rfl, hbw⟩
    · have hres : cleanB g who s plan = ((badL g who s plan).length == (0 : Int)) := by unfold cleanB badOkB; rw [hE, hE2]; rfl
      rw [hres]; clear hres
      go_enter Try.func38, Try.ntmps38
      have hBz := hB.lt
      have hBc0 := hB.c0
      have hBc1 := hB.c1
      have hBc2 := hB.c2
      go_wp2_with fail
      refine (ParityOk_any _ g _ (hv.kept (Kept.of hbw))).mono ?_
      rintro e w1 ⟨rfl, hb1⟩
      clear hBc0 hBc1 hBc2 hBz
      replace hB := hB.below hb1 hB.lt
      replace hbw := Below.up hbw hb1
      have hb1s := hb1.size
      clear hb1
      have hBz := hB.lt
      have hBc0 := hB.c0
      have hBc1 := hB.c1
      have hBc2 := hB.c2
      go_wp2_with fail
      refine (canCheck_any _ g.arena who _ s _ plan _ (ha.kept (Kept.of hbw)) (hu.kept (Kept.of hbw)) (hy.kept (Kept.of hbw))).mono ?_
      rintro e w2 ⟨rfl, hb2⟩
      clear hBc0 hBc1 hBc2 hBz
      replace hB := hB.below hb2 hB.lt
      replace hbw := Below.up hbw hb2
      have hb2s := hb2.size
      clear hb2
      have hBz := hB.lt
      have hBc0 := hB.c0
      have hBc1 := hB.c1
      have hBc2 := hB.c2
      go_wp2_with fail
      refine (badLoops_any _ g who _ s _ plan _ (hv.kept (Kept.of hbw)) (hu.kept (Kept.of hbw)) (hy.kept (Kept.of hbw)) (parityOkB_iff.1 hE) (checkB_iff.1 hE2)).mono ?_
      rintro e w9 ⟨u9, rfl, ho9, hb9⟩
      obtain ⟨A9, c9, rfl, _⟩ := ho9.ints.form
      go_wp2
      go_ret
      exact ⟨rfl, Below.up hbw hb9⟩

noncomputable def winsB (g : ParityD) (who : Int) (s plan : List Int) : Bool := closedL g.arena who s plan && ((badL g who s plan).length == (0 : Int))
noncomputable def winsG (g : ParityD) (who : Int) (s plan : List Int) : Bool := badOkB g who s plan && winsB g who s plan
set_option maxHeartbeats 1000000 in
theorem winsBy_any (v : Value) (g : ParityD) (who : Int) (u : Value) (s : List Int) (y : Value) (plan : List Int) (w : World) (hv : IsParity w v g) (hu : Ints w u s) (hy : Ints w y plan) (hok : ParityOk g) (hck : CheckOk g.arena who s plan) :
    Calls Try.prog 72 #[v, .int .i64 who, u, y] w fun e w' => e = .returned (.bool (winsB g who s plan)) ∧ Below w.heap.size w w' := by
  obtain ⟨o, n, p, rfl, hbw, hB⟩ := parity_box hv
  obtain ⟨ha, hp⟩ := hv.parts
  cases hE : closedL g.arena who s plan
  · have hres : winsB g who s plan = false := by unfold winsB; rw [hE]; rfl
    rw [hres]; clear hres
    go_enter Try.func72, Try.ntmps72
    have hBz := hB.lt
    have hBc0 := hB.c0
    have hBc1 := hB.c1
    have hBc2 := hB.c2
    go_wp2_with fail
    refine (closedIn_any _ g.arena who _ s _ plan _ (ha.kept (Kept.of hbw)) (hu.kept (Kept.of hbw)) (hy.kept (Kept.of hbw)) hck).mono ?_
    rintro e w1 ⟨rfl, hb1⟩
    clear hBc0 hBc1 hBc2 hBz
    replace hB := hB.below hb1 hB.lt
    replace hbw := Below.up hbw hb1
    have hb1s := hb1.size
    clear hb1
    have hBz := hB.lt
    have hBc0 := hB.c0
    have hBc1 := hB.c1
    have hBc2 := hB.c2
    go_wp2
    go_ret
    exact ⟨rfl, hbw⟩
  · have hres : winsB g who s plan = ((badL g who s plan).length == (0 : Int)) := by unfold winsB; rw [hE]; rfl
    rw [hres]; clear hres
    go_enter Try.func72, Try.ntmps72
    have hBz := hB.lt
    have hBc0 := hB.c0
    have hBc1 := hB.c1
    have hBc2 := hB.c2
    go_wp2_with fail
    refine (closedIn_any _ g.arena who _ s _ plan _ (ha.kept (Kept.of hbw)) (hu.kept (Kept.of hbw)) (hy.kept (Kept.of hbw)) hck).mono ?_
    rintro e w1 ⟨rfl, hb1⟩
    clear hBc0 hBc1 hBc2 hBz
    replace hB := hB.below hb1 hB.lt
    replace hbw := Below.up hbw hb1
    have hb1s := hb1.size
    clear hb1
    have hBz := hB.lt
    have hBc0 := hB.c0
    have hBc1 := hB.c1
    have hBc2 := hB.c2
    go_wp2_with fail
    refine (badLoops_any _ g who _ s _ plan _ (hv.kept (Kept.of hbw)) (hu.kept (Kept.of hbw)) (hy.kept (Kept.of hbw)) hok hck).mono ?_
    rintro e w9 ⟨u9, rfl, ho9, hb9⟩
    obtain ⟨A9, c9, rfl, _⟩ := ho9.ints.form
    go_wp2
    go_ret
    exact ⟨rfl, Below.up hbw hb9⟩

set_option maxHeartbeats 1000000 in
theorem WinsBy_any (v : Value) (g : ParityD) (who : Int) (u : Value) (s : List Int) (y : Value) (plan : List Int) (w : World) (hv : IsParity w v g) (hu : Ints w u s) (hy : Ints w y plan) :
    Calls Try.prog 34 #[v, .int .i64 who, u, y] w fun e w' => e = .returned (.bool (winsG g who s plan)) ∧ Below w.heap.size w w' := by
  obtain ⟨o, n, p, rfl, hbw, hB⟩ := parity_box hv
  obtain ⟨ha, hp⟩ := hv.parts
  cases hE : parityOkB g
  · have hres : winsG g who s plan = false := by unfold winsG badOkB; rw [hE]; rfl
    rw [hres]; clear hres
    go_enter Try.func34, Try.ntmps34
    have hBz := hB.lt
    have hBc0 := hB.c0
    have hBc1 := hB.c1
    have hBc2 := hB.c2
    go_wp2_with fail
    refine (ParityOk_any _ g _ (hv.kept (Kept.of hbw))).mono ?_
    rintro e w1 ⟨rfl, hb1⟩
    clear hBc0 hBc1 hBc2 hBz
    replace hB := hB.below hb1 hB.lt
    replace hbw := Below.up hbw hb1
    have hb1s := hb1.size
    clear hb1
    have hBz := hB.lt
    have hBc0 := hB.c0
    have hBc1 := hB.c1
    have hBc2 := hB.c2
    go_wp2
    go_ret
    exact ⟨rfl, hbw⟩
  · cases hE2 : checkB g.arena who s plan
    · have hres : winsG g who s plan = false := by unfold winsG badOkB; rw [hE, hE2]; rfl
      rw [hres]; clear hres
      go_enter Try.func34, Try.ntmps34
      have hBz := hB.lt
      have hBc0 := hB.c0
      have hBc1 := hB.c1
      have hBc2 := hB.c2
      go_wp2_with fail
      refine (ParityOk_any _ g _ (hv.kept (Kept.of hbw))).mono ?_
      rintro e w1 ⟨rfl, hb1⟩
      clear hBc0 hBc1 hBc2 hBz
      replace hB := hB.below hb1 hB.lt
      replace hbw := Below.up hbw hb1
      have hb1s := hb1.size
      clear hb1
      have hBz := hB.lt
      have hBc0 := hB.c0
      have hBc1 := hB.c1
      have hBc2 := hB.c2
      go_wp2_with fail
      refine (canCheck_any _ g.arena who _ s _ plan _ (ha.kept (Kept.of hbw)) (hu.kept (Kept.of hbw)) (hy.kept (Kept.of hbw))).mono ?_
      rintro e w2 ⟨rfl, hb2⟩
      clear hBc0 hBc1 hBc2 hBz
      replace hB := hB.below hb2 hB.lt
      replace hbw := Below.up hbw hb2
      have hb2s := hb2.size
      clear hb2
      have hBz := hB.lt
      have hBc0 := hB.c0
      have hBc1 := hB.c1
      have hBc2 := hB.c2
      go_wp2
      go_ret
      exact ⟨rfl, hbw⟩
    · have hres : winsG g who s plan = winsB g who s plan := by unfold winsG badOkB; rw [hE, hE2]; rfl
      rw [hres]; clear hres
      go_enter Try.func34, Try.ntmps34
      have hBz := hB.lt
      have hBc0 := hB.c0
      have hBc1 := hB.c1
      have hBc2 := hB.c2
      go_wp2_with fail
      refine (ParityOk_any _ g _ (hv.kept (Kept.of hbw))).mono ?_
      rintro e w1 ⟨rfl, hb1⟩
      clear hBc0 hBc1 hBc2 hBz
      replace hB := hB.below hb1 hB.lt
      replace hbw := Below.up hbw hb1
      have hb1s := hb1.size
      clear hb1
      have hBz := hB.lt
      have hBc0 := hB.c0
      have hBc1 := hB.c1
      have hBc2 := hB.c2
      go_wp2_with fail
      refine (canCheck_any _ g.arena who _ s _ plan _ (ha.kept (Kept.of hbw)) (hu.kept (Kept.of hbw)) (hy.kept (Kept.of hbw))).mono ?_
      rintro e w2 ⟨rfl, hb2⟩
      clear hBc0 hBc1 hBc2 hBz
      replace hB := hB.below hb2 hB.lt
      replace hbw := Below.up hbw hb2
      have hb2s := hb2.size
      clear hb2
      have hBz := hB.lt
      have hBc0 := hB.c0
      have hBc1 := hB.c1
      have hBc2 := hB.c2
      go_wp2_with fail
      refine (winsBy_any _ g who _ s _ plan _ (hv.kept (Kept.of hbw)) (hu.kept (Kept.of hbw)) (hy.kept (Kept.of hbw)) (parityOkB_iff.1 hE) (checkB_iff.1 hE2)).mono ?_
      rintro e w3 ⟨rfl, hb3⟩
      clear hBc0 hBc1 hBc2 hBz
      replace hB := hB.below hb3 hB.lt
      replace hbw := Below.up hbw hb3
      have hb3s := hb3.size
      clear hb3
      have hBz := hB.lt
      have hBc0 := hB.c0
      have hBc1 := hB.c1
      have hBc2 := hB.c2
      go_wp2
      go_ret
      exact ⟨rfl, hbw⟩
end Go.Proofs.Ytogfpalgnjlfcaa
