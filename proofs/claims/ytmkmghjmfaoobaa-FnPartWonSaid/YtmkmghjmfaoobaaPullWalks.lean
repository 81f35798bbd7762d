/- The walk of the solver's pull: the attractor within a part. Conditions: the arena is valid, the marks have its length. -/
import Derived.Test.YtmkmghjmfaoobaaPkC
import Derived.Test.YtmkmghjmfaoobaaPrevWalks
import Derived.Test.YtmkmghjmfaoobaaWinWalks
namespace Go.Proofs.Ytmkmghjmfaoobaa
set_option linter.unusedSimpArgs false
set_option linter.unusedVariables false
open Go.RowKit

theorem int_info : (Try.prog.info? 3).map (fun i => (i.zero, i.size, i.bytes)) = some (some (.int .i64 0), 1, 8) := by kernel_rfl
theorem elem_int : Elem 129 3 (.int .i64 0) := Elem.mk' Try.underlying129 int_info (by omega) rfl
theorem Arr.ne_own {w : World} {g B n s : Nat} {e e' : TypeId} {xs xs' : List Value} {v : Value} (h : Arr w g e xs) (k : w.ownsRow B e' s v n xs') (hne : e ≠ e') : v.ownBlock ≠ some g := by
  intro hb
  rcases k.2 with ⟨rfl, _⟩ | ⟨g', cap', cur', rfl, _, hg', _⟩
  · simp [Value.ownBlock] at hb
  · simp only [Value.ownBlock, Option.some.injEq] at hb
    subst hb
    have h' := h
    unfold Arr at h'
    rw [hg'] at h'
    simp only [Option.some.injEq, Obj.cells.injEq] at h'
    exact hne h'.2.1.symm
theorem Arr.ne_q {w : World} {g B : Nat} {e : TypeId} {xs : List Value} {v : Value} {l : List Int} (h : Arr w g e xs) (k : OwnQ w B v l) (hne : e ≠ 2) : v.ownBlock ≠ some g := by
  intro hb
  rcases k with ⟨rfl, _⟩ | ⟨g', off, cap, cur, rfl, _, hg', _⟩
  · simp [Value.ownBlock] at hb
  · simp only [Value.ownBlock, Option.some.injEq] at hb
    subst hb
    have h' := h
    unfold Arr at h'
    rw [hg'] at h'
    simp only [Option.some.injEq, Obj.cells.injEq] at h'
    exact hne h'.2.1.symm
theorem int_ne_bool : (3 : TypeId) ≠ 4 := by decide
theorem int_ne_int64 : (3 : TypeId) ≠ 2 := by decide
/-- Block g is an array of ints that holds l. -/
def NArr (w : World) (g : Nat) (l : List Int) : Prop := Arr w g 3 (l.map (Value.int .i64))
theorem NArr.cell {w : World} {g : Nat} {l : List Int} (h : NArr w g l) {k : Nat} (hk : k < l.length) : w.cell? ⟨g, k, none⟩ = some (.int .i64 (ix l k)) := by
  have := Arr.cell h (k := k) (by simpa using hk)
  simpa [ix, hk] using this
theorem NArr.frozen {w : World} {g : Nat} {l : List Int} (h : NArr w g l) (k : Nat) : w.frozen? ⟨g, k, none⟩ = false := Arr.frozen h k
theorem NArr.set_ {w : World} {g : Nat} {l : List Int} (h : NArr w g l) (k : Nat) (x : Int) : NArr (w.setCell ⟨g, k, none⟩ (.int .i64 x)) g (l.set k x) := by
  have := Arr.set_ h k (.int .i64 x)
  unfold NArr
  rwa [List.map_set]
theorem NArr.new (w : World) (n : Nat) : NArr (w.alloc (.cells (zeros (.int .i64 0) n).toArray 3)) w.heap.size (List.replicate n 0) := by
  have := Arr.new w 3 (zeros (.int .i64 0) n)
  unfold NArr
  rwa [List.map_replicate]
theorem NArr.lt' {w : World} {g : Nat} {l : List Int} (h : NArr w g l) : g < w.heap.size := Arr.lt h
theorem NArr.heap {w w' : World} {g : Nat} {l : List Int} (h : NArr w g l) (hh : w'.heap[g]? = w.heap[g]?) : NArr w' g l := Eq.trans hh h

/-- s is a solver's block of game a, p. -/
structure IsSolver (w : World) (S : Nat) (a : ArenaD) (p : List Int) (o n pv q : Value) : Prop where
  arr : Arr w S 113 [o, n, pv, q]
  owner : Ints w o a.owner
  next : Rows w n a.next
  prio : Ints w pv p
  prev : Rows w q (prevL a.next a.owner.length)
theorem IsSolver.below {w w' : World} {S : Nat} {a : ArenaD} {p : List Int} {o n pv q : Value} (h : IsSolver w S a p o n pv q) (hb : Below w.heap.size w w') : IsSolver w' S a p o n pv q :=
  ⟨h.arr.below hb h.arr.lt, h.owner.kept (Kept.of hb), h.next.kept (Kept.of hb), h.prio.kept (Kept.of hb), h.prev.kept (Kept.of hb)⟩

set_option maxRecDepth 100000 in
set_option maxHeartbeats 4000000 in
theorem pull_any (S : Nat) (a : ArenaD) (p : List Int) (o n pv q : Value) (who : Int) (u : Value) (m : List Bool) (z : Value) (gl : List Bool) (w : World) (hS : IsSolver w S a p o n pv q) (hu : Bools w u m) (hz : Bools w z gl)
    (hok : ArenaOk a) (hm : m.length = a.owner.length) (hg : gl.length = a.owner.length) (hgm : ∀ x, On gl x → On m x) :
    Calls Try.prog 113 #[.pointer (some ⟨S, 0, none⟩), .int .i64 who, u, z] w (RetBools w (attL (duel a.owner p a.next) who a.owner.length (On m) (On gl))) := by
  obtain ⟨A1, c1, rfl, hlc1, hcm1⟩ := hS.owner.form
  obtain ⟨A2, c2, rfl, hlc2, hcm2⟩ := hS.next.form
  obtain ⟨A3, c3, rfl, hlc3, hcm3⟩ := hS.prev.form
  obtain ⟨UA, uc, rfl, huc, hum⟩ := hu.form
  obtain ⟨ZA, zc, rfl, hzc, hzm⟩ := hz.form
  have hle := hok.le
  have hpos := hok.pos
  have Hlen := Lib.hid hok.len
  have Hm := Lib.hid hm
  have Hg := Lib.hid hg
  have Hgm := Lib.hid hgm
  clear hm hg hgm
  have ho := hS.owner
  have hn := hS.next
  have hq := hS.prev
  obtain ⟨hn0, hbn⟩ := new_bools w
  have hz0 := hz.kept (Kept.of hbn)
  have hmk := make_one elem_int m.length (by have := Hm.out; omega)
  have hs0 : w.heap.size ≤ (w.alloc (.cells #[] 4)).heap.size := hbn.size
  have hc1S := hS.arr.c1
  go_enter Try.func113, Try.ntmps113
  go_wp2_with (at_builtin; refine append_bools elem_bool _ rfl (.tmp 17) (.tmp 18) rfl w.heap.size _ [] rfl hn0 _ gl rfl hz0 (by have := Hg.out; simp; omega) hs0 ?_; intro v1 w1 ho1 hb1 hg1 hl1)
  rw [List.nil_append] at ho1
  replace ho1 : OwnBools w1 w.heap.size v1 gl := ho1
  obtain ⟨og, oc, rfl, hog, hogl⟩ := OwnBools.form ho1 (by have := Hg.out; omega)
  have hbw1 : Below w.heap.size w w1 := hbn.trans hb1
  have hL0 := NArr.new w1 m.length
  have hbz := (Below.refl w1.heap.size w1).alloc (Nat.le_refl _) (.cells (zeros (.int .i64 0) m.length).toArray 3)
  have ho1z := ho1.below hbz (Nat.le_refl _)
  have hbw2 := Below.up hbw1 hbz
  have hLB : w.heap.size ≤ w1.heap.size := hbw1.size
  clear hz0 hs0 hn0 hb1 hg1 hl1 hbn ho1
  go_wp2_with fail
  clear hmk
  have hLz : w1.heap.size < (w1.alloc (.cells (zeros (.int .i64 0) m.length).toArray 3)).heap.size := hL0.lt
  clear hbz
  generalize w1.alloc (.cells (zeros (.int .i64 0) m.length).toArray 3) = w2 at *
  refine (listOf_any _ gl _ (hz.kept (Kept.of hbw2)) (by have := Hg.out; omega)).mono ?_
  rintro e w3 ⟨uq, rfl, hQ, hb3⟩
  obtain ⟨A, c, rfl, hqc, hqm⟩ := hQ.ints.form
  have hO3 := ho1z.below hb3 (Nat.le_refl _)
  have hL3 := NArr.heap hL0 (hb3.block _ hLz)
  have hq3 := (OwnQ.of_own hQ).more (B' := w.heap.size) hbw2.size
  have hbw3 : Below w.heap.size w w3 := Below.up hbw2 hb3
  have hst : StQ (duel a.owner p a.next) who a.owner.length m (On gl) gl (markedL gl) (List.replicate m.length 0) :=
    StQ.start Hg.out Hgm.out (fun x => mem_markedL) (markedL_nodup gl) (fun v => by by_cases h : v < m.length <;> simp [ix, h])
  have htd0 : toDo gl (markedL gl) ≤ 1024 := by
    have := toDo_le (out := gl) (q := markedL gl)
    have := Hg.out
    have : (markedL gl).length ≤ gl.length := markedTo_len gl gl.length
    omega
  have Hst := Lib.hid hst
  have Htd0 := Lib.hid htd0
  clear hst htd0 ho1z hQ hL0 hbw2 hb3
  go_wp2
  go_loopg [11] 1024 (fun g q wx => ∃ (A : Option Addr) (nn c : Nat) (ql : List Int) (out : List Bool) (ll : List Int), q = .slice A nn c ∧ Hid (nn = ql.length) ∧ OwnQ wx w.heap.size (.slice A nn c) ql ∧ OwnBools wx w.heap.size (.slice (some ⟨og, 0, none⟩) gl.length oc) out ∧ NArr wx w1.heap.size ll ∧ Hid (out.length = a.owner.length) ∧ Hid (ll.length = a.owner.length) ∧ Hid (StQ (duel a.owner p a.next) who a.owner.length m (On gl) out ql ll) ∧ Hid (toDo out ql ≤ g) ∧ g ≤ 1024 ∧ Below w.heap.size w wx)
  case atStart => exact ⟨A, _, c, _, gl, _, rfl, Lib.hid rfl, hq3, hO3, hL3, Hg, Lib.hid (by simpa using Hm.out), Hst, Htd0, Nat.le_refl _, hbw3⟩
  case round =>
    obtain ⟨A, nn, c, ql, out, ll, rfl, Hn, hqq, hO, hL, HOl, Hll, Hlk, HM0, hgk, hbw⟩ := hrel
    obtain ⟨wo, rfl⟩ : ∃ wo : World, wo = wr := ⟨_, rfl⟩
    have hbs := hbw.size
    have hoglt := (hO.lt og rfl).2
    cases ql with
    | nil =>
      have hn0 : nn = 0 := Hn.out
      subst hn0
      have hres := Hlk.out.fin
      subst hres
      go_wp2
      go_ret
      exact .mk' hO hbw
    | cons x ql =>
      obtain ⟨k, hkx, hkn⟩ := Hlk.out.head
      subst hkx
      obtain ⟨A2, c2, hpop, hq2⟩ := hqq.pop Hn.out
      have hn1 : 0 < nn := by have := Hn.out; simp only [List.length_cons] at this; omega
      have hqi := hqq.ints
      obtain ⟨aq, rfl, hcq⟩ : ∃ aq, A = some aq ∧ wo.cell? (aq.add 0) = some (.int .i64 (k : Int)) := by
        have hl0 : (0 : Nat) < ((k : Int) :: ql).length := by simp
        have hq' : Ints wo (.slice A ((k : Int) :: ql).length c) ((k : Int) :: ql) := by rw [← Hn.out]; exact hqi
        exact hq'.at_ hl0
      have ha0 : aq.add 0 = aq := by unfold Addr.add; simp
      rw [ha0] at hcq
      clear hqi ha0
      have hSz := hS.arr.lt
      have hS1 := hS.arr.below hbw hSz
      have hc3 := hS1.cell (k := 3) (by simp)
      have hprev := hq.kept (Kept.refl w)
      obtain ⟨a2, R, r, ea, hc2, hrow⟩ := hprev.at_ (k := k) (by rw [length_prevL]; exact hkn)
      subst ea
      have hc2' := (Kept.of hbw).cell hc2
      obtain ⟨R', r', he, hrl, hrm⟩ := hrow.form
      simp only [Value.slice.injEq, true_and] at he
      obtain ⟨rfl, rfl⟩ := he
      have hkl : (k : Int) < (prevL a.next a.owner.length).length := by rw [length_prevL]; omega
      have Hat := Lib.hid (Hlk.out.pop (rx (prevL a.next a.owner.length) k))
      clear hc2
      go_wp2_with fail
      go_loopw [11, 41] (fun q i wr => ∃ (t : Nat) (A : Option Addr) (nn c : Nat) (ql : List Int) (out : List Bool) (ll : List Int), t ≤ (rx (prevL a.next a.owner.length) k).length ∧ i = .int .i64 t ∧ q = .slice A nn c ∧ Hid (nn = ql.length) ∧ OwnQ wr w.heap.size (.slice A nn c) ql ∧ OwnBools wr w.heap.size (.slice (some ⟨og, 0, none⟩) gl.length oc) out ∧ NArr wr w1.heap.size ll ∧ Hid (out.length = a.owner.length) ∧ Hid (ll.length = a.owner.length) ∧ Hid (StK (duel a.owner p a.next) who a.owner.length m (On gl) k t (rx (prevL a.next a.owner.length) k) out ql ll) ∧ Hid (toDo out ql + 1 ≤ gk) ∧ Below w.heap.size w wr) (fun _ i _ => (rx (prevL a.next a.owner.length) k).length - (intOf i).toNat)
      case atStart => exact ⟨0, A2, _, c2, _, out, ll, Nat.zero_le _, rfl, rfl, Lib.hid rfl, hq2, hO, hL, HOl, Hll, Hat, Lib.hid (by have := HM0.out; have := Hn.out; unfold toDo at *; simp only [List.length_cons] at *; omega), hbw⟩
      case round =>
        obtain ⟨t, A, nn, c, ql, out, ll, ht, rfl, rfl, Hn, hq, hO, hL, HOl, Hll, Hlk, HM, hbr⟩ := hrel
        obtain ⟨wi, rfl⟩ : ∃ wi : World, wi = wr := ⟨_, rfl⟩
        have hbs := hbr.size
        have hoglt := (hO.lt og rfl).2
        by_cases htl : t < (rx (prevL a.next a.owner.length) k).length
        · obtain ⟨a4, rfl, hc4⟩ := (hrow.kept (Kept.of hbr)).at_ htl
          obtain ⟨j, hjn, hj, hkj⟩ := (mem_prevL hkn).1 (mem_ix.2 ⟨t, htl, rfl⟩)
          rw [hj] at hc4
          have Hj := Lib.hid hj
          have Hkj := Lib.hid ((mem_toNat (hok.set hjn)).2 hkj)
          have Hnn := Lib.hid (nodup_toNat (hok.set hjn))
          have Hnd := Lib.hid (fun i (h1 : t < i) (h2 : i < (rx (prevL a.next a.owner.length) k).length) => (Int.ne_of_lt (pairwise_ix (prevL_sorted hkn) h1 h2)).symm)
          clear hj hkj
          have hjg : (j : Int) < gl.length := by rw [Hg.out]; omega
          have hjm : (j : Int) < m.length := by rw [Hm.out]; omega
          have hcO0 := hO.cell (k := j) (by rw [HOl.out]; exact hjn)
          cases e : bx out j
          · rw [e] at hcO0
            have He := Lib.hid e
            clear e
            obtain ⟨a5, rfl, hc5⟩ := (hu.kept (Kept.of hbr)).at_ (k := j) (by rw [Hm.out]; exact hjn)
            cases em : bx m j
            · rw [em] at hc5
              have Hlk2 := Lib.hid (Hlk.out.skip Hj.out (.inl (by rw [not_on]; exact em)) Hnd.out)
              clear em
              go_wp2
              exact ⟨⟨t + 1, A, nn, c, ql, out, ll, by omega, by go_num, rfl, Hn, hq, hO, hL, HOl, Hll, Hlk2, HM, hbr⟩, by simp [intOf]; omega⟩
            · rw [em] at hc5
              have Hmj : Hid (On m j) := Lib.hid em
              clear em
              have hSz := hS.arr.lt
              have hSr := hS.arr.below hbr hSz
              have hs0 := hSr.c0
              have hs1 := hSr.c1
              obtain ⟨a6, rfl, hc6⟩ := (ho.kept (Kept.of hbr)).at_ (k := j) hjn
              have hjo : (j : Int) < a.owner.length := by omega
              by_cases hw : ix a.owner j = who
              · have Hlk2 := Lib.hid (Hlk.out.mine Hj.out hjn Hmj.out He.out Hkj.out hw Hnd.out)
                have Htd := Lib.hid (toDo_take (out := out) (q := ql) (u := j) (by rw [HOl.out]; exact hjn) He.out)
                have hfO := hO.frozen (by rw [HOl.out, Hg.out]) j
                have hset := hO.set_ (by rw [HOl.out, Hg.out]) j true
                have hq1 : OwnQ (wi.setCell ⟨og, j, none⟩ (.bool true)) w.heap.size (.slice A nn c) ql := hq.heap fun b hb => Below.heap_setCell _ _ _ _ (by
                  have := hq.ne_bools hO hb
                  simp only [Value.ownBlock, ne_eq, Option.some.injEq] at this
                  simp; omega)
                have hL1 : NArr (wi.setCell ⟨og, j, none⟩ (.bool true)) w1.heap.size ll := hL.heap (Below.heap_setCell _ _ _ _ (by
                  have := Arr.ne_own hL hO int_ne_bool
                  simp only [Value.ownBlock, ne_eq, Option.some.injEq] at this
                  simp; omega))
                have hbs1 : w.heap.size ≤ (wi.setCell ⟨og, j, none⟩ (.bool true)).heap.size := by simp; omega
                have hn40 : nn ≤ 1099511627776 := by have h1 := HM.out; have h2 := Hn.out; unfold toDo at h1; omega
                have hcO1 := hO.cell (k := j) (by rw [HOl.out]; exact hjn)
                go_wp2_with (at_builtin; refine append_q (wi.setCell ⟨og, j, none⟩ (.bool true)) rfl (.tmp 111) (.tmp 113) rfl w.heap.size (.slice A nn c) ql nn Hn.out rfl hq1 (j : Int) wi.heap.size (by simp) rfl hn40 hbs1 ?_; intro A3 c3 w3 hq3 hg3)
                refine ⟨⟨t + 1, A3, nn + 1, c3, ql ++ [(j : Int)], out.set j true, ll, by omega, by go_num, rfl, Lib.hid (by rw [List.length_append, Hn.out]; rfl), hq3, ?_, ?_, Lib.hid (by rw [List.length_set]; exact HOl.out), Lib.hid (by simpa using Hll.out), Hlk2, Lib.hid (by have := Htd.out; have := HM.out; omega), ?_⟩, by simp [intOf]; omega⟩
                · exact hset.heap fun b hb => hg3.block b (hset.lt b hb).2 fun e => (hq1.ne_bools hset e.symm) hb
                · exact hL1.heap (hg3.block _ hL1.lt' fun e => Arr.ne_q hL1 hq1 int_ne_int64 e.symm)
                · exact Below.grown (hbr.setCell (by simp; omega) _) hg3 (by omega) fun b hb => (hq1.lt b hb).1
              · have Hw : Hid ((duel a.owner p a.next).own j ≠ who) := Lib.hid hw
                have hcl := hL.cell (k := j) (by rw [Hll.out]; exact hjn)
                have hfl := hL.frozen j
                by_cases hz0 : ix ll j = 0
                · rw [hz0] at hcl
                  have Hz0 := Lib.hid hz0
                  obtain ⟨a8, R8, r8, ea8, hc8, hrow8⟩ := (hn.kept (Kept.refl w)).at_ (k := j) (by rw [Hlen.out]; exact hjn)
                  subst ea8
                  have hc8' := (Kept.of hbr).cell hc8
                  obtain ⟨R8', r8', he8, hrl8, hrm8⟩ := hrow8.form
                  simp only [Value.slice.injEq, true_and] at he8
                  obtain ⟨rfl, rfl⟩ := he8
                  have hjl : (j : Int) < a.next.length := by rw [Hlen.out]; omega
                  have hvn8 := fun s hs => hok.vert_next' hjn (t := s) hs
                  have hdeg := (hok.deg hjn).2
                  have hLs : NArr wi w1.heap.size (ll.set j ((cntTo m (rx a.next j) 0 : Nat) : Int)) := by
                    have h0 : ((cntTo m (rx a.next j) 0 : Nat) : Int) = ix ll j := by rw [Hz0.out]; rfl
                    rw [h0, ix_lt (by rw [Hll.out]; exact hjn), List.set_getElem_self]
                    exact hL
                  clear hc8 hz0
                  go_wp2
                  clear hcl hfl
                  go_loopw [82] (fun i wr => ∃ s : Nat, s ≤ (rx a.next j).length ∧ i = .int .i64 s ∧ NArr wr w1.heap.size (ll.set j ((cntTo m (rx a.next j) s : Nat) : Int)) ∧ OwnQ wr w.heap.size (.slice A nn c) ql ∧ OwnBools wr w.heap.size (.slice (some ⟨og, 0, none⟩) gl.length oc) out ∧ Below w.heap.size w wr) (fun i _ => (rx a.next j).length - (intOf i).toNat)
                  case atStart => exact ⟨0, Nat.zero_le _, rfl, hLs, hq, hO, hbr⟩
                  case round =>
                    obtain ⟨s, hsl, rfl, hL, hq, hO, hbr⟩ := hrel
                    have hbs := hbr.size
                    have hoglt := (hO.lt og rfl).2
                    have hcl := hL.cell (k := j) (by rw [List.length_set, Hll.out]; exact hjn)
                    rw [set_ix (by rw [Hll.out]; exact hjn), if_pos rfl] at hcl
                    have hfl := hL.frozen j
                    have hcle := cntTo_le (m := m) (row := rx a.next j) (t := s)
                    by_cases hslt : s < (rx a.next j).length
                    · obtain ⟨a9, rfl, hc9⟩ := (hrow8.kept (Kept.of hbr)).at_ hslt
                      obtain ⟨j2, hj2, hj2n⟩ := hvn8 s hslt
                      have Hcs := Lib.hid (cntTo_succ (m := m) hslt hj2)
                      rw [hj2] at hc9
                      clear hj2
                      have hj2m : (j2 : Int) < m.length := by rw [Hm.out]; omega
                      obtain ⟨aw, ew, hcw⟩ := (hu.kept (Kept.of hbr)).at_ (k := j2) (by rw [Hm.out]; exact hj2n)
                      cases ew
                      cases em2 : bx m j2
                      · rw [em2] at hcw Hcs
                        clear em2
                        go_wp2
                        exact ⟨⟨s + 1, by omega, by go_num, by rw [Hcs.out]; simpa using hL, hq, hO, hbr⟩, by simp [intOf]; omega⟩
                      · rw [em2] at hcw Hcs
                        clear em2
                        have hLB : NArr (wr.setCell ⟨w1.heap.size, j, none⟩ (.int .i64 ((cntTo m (rx a.next j) s : Nat) + 1))) w1.heap.size (ll.set j ((cntTo m (rx a.next j) (s + 1) : Nat) : Int)) := by
                          have := hL.set_ j (((cntTo m (rx a.next j) s : Nat) : Int) + 1)
                          rw [List.set_set] at this
                          rw [Hcs.out]
                          simpa using this
                        have hOB : OwnBools (wr.setCell ⟨w1.heap.size, j, none⟩ (.int .i64 ((cntTo m (rx a.next j) s : Nat) + 1))) w.heap.size (.slice (some ⟨og, 0, none⟩) gl.length oc) out := hO.heap fun b hb => Below.heap_setCell _ _ _ _ (by
                          have := Arr.ne_own hL hO int_ne_bool
                          intro e
                          rw [hb] at this
                          exact this (by rw [e]))
                        have hqB : OwnQ (wr.setCell ⟨w1.heap.size, j, none⟩ (.int .i64 ((cntTo m (rx a.next j) s : Nat) + 1))) w.heap.size (.slice A nn c) ql := hq.heap fun b hb => Below.heap_setCell _ _ _ _ (by
                          have := Arr.ne_q hL hq int_ne_int64
                          intro e
                          rw [hb] at this
                          exact this (by rw [e]))
                        go_wp2
                        exact ⟨⟨s + 1, by omega, by go_num, hLB, hqB, hOB, hbr.setCell (by simp; omega) _⟩, by simp [intOf]; omega⟩
                    · obtain rfl : s = (rx a.next j).length := by omega
                      obtain ⟨y, hy⟩ : ∃ y : Int, ((cntTo m (rx a.next j) (rx a.next j).length : Nat) : Int) = y := ⟨_, rfl⟩
                      obtain ⟨hz1, hz2, hmore, hlast⟩ := Hlk.out.other Hj.out hjn Hmj.out He.out Hkj.out Hlk.out.at_ Hw.out Hnd.out Hnn.out Hll.out (z := y) (.inl ⟨Hz0.out, by rw [← hy, cntTo_all]; rfl⟩) htl
                      have hyl : y ≤ 256 := by simp only [duel, List.length_map] at hz2; omega
                      rw [hy] at hcl hL
                      clear hy hz2 hcle
                      have Hmore := Lib.hid hmore
                      have Hlast := Lib.hid hlast
                      clear hmore hlast
                      by_cases hg1 : 1 < y
                      · have hLA : NArr (wr.setCell ⟨w1.heap.size, j, none⟩ (.int .i64 (y - 1))) w1.heap.size (ll.set j (y - 1)) := by
                          have := hL.set_ j (y - 1)
                          rwa [List.set_set] at this
                        have hOA : OwnBools (wr.setCell ⟨w1.heap.size, j, none⟩ (.int .i64 (y - 1))) w.heap.size (.slice (some ⟨og, 0, none⟩) gl.length oc) out := hO.heap fun b hb => Below.heap_setCell _ _ _ _ (by
                          have := Arr.ne_own hL hO int_ne_bool
                          intro e
                          rw [hb] at this
                          exact this (by rw [e]))
                        have hqA : OwnQ (wr.setCell ⟨w1.heap.size, j, none⟩ (.int .i64 (y - 1))) w.heap.size (.slice A nn c) ql := hq.heap fun b hb => Below.heap_setCell _ _ _ _ (by
                          have := Arr.ne_q hL hq int_ne_int64
                          intro e
                          rw [hb] at this
                          exact this (by rw [e]))
                        have hbA := hbr.setCell (p := ⟨w1.heap.size, j, none⟩) (by simp; omega) (.int .i64 (y - 1))
                        have hy0 : 0 < y - 1 := by omega
                        go_wp2
                        exact ⟨⟨t + 1, A, nn, c, ql, out, ll.set j (y - 1), by omega, by go_num, rfl, Hn, hqA, hOA, hLA, HOl, Lib.hid (by simpa using Hll.out), Lib.hid (Hmore.out hg1), HM, hbA⟩, by simp [intOf]; omega⟩
                      · obtain rfl : y = 1 := by omega
                        have hLA : NArr (wr.setCell ⟨w1.heap.size, j, none⟩ (.int .i64 (0))) w1.heap.size (ll.set j (0)) := by
                          have := hL.set_ j (0)
                          rwa [List.set_set] at this
                        have hOA : OwnBools (wr.setCell ⟨w1.heap.size, j, none⟩ (.int .i64 (0))) w.heap.size (.slice (some ⟨og, 0, none⟩) gl.length oc) out := hO.heap fun b hb => Below.heap_setCell _ _ _ _ (by
                          have := Arr.ne_own hL hO int_ne_bool
                          intro e
                          rw [hb] at this
                          exact this (by rw [e]))
                        have hqA : OwnQ (wr.setCell ⟨w1.heap.size, j, none⟩ (.int .i64 (0))) w.heap.size (.slice A nn c) ql := hq.heap fun b hb => Below.heap_setCell _ _ _ _ (by
                          have := Arr.ne_q hL hq int_ne_int64
                          intro e
                          rw [hb] at this
                          exact this (by rw [e]))
                        have hbA := hbr.setCell (p := ⟨w1.heap.size, j, none⟩) (by simp; omega) (.int .i64 (0))
                        have Hlk2 : Hid (StK (duel a.owner p a.next) who a.owner.length m (On gl) k (t + 1) (rx (prevL a.next a.owner.length) k) (out.set j true) (ql ++ [(j : Int)]) (ll.set j 0)) := Lib.hid (Hlast.out rfl)
                        have Htd := Lib.hid (toDo_take (out := out) (q := ql) (u := j) (by rw [HOl.out]; exact hjn) He.out)
                        have hfO := hOA.frozen (by rw [HOl.out, Hg.out]) j
                        have hset := hOA.set_ (by rw [HOl.out, Hg.out]) j true
                        have hq1 : OwnQ ((wr.setCell ⟨w1.heap.size, j, none⟩ (.int .i64 0)).setCell ⟨og, j, none⟩ (.bool true)) w.heap.size (.slice A nn c) ql := hqA.heap fun b hb => Below.heap_setCell _ _ _ _ (by
                          have := hqA.ne_bools hOA hb
                          simp only [Value.ownBlock, ne_eq, Option.some.injEq] at this
                          simp; omega)
                        have hL1 : NArr ((wr.setCell ⟨w1.heap.size, j, none⟩ (.int .i64 0)).setCell ⟨og, j, none⟩ (.bool true)) w1.heap.size (ll.set j 0) := hLA.heap (Below.heap_setCell _ _ _ _ (by
                          have := Arr.ne_own hLA hOA int_ne_bool
                          simp only [Value.ownBlock, ne_eq, Option.some.injEq] at this
                          simp; omega))
                        have hbs1 : w.heap.size ≤ ((wr.setCell ⟨w1.heap.size, j, none⟩ (.int .i64 0)).setCell ⟨og, j, none⟩ (.bool true)).heap.size := by simp; omega
                        have hn40 : nn ≤ 1099511627776 := by have h1 := HM.out; have h2 := Hn.out; unfold toDo at h1; omega
                        have hcO1 := hOA.cell (k := j) (by rw [HOl.out]; exact hjn)
                        go_wp2_with (at_builtin; refine append_q ((wr.setCell ⟨w1.heap.size, j, none⟩ (.int .i64 0)).setCell ⟨og, j, none⟩ (.bool true)) rfl (.tmp 111) (.tmp 113) rfl w.heap.size (.slice A nn c) ql nn Hn.out rfl hq1 (j : Int) wr.heap.size (by simp) rfl hn40 hbs1 ?_; intro A3 c3 w3 hq3 hg3)
                        refine ⟨⟨t + 1, A3, nn + 1, c3, ql ++ [(j : Int)], out.set j true, (ll.set j 0), by omega, by go_num, rfl, Lib.hid (by rw [List.length_append, Hn.out]; rfl), hq3, ?_, ?_, Lib.hid (by rw [List.length_set]; exact HOl.out), Lib.hid (by simpa using Hll.out), Hlk2, Lib.hid (by have := Htd.out; have := HM.out; omega), ?_⟩, by simp [intOf]; omega⟩
                        · exact hset.heap fun b hb => hg3.block b (hset.lt b hb).2 fun e => (hq1.ne_bools hset e.symm) hb
                        · exact hL1.heap (hg3.block _ hL1.lt' fun e => Arr.ne_q hL1 hq1 int_ne_int64 e.symm)
                        · exact Below.grown (hbA.setCell (by simp; omega) _) hg3 (by omega) fun b hb => (hq1.lt b hb).1
                · obtain ⟨y, hy⟩ : ∃ y, ix ll j = y := ⟨_, rfl⟩
                  obtain ⟨hz1, hz2, hmore, hlast⟩ := Hlk.out.other Hj.out hjn Hmj.out He.out Hkj.out Hlk.out.at_ Hw.out Hnd.out Hnn.out Hll.out (z := y) (.inr ⟨hz0, hy.symm⟩) htl
                  have hyl : y ≤ 256 := by have h1 := (hok.deg hjn).2; simp only [duel, List.length_map] at hz2; omega
                  rw [hy] at hcl hz0
                  clear hy hz2
                  have Hmore := Lib.hid hmore
                  have Hlast := Lib.hid hlast
                  clear hmore hlast
                  by_cases hg1 : 1 < y
                  · have hLA : NArr (wi.setCell ⟨w1.heap.size, j, none⟩ (.int .i64 (y - 1))) w1.heap.size (ll.set j (y - 1)) := by
                      have := hL.set_ j (y - 1)
                      exact this
                    have hOA : OwnBools (wi.setCell ⟨w1.heap.size, j, none⟩ (.int .i64 (y - 1))) w.heap.size (.slice (some ⟨og, 0, none⟩) gl.length oc) out := hO.heap fun b hb => Below.heap_setCell _ _ _ _ (by
                      have := Arr.ne_own hL hO int_ne_bool
                      intro e
                      rw [hb] at this
                      exact this (by rw [e]))
                    have hqA : OwnQ (wi.setCell ⟨w1.heap.size, j, none⟩ (.int .i64 (y - 1))) w.heap.size (.slice A nn c) ql := hq.heap fun b hb => Below.heap_setCell _ _ _ _ (by
                      have := Arr.ne_q hL hq int_ne_int64
                      intro e
                      rw [hb] at this
                      exact this (by rw [e]))
                    have hbA := hbr.setCell (p := ⟨w1.heap.size, j, none⟩) (by simp; omega) (.int .i64 (y - 1))
                    have hy0 : 0 < y - 1 := by omega
                    go_wp2
                    exact ⟨⟨t + 1, A, nn, c, ql, out, ll.set j (y - 1), by omega, by go_num, rfl, Hn, hqA, hOA, hLA, HOl, Lib.hid (by simpa using Hll.out), Lib.hid (Hmore.out hg1), HM, hbA⟩, by simp [intOf]; omega⟩
                  · obtain rfl : y = 1 := by omega
                    have hLA : NArr (wi.setCell ⟨w1.heap.size, j, none⟩ (.int .i64 (0))) w1.heap.size (ll.set j (0)) := by
                      have := hL.set_ j (0)
                      exact this
                    have hOA : OwnBools (wi.setCell ⟨w1.heap.size, j, none⟩ (.int .i64 (0))) w.heap.size (.slice (some ⟨og, 0, none⟩) gl.length oc) out := hO.heap fun b hb => Below.heap_setCell _ _ _ _ (by
                      have := Arr.ne_own hL hO int_ne_bool
                      intro e
                      rw [hb] at this
                      exact this (by rw [e]))
                    have hqA : OwnQ (wi.setCell ⟨w1.heap.size, j, none⟩ (.int .i64 (0))) w.heap.size (.slice A nn c) ql := hq.heap fun b hb => Below.heap_setCell _ _ _ _ (by
                      have := Arr.ne_q hL hq int_ne_int64
                      intro e
                      rw [hb] at this
                      exact this (by rw [e]))
                    have hbA := hbr.setCell (p := ⟨w1.heap.size, j, none⟩) (by simp; omega) (.int .i64 (0))
                    have Hlk2 : Hid (StK (duel a.owner p a.next) who a.owner.length m (On gl) k (t + 1) (rx (prevL a.next a.owner.length) k) (out.set j true) (ql ++ [(j : Int)]) (ll.set j 0)) := Lib.hid (Hlast.out rfl)
                    have Htd := Lib.hid (toDo_take (out := out) (q := ql) (u := j) (by rw [HOl.out]; exact hjn) He.out)
                    have hfO := hOA.frozen (by rw [HOl.out, Hg.out]) j
                    have hset := hOA.set_ (by rw [HOl.out, Hg.out]) j true
                    have hq1 : OwnQ ((wi.setCell ⟨w1.heap.size, j, none⟩ (.int .i64 0)).setCell ⟨og, j, none⟩ (.bool true)) w.heap.size (.slice A nn c) ql := hqA.heap fun b hb => Below.heap_setCell _ _ _ _ (by
                      have := hqA.ne_bools hOA hb
                      simp only [Value.ownBlock, ne_eq, Option.some.injEq] at this
                      simp; omega)
                    have hL1 : NArr ((wi.setCell ⟨w1.heap.size, j, none⟩ (.int .i64 0)).setCell ⟨og, j, none⟩ (.bool true)) w1.heap.size (ll.set j 0) := hLA.heap (Below.heap_setCell _ _ _ _ (by
                      have := Arr.ne_own hLA hOA int_ne_bool
                      simp only [Value.ownBlock, ne_eq, Option.some.injEq] at this
                      simp; omega))
                    have hbs1 : w.heap.size ≤ ((wi.setCell ⟨w1.heap.size, j, none⟩ (.int .i64 0)).setCell ⟨og, j, none⟩ (.bool true)).heap.size := by simp; omega
                    have hn40 : nn ≤ 1099511627776 := by have h1 := HM.out; have h2 := Hn.out; unfold toDo at h1; omega
                    have hcO1 := hOA.cell (k := j) (by rw [HOl.out]; exact hjn)
                    go_wp2_with (at_builtin; refine append_q ((wi.setCell ⟨w1.heap.size, j, none⟩ (.int .i64 0)).setCell ⟨og, j, none⟩ (.bool true)) rfl (.tmp 111) (.tmp 113) rfl w.heap.size (.slice A nn c) ql nn Hn.out rfl hq1 (j : Int) wi.heap.size (by simp) rfl hn40 hbs1 ?_; intro A3 c3 w3 hq3 hg3)
                    refine ⟨⟨t + 1, A3, nn + 1, c3, ql ++ [(j : Int)], out.set j true, (ll.set j 0), by omega, by go_num, rfl, Lib.hid (by rw [List.length_append, Hn.out]; rfl), hq3, ?_, ?_, Lib.hid (by rw [List.length_set]; exact HOl.out), Lib.hid (by simpa using Hll.out), Hlk2, Lib.hid (by have := Htd.out; have := HM.out; omega), ?_⟩, by simp [intOf]; omega⟩
                    · exact hset.heap fun b hb => hg3.block b (hset.lt b hb).2 fun e => (hq1.ne_bools hset e.symm) hb
                    · exact hL1.heap (hg3.block _ hL1.lt' fun e => Arr.ne_q hL1 hq1 int_ne_int64 e.symm)
                    · exact Below.grown (hbA.setCell (by simp; omega) _) hg3 (by omega) fun b hb => (hq1.lt b hb).1
          · rw [e] at hcO0
            have Hlk2 := Lib.hid (Hlk.out.skip Hj.out (.inr e) Hnd.out)
            clear e
            go_wp2
            exact ⟨⟨t + 1, A, nn, c, ql, out, ll, by omega, by go_num, rfl, Hn, hq, hO, hL, HOl, Hll, Hlk2, HM, hbr⟩, by simp [intOf]; omega⟩
        · obtain rfl : t = (rx (prevL a.next a.owner.length) k).length := by omega
          have Hlk3 := Lib.hid (Hlk.out.done (Nat.le_refl _) fun v hv hk => (mem_prevL hkn).2 ⟨v, by rw [← Hm.out]; exact hv.lt, rfl, (mem_toNat (hok.set (by rw [← Hm.out]; exact hv.lt))).1 hk⟩)
          go_wp2
          go_roundg (gk - 1)
          case measure => have := HM.out; omega
          case rel => exact ⟨A, nn, c, ql, out, ll, rfl, Hn, hq, hO, hL, HOl, Hll, Hlk3, Lib.hid (by have := HM.out; omega), by omega, hbr⟩
end Go.Proofs.Ytmkmghjmfaoobaa
