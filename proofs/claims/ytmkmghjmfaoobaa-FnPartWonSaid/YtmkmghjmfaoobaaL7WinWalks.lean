/- The walk of the reference's l7Win: what player 0 wins of a part. Conditions: the game is valid, every vertex of the part has a successor in it. -/
import Derived.Test.YtmkmghjmfaoobaaL7Attract
import Derived.Test.YtmkmghjmfaoobaaPkC
import Derived.Test.YtmkmghjmfaoobaaWinWalks
namespace Go.Proofs.Ytmkmghjmfaoobaa
set_option linter.unusedSimpArgs false
set_option linter.unusedVariables false
open Go.RowKit

/-- Whether one of the first k is marked. -/
def someTo (l : List Bool) (k : Nat) : Bool := (l.take k).any id
theorem someTo_succ {l : List Bool} {k : Nat} (h : k < l.length) : someTo l (k + 1) = (someTo l k || bx l k) := by
  unfold someTo
  rw [List.take_succ_eq_append_getElem h, List.any_append, bx_lt h]
  simp
theorem someTo_all (l : List Bool) : someTo l l.length = anyB l := by
  unfold someTo anyB
  rw [List.take_length]
  have h : l.any id = true ↔ true ∈ l := by simp
  by_cases hm : true ∈ l
  · rw [h.2 hm, decide_eq_true hm]
  · rw [decide_eq_false hm, Bool.eq_false_iff]
    exact fun h' => hm (h.1 h')
theorem Arr.five {w : World} {g : Nat} {e : TypeId} {x0 x1 x2 x3 x4 : Value} (h : Arr w g e [x0, x1, x2, x3, x4]) : w.cell? ⟨g, 0, none⟩ = some x0 ∧ w.cell? ⟨g, 1, none⟩ = some x1 ∧ w.cell? ⟨g, 2, none⟩ = some x2 ∧ w.cell? ⟨g, 3, none⟩ = some x3 ∧ w.cell? ⟨g, 4, none⟩ = some x4 :=
  ⟨h.c0, h.c1, h.c2, h.cell (k := 3) (by simp), h.cell (k := 4) (by simp)⟩

/-- What l7Win gives back. -/
def RetWin (w : World) (g : Duel) (m : List Bool) (e : Ending) (w' : World) : Prop := ∃ v r, e = .returned v ∧ OwnBools w' w.heap.size v r ∧ Hid (WonB g m r 0) ∧ Below w.heap.size w w'

set_option maxRecDepth 100000 in
set_option maxHeartbeats 1000000 in
theorem win_none (v : Value) (a : ArenaD) (p : List Int) (u : Value) (m : List Bool) (g : Duel) (w : World) (hv : IsSeven w v a p) (hu : Bools w u m) (hm : m.length = p.length) (hl : m.length ≤ 1048576) (hnone : NoneOn m) :
    Calls Try.prog 55 #[v, u] w (RetWin w g m) := by
  have Hmp := Lib.hid hm
  clear hm
  have Hn := Lib.hid (show topL p (markedL m) = -1 from by rw [markedL_nil.2 hnone]; rfl)
  have Hw : Hid (WonB g m (List.replicate m.length false) 0) := Lib.hid (by
    have h := WonB.empty (g := g) hnone
    have e : m = List.replicate m.length false := bools_ext (by simp) fun j hj => by
      have := not_on.1 (hnone j)
      rw [this]; simp [bx] at hj ⊢; simp [hj]
    rw [← e]; exact h)
  obtain ⟨O, oc, P, pc, N, nc, Q, qc, K, kc, rfl⟩ := hv.form
  obtain ⟨hb, hX⟩ := seven_box w (.slice O a.owner.length oc) (.slice P p.length pc) (.slice N a.next.length nc) (.slice Q a.owner.length qc) (.slice K a.owner.length kc)
  obtain ⟨UA, uc, rfl, huc, hum⟩ := hu.form
  obtain ⟨q0, q1, q2, q3, q4⟩ := hX.five
  go_enter Try.func55, Try.ntmps55
  go_wp2_with fail
  refine (l7Top_any _ a p _ m _ (hv.kept (Kept.of hb)) (hu.kept (Kept.of hb)) Hmp.out hl).mono ?_
  rintro e w1 ⟨rfl, hb1⟩
  rw [Hn.out]
  have hb2 := Below.up hb hb1
  have hM := BArr.new w1 m.length
  have hb3 := Below.up hb2 ((Below.refl w1.heap.size w1).alloc (Nat.le_refl _) (.cells (zeros (.bool false) m.length).toArray 4))
  clear q0 q1 q2 q3 q4 hX
  have hmk := make_one elem_bool m.length (by omega)
  go_wp2
  go_ret
  have hs := hb2.size
  have ho := hM.own (B := w.heap.size) (by simpa using hs) (by simp; omega)
  simp only [List.length_replicate] at ho
  exact ⟨_, _, rfl, ho, Hw, hb3⟩

set_option maxRecDepth 100000 in
set_option maxHeartbeats 4000000 in
theorem l7Win_any (cn : Nat) : ∀ (v : Value) (a : ArenaD) (p : List Int) (u : Value) (m : List Bool) (w : World), Hid (m.count true ≤ cn) → IsSeven w v a p → Bools w u m →
    ArenaOk a → Hid (m.length = a.owner.length) → Hid (p.length = a.owner.length) → Hid (∀ v, v < p.length → 0 ≤ ix p v ∧ ix p v ≤ 40) → Hid (Tot (duel a.owner p a.next) (On m)) →
    Calls Try.prog 55 #[v, u] w (RetWin w (duel a.owner p a.next) m) := by
  induction cn with
  | zero =>
    intro v a p u m w Hc hv hu hok Hm Hp Hpr Ht
    have hle := hok.le
    refine win_none v a p u m _ w hv hu (by rw [Hm.out, Hp.out]) (by have := Hm.out; omega) fun v hv => ?_
    have h1 : 0 < m.count true := List.count_pos_iff.2 (by have := hv; unfold On at this; rw [bx_lt hv.lt] at this; rw [← this]; exact List.getElem_mem _)
    have := Hc.out
    omega
  | succ cn ih =>
    intro v a p u m w Hc hv hu hok Hm Hp Hpr Ht
    have hle := hok.le
    cases hany : anyB m
    · exact win_none v a p u m _ w hv hu (by rw [Hm.out, Hp.out]) (by have := Hm.out; omega) (anyB_false.1 hany)
    have Hih := Lib.hid ih
    clear ih
    have Hany := Lib.hid (anyB_iff.1 hany)
    clear hany
    have hne : markedL m ≠ [] := fun h => by obtain ⟨v, hv⟩ := Hany.out; exact markedL_nil.1 h v hv
    obtain ⟨T, hT⟩ : ∃ T, topL p (markedL m) = T := ⟨_, rfl⟩
    have hmem : ∀ x ∈ markedL m, ∃ j : Nat, x = (j : Int) ∧ j < p.length ∧ On m j := fun x hx => by
      obtain ⟨j, h1, h2, h3⟩ := mem_markedL.1 hx
      exact ⟨j, h2, by have := Hm.out; have := Hp.out; omega, h3⟩
    obtain ⟨xt, hxt, hxe⟩ := topL_at (p := p) hne fun x hx => by
      obtain ⟨j, rfl, hj, _⟩ := hmem x hx
      exact (Hpr.out _ (by simpa using hj)).1
    obtain ⟨jt, rfl, hjt, hjm⟩ := hmem xt hxt
    rw [Int.toNat_natCast] at hxe
    have HtT : Hid (∀ v, On m v → ix p v ≤ T) := Lib.hid fun v hv => by
      have := topL_ge (p := p) (mem_markedL.2 ⟨v, hv.lt, rfl, hv⟩)
      rw [Int.toNat_natCast] at this
      omega
    have hT0 : 0 ≤ T := by have := (Hpr.out jt hjt).1; omega
    have hT1 : T ≤ 40 := by have := (Hpr.out jt hjt).2; omega
    have Hjt : Hid (On m jt ∧ ix p jt = T) := Lib.hid ⟨hjm, by omega⟩
    have Hwho : Hid (T % 2 = 0 ∨ T % 2 = 1) := Lib.hid (by omega)
    have hm0 : 0 ≤ T % 2 := by omega
    have hm1 : T % 2 ≤ 1 := by omega
    have Hown : Hid (∀ v, On m v → (duel a.owner p a.next).own v = T % 2 ∨ (duel a.owner p a.next).own v = 1 - T % 2) := Lib.hid fun v hv => by
      have h1 := hok.owner (v := v) (by rw [← Hm.out]; exact hv.lt)
      show ix a.owner v = T % 2 ∨ ix a.owner v = 1 - T % 2
      omega
    clear hne hmem hxt hxe hjm hjt
    have HT := Lib.hid hT
    clear hT
    obtain ⟨O, oc, P, pc, NN, nc, Q, qc, K, kc, rfl⟩ := hv.form
    obtain ⟨ho, hp, hn, hq, hk⟩ := hv.parts
    obtain ⟨hb, hX⟩ := seven_box w (.slice O a.owner.length oc) (.slice P p.length pc) (.slice NN a.next.length nc) (.slice Q a.owner.length qc) (.slice K a.owner.length kc)
    obtain ⟨UA, uc, rfl, huc, hum⟩ := hu.form
    clear ho hn hq hk
    obtain ⟨q0, q1, q2, q3, q4⟩ := hX.five
    go_enter Try.func55, Try.ntmps55
    go_wp2_with fail
    refine (l7Top_any _ a p _ m _ (hv.kept (Kept.of hb)) (hu.kept (Kept.of hb)) (by rw [Hm.out, Hp.out]) (by have := Hm.out; omega)).mono ?_
    rintro e w1 ⟨rfl, hb1⟩
    rw [HT.out]
    have hX1 := hX.below hb1 hX.lt
    have hbw1 := Below.up hb hb1
    clear q0 q1 q2 q3 q4 hX hb hb1
    have hO := BArr.new w1 m.length
    have hzA : w1.heap.size < (w1.alloc (.cells (zeros (.bool false) m.length).toArray 4)).heap.size := by simp
    have hbwA := Below.up hbw1 ((Below.refl w1.heap.size w1).alloc (Nat.le_refl _) (.cells (zeros (.bool false) m.length).toArray 4))
    have hXA := hX1.alloc (.cells (zeros (.bool false) m.length).toArray 4)
    have hXz : w.heap.size < (w1.alloc (.cells (zeros (.bool false) m.length).toArray 4)).heap.size := hXA.lt
    have hOz := hbw1.size
    clear hX1 hbw1
    have hmk := make_one elem_bool m.length (by have := Hm.out; omega)
    go_wp2_with fail
    clear hmk
    have hM : BArr ((w1.alloc (.cells (zeros (.bool false) m.length).toArray 4)).alloc (.cells (zeros (.bool false) m.length).toArray 4)) (w1.heap.size + 1) (List.replicate m.length false) := by
      simpa using BArr.new (w1.alloc (.cells (zeros (.bool false) m.length).toArray 4)) m.length
    have hzB : (w1.alloc (.cells (zeros (.bool false) m.length).toArray 4)).heap.size ≤ w1.heap.size + 1 := by simp
    generalize w1.alloc (.cells (zeros (.bool false) m.length).toArray 4) = wA at *
    have hbo := (Below.refl wA.heap.size wA).alloc (Nat.le_refl _) (.cells (zeros (.bool false) m.length).toArray 4)
    generalize wA.alloc (.cells (zeros (.bool false) m.length).toArray 4) = w4 at *
    have Hw := Lib.hid (fun W (h : Below wA.heap.size wA W) => hbwA.trans (h.mono hbwA.size))
    have HX := Lib.hid (fun W (h : Below wA.heap.size wA W) => (hXA.below h hXz).five)
    clear hXA
    go_loopw [9] (fun i wr => ∃ (k : Nat) (ml : List Bool), k ≤ m.length ∧ i = .int .i64 k ∧ BArr wr (w1.heap.size + 1) ml ∧ Hid (ml.length = m.length) ∧ Hid (∀ j, j < k → bx ml j = bx (goalL m p T) j) ∧ Below wA.heap.size wA wr) (fun i _ => m.length - (intOf i).toNat)
    case atStart => exact ⟨0, _, Nat.zero_le _, rfl, hM, Lib.hid (by simp), Lib.hid (fun j hj => by omega), hbo⟩
    case round =>
      obtain ⟨k, ml, hk, rfl, hM, Hml, Hmm, hbx⟩ := hrel
      by_cases hlt : k < m.length
      · obtain ⟨a1, ea1, hc1⟩ := (hu.kept (Kept.of (Hw.out _ hbx))).at_ hlt
        cases ea1
        have hlt2 : (k : Int) < m.length := by omega
        have hf2 := hM.frozen k
        have Hset := fun x => Lib.hid (hM.set_ k x)
        have Hr := Lib.hid (bx_goalL m p T k)
        have Hbx := fun x j => Lib.hid (bx_set (l := ml) (k := k) (j := j) (x := x) (by rw [Hml.out]; exact hlt))
        have Hkey : Hid (∀ x, bx (goalL m p T) k = x → ∀ j, j < k + 1 → bx (ml.set k x) j = bx (goalL m p T) j) := Lib.hid fun x hx j hj => by
          rw [(Hbx x j).out]
          by_cases e : j = k
          · rw [if_pos e, e, hx]
          · rw [if_neg e]; exact Hmm.out j (by omega)
        have hcM := hM.cell (k := k) (by rw [Hml.out]; exact hlt)
        clear hM
        cases e1 : bx m k
        · rw [e1] at hc1 Hr
          clear e1
          go_wp2_with fail
          exact ⟨⟨k + 1, ml.set k false, by omega, by go_num, (Hset false).out, Lib.hid (by rw [List.length_set]; exact Hml.out), Lib.hid (Hkey.out false Hr.out), hbx.setCell hzB _⟩, by simp [intOf]; omega⟩
        · rw [e1] at hc1 Hr
          clear e1
          obtain ⟨q0, q1, q2, q3, q4⟩ := HX.out _ hbx
          obtain ⟨a2, ea2, hc2⟩ := (hp.kept (Kept.of (Hw.out _ hbx))).at_ (k := k) (by rw [Hp.out, ← Hm.out]; exact hlt)
          cases ea2
          have hlt3 : (k : Int) < p.length := by rw [Hp.out, ← Hm.out]; omega
          by_cases g : ix p k = T
          · have hd : (ix p k == T) = true := by simpa using g
            rw [show decide (ix p k = T) = true by simpa using g] at Hr
            clear g
            go_wp2_with fail
            exact ⟨⟨k + 1, ml.set k true, by omega, by go_num, (Hset true).out, Lib.hid (by rw [List.length_set]; exact Hml.out), Lib.hid (Hkey.out true Hr.out), hbx.setCell hzB _⟩, by simp [intOf]; omega⟩
          · have hd : (ix p k == T) = false := by simpa using g
            rw [show decide (ix p k = T) = false by simpa using g] at Hr
            clear g
            go_wp2_with fail
            exact ⟨⟨k + 1, ml.set k false, by omega, by go_num, (Hset false).out, Lib.hid (by rw [List.length_set]; exact Hml.out), Lib.hid (Hkey.out false Hr.out), hbx.setCell hzB _⟩, by simp [intOf]; omega⟩
      · obtain rfl : k = m.length := by omega
        have hlt2 : ¬ (m.length : Int) < m.length := by omega
        have hres : ml = (goalL m p T) := bools_ext (by rw [Hml.out, length_goalL]) fun j hj => Hmm.out j (by rw [length_goalL] at hj; exact hj)
        subst hres
        have hgB := hM.bools (by rw [Hml.out, Hm.out]; omega)
        rw [Hml.out] at hgB
        have Hgl := Hml
        clear Hml Hmm hM
        obtain ⟨q0, q1, q2, q3, q4⟩ := HX.out _ hbx
        go_wp2_with fail
        refine (l7Attract_any _ a p _ m (T % 2) _ (goalL m p T) _ (hv.kept (Kept.of (Hw.out _ hbx))) (hu.kept (Kept.of (Hw.out _ hbx))) hgB hok Hm.out (by rw [Hgl.out, Hm.out])).mono ?_
        rintro e w5 ⟨va, rfl, hva, hb5⟩
        replace hbx := Below.up hbx hb5
        clear hgB q0 q1 q2 q3 q4
        have hva' := hva.bools
        obtain ⟨V1, x1, rfl, _⟩ := hva'.form
        simp only [length_attL] at hva'
        go_wp2_with fail
        refine (l7Less_any _ m _ (attL (duel a.owner p a.next) (T % 2) a.owner.length (On m) (On (goalL m p T))) _ (hu.kept (Kept.of (Hw.out _ hbx))) hva' (by rw [length_attL, Hm.out]) (by rw [Hm.out]; omega)).mono ?_
        rintro e w6 ⟨vr, rfl, hvr, hb6⟩
        replace hbx := Below.up hbx hb6
        have hrest := hvr.bools
        obtain ⟨V2, x2, rfl, _⟩ := hrest.form
        simp only [length_restL] at hrest
        clear hva hva' hvr hb5 hb6
        have Hrlen : Hid ((restL m (attL (duel a.owner p a.next) (T % 2) a.owner.length (On m) (On (goalL m p T)))).length = m.length) := Lib.hid (by rw [length_restL])
        have Hcr : Hid ((restL m (attL (duel a.owner p a.next) (T % 2) a.owner.length (On m) (On (goalL m p T)))).count true ≤ cn) := Lib.hid (by
          have h2 := Hc.out
          have h3 : (restL m (attL (duel a.owner p a.next) (T % 2) a.owner.length (On m) (On (goalL m p T)))).count true < m.count true := att_any (g := (duel a.owner p a.next)) (who := T % 2) Hm.out (fun v hv => (on_goalL.1 hv).1) ⟨jt, on_goalL.2 ⟨Hjt.out.1, Hjt.out.2⟩⟩
          omega)
        obtain ⟨q0, q1, q2, q3, q4⟩ := HX.out _ hbx
        have Hih2 := Hih.out _ a p _ (restL m (attL (duel a.owner p a.next) (T % 2) a.owner.length (On m) (On (goalL m p T)))) _ Hcr (hv.kept (Kept.of (Hw.out _ hbx))) hrest hok (Lib.hid (by rw [Hrlen.out, Hm.out])) Hp Hpr (Lib.hid (Ht.out.rest Hm.out _))
        go_wp2_with fail
        refine Hih2.mono ?_
        rintro e w7 ⟨vl, low, rfl, hvl, HW2, hb7⟩
        clear q0 q1 q2 q3 q4 Hih2
        have Hlast := Lib.hid (fun (h : NoneOn (lostW (restL m (attL (duel a.owner p a.next) (T % 2) a.owner.length (On m) (On (goalL m p T)))) low (T % 2))) => win_last (t := T) Hown.out Ht.out Hm.out Hwho.out rfl HtT.out rfl HW2.out h)
        have Hmore := Lib.hid (fun again h5 => win_more (again := again) (t := T) Hown.out Ht.out Hm.out Hwho.out HW2.out h5)
        have Hsub := Lib.hid (fun v (hv : On (lostW (restL m (attL (duel a.owner p a.next) (T % 2) a.owner.length (On m) (On (goalL m p T)))) low (T % 2)) v) => (show On m v from by
          unfold On at hv
          rw [bx_lostW, Bool.and_eq_true] at hv
          exact (on_restL.1 hv.1).1))
        have Hllen := Lib.hid HW2.out.len
        clear Hcr HW2 HtT Hjt Hown
        generalize restL m (attL (duel a.owner p a.next) (T % 2) a.owner.length (On m) (On (goalL m p T))) = rest at *
        have hrest7 := hrest.kept (Kept.of hb7)
        have hlow7 := hvl.bools
        obtain ⟨V3, x3, rfl, _⟩ := hlow7.form
        rw [Hllen.out, Hrlen.out] at hlow7
        rw [Hllen.out, Hrlen.out]
        replace hbx := Below.up hbx hb7
        clear hrest hvl hb7
        have hmk := make_one elem_bool m.length (by have := Hm.out; omega)
        go_wp2_with fail
        clear hmk
        have hL := BArr.new w7 m.length
        have hb8 := (Below.refl w7.heap.size w7).alloc (Nat.le_refl _) (.cells (zeros (.bool false) m.length).toArray 4)
        have hbxs := hbx.size
        generalize w7.alloc (.cells (zeros (.bool false) m.length).toArray 4) = w8 at *
        have Hll := Lib.hid (length_lostW rest low (T % 2))
        go_loopw [13, 14] (fun sv i wr => ∃ (k : Nat) (ml : List Bool), k ≤ m.length ∧ i = .int .i64 k ∧ sv = .bool (someTo (lostW rest low (T % 2)) k) ∧ BArr wr w7.heap.size ml ∧ Hid (ml.length = m.length) ∧ Hid (∀ j, j < k → bx ml j = bx (lostW rest low (T % 2)) j) ∧ Below w7.heap.size w7 wr) (fun _ i _ => m.length - (intOf i).toNat)
        case atStart => exact ⟨0, _, Nat.zero_le _, rfl, rfl, hL, Lib.hid (by simp), Lib.hid (fun j hj => by omega), hb8⟩
        case round =>
          obtain ⟨k, ml, hk, rfl, rfl, hL, Hml, Hmm, hbr⟩ := hrel
          by_cases hlt : k < m.length
          · obtain ⟨a1, ea1, hc1⟩ := (hrest7.kept (Kept.of hbr)).at_ (k := k) (by rw [Hrlen.out]; exact hlt)
            cases ea1
            obtain ⟨a2, ea2, hc2⟩ := (hlow7.kept (Kept.of hbr)).at_ (k := k) (by rw [Hllen.out, Hrlen.out]; exact hlt)
            cases ea2
            have hlt2 : (k : Int) < m.length := by omega
            have hlt3 : (k : Int) < rest.length := by rw [Hrlen.out]; omega
            have hf2 := hL.frozen k
            have Hset := fun x => Lib.hid (hL.set_ k x)
            have Hcl := fun x => (hL.set_ k x).cell (k := k) (by rw [List.length_set, Hml.out]; exact hlt)
            have Hbk := fun x => Lib.hid (bx_set (l := ml) (k := k) (j := k) (x := x) (by rw [Hml.out]; exact hlt))
            have Hr := Lib.hid (bx_lostW rest low (T % 2) k)
            have Hss := Lib.hid (someTo_succ (l := lostW rest low (T % 2)) (k := k) (by rw [Hll.out, Hrlen.out]; exact hlt))
            have Hbx := fun x j => Lib.hid (bx_set (l := ml) (k := k) (j := j) (x := x) (by rw [Hml.out]; exact hlt))
            have Hkey : Hid (∀ x, bx (lostW rest low (T % 2)) k = x → ∀ j, j < k + 1 → bx (ml.set k x) j = bx (lostW rest low (T % 2)) j) := Lib.hid fun x hx j hj => by
              rw [(Hbx x j).out]
              by_cases e : j = k
              · rw [if_pos e, e, hx]
              · rw [if_neg e]; exact Hmm.out j (by omega)
            have hcL := hL.cell (k := k) (by rw [Hml.out]; exact hlt)
            clear hL
            have hcl0 := Hcl false
            have hcl1 := Hcl true
            rw [(Hbk false).out, if_pos rfl] at hcl0
            rw [(Hbk true).out, if_pos rfl] at hcl1
            clear Hcl
            cases e1 : bx rest k
            · rw [e1] at hc1 Hr
              clear e1
              cases es : someTo (lostW rest low (T % 2)) k
              · rw [es] at Hss
                clear es
                go_wp2_with fail
                exact ⟨⟨k + 1, ml.set k false, by omega, by go_num, by rw [Hss.out, Hr.out]; simp, (Hset false).out, Lib.hid (by rw [List.length_set]; exact Hml.out), Lib.hid (Hkey.out false Hr.out), hbr.setCell (by simp) _⟩, by simp [intOf]; omega⟩
              · rw [es] at Hss
                clear es
                go_wp2_with fail
                exact ⟨⟨k + 1, ml.set k false, by omega, by go_num, by rw [Hss.out, Hr.out]; simp, (Hset false).out, Lib.hid (by rw [List.length_set]; exact Hml.out), Lib.hid (Hkey.out false Hr.out), hbr.setCell (by simp) _⟩, by simp [intOf]; omega⟩
            · rw [e1] at hc1 Hr
              clear e1
              have hlt4 : (k : Int) < low.length := by rw [Hllen.out, Hrlen.out]; omega
              obtain ⟨x, hx⟩ : ∃ x, (bx low k != decide (T % 2 = 0)) = x := ⟨_, rfl⟩
              rw [hx] at Hr
              by_cases hw : T % 2 = 0
              · have hw' : (T % 2 == 0) = true := by simpa using hw
                rw [decide_eq_true hw] at hx
                cases e2 : bx low k
                · rw [e2] at hc2 hx
                  have hx' : true = x := hx
                  subst hx'
                  clear e2 hx hw
                  cases es : someTo (lostW rest low (T % 2)) k
                  · rw [es] at Hss
                    clear es
                    go_wp2_with fail
                    exact ⟨⟨k + 1, ml.set k true, by omega, by go_num, by rw [Hss.out, Hr.out]; simp, (Hset true).out, Lib.hid (by rw [List.length_set]; exact Hml.out), Lib.hid (Hkey.out true Hr.out), hbr.setCell (by simp) _⟩, by simp [intOf]; omega⟩
                  · rw [es] at Hss
                    clear es
                    go_wp2_with fail
                    exact ⟨⟨k + 1, ml.set k true, by omega, by go_num, by rw [Hss.out, Hr.out]; simp, (Hset true).out, Lib.hid (by rw [List.length_set]; exact Hml.out), Lib.hid (Hkey.out true Hr.out), hbr.setCell (by simp) _⟩, by simp [intOf]; omega⟩
                · rw [e2] at hc2 hx
                  have hx' : false = x := hx
                  subst hx'
                  clear e2 hx hw
                  cases es : someTo (lostW rest low (T % 2)) k
                  · rw [es] at Hss
                    clear es
                    go_wp2_with fail
                    exact ⟨⟨k + 1, ml.set k false, by omega, by go_num, by rw [Hss.out, Hr.out]; simp, (Hset false).out, Lib.hid (by rw [List.length_set]; exact Hml.out), Lib.hid (Hkey.out false Hr.out), hbr.setCell (by simp) _⟩, by simp [intOf]; omega⟩
                  · rw [es] at Hss
                    clear es
                    go_wp2_with fail
                    exact ⟨⟨k + 1, ml.set k false, by omega, by go_num, by rw [Hss.out, Hr.out]; simp, (Hset false).out, Lib.hid (by rw [List.length_set]; exact Hml.out), Lib.hid (Hkey.out false Hr.out), hbr.setCell (by simp) _⟩, by simp [intOf]; omega⟩
              · have hw' : (T % 2 == 0) = false := by simpa using hw
                rw [decide_eq_false hw] at hx
                cases e2 : bx low k
                · rw [e2] at hc2 hx
                  have hx' : false = x := hx
                  subst hx'
                  clear e2 hx hw
                  cases es : someTo (lostW rest low (T % 2)) k
                  · rw [es] at Hss
                    clear es
                    go_wp2_with fail
                    exact ⟨⟨k + 1, ml.set k false, by omega, by go_num, by rw [Hss.out, Hr.out]; simp, (Hset false).out, Lib.hid (by rw [List.length_set]; exact Hml.out), Lib.hid (Hkey.out false Hr.out), hbr.setCell (by simp) _⟩, by simp [intOf]; omega⟩
                  · rw [es] at Hss
                    clear es
                    go_wp2_with fail
                    exact ⟨⟨k + 1, ml.set k false, by omega, by go_num, by rw [Hss.out, Hr.out]; simp, (Hset false).out, Lib.hid (by rw [List.length_set]; exact Hml.out), Lib.hid (Hkey.out false Hr.out), hbr.setCell (by simp) _⟩, by simp [intOf]; omega⟩
                · rw [e2] at hc2 hx
                  have hx' : true = x := hx
                  subst hx'
                  clear e2 hx hw
                  cases es : someTo (lostW rest low (T % 2)) k
                  · rw [es] at Hss
                    clear es
                    go_wp2_with fail
                    exact ⟨⟨k + 1, ml.set k true, by omega, by go_num, by rw [Hss.out, Hr.out]; simp, (Hset true).out, Lib.hid (by rw [List.length_set]; exact Hml.out), Lib.hid (Hkey.out true Hr.out), hbr.setCell (by simp) _⟩, by simp [intOf]; omega⟩
                  · rw [es] at Hss
                    clear es
                    go_wp2_with fail
                    exact ⟨⟨k + 1, ml.set k true, by omega, by go_num, by rw [Hss.out, Hr.out]; simp, (Hset true).out, Lib.hid (by rw [List.length_set]; exact Hml.out), Lib.hid (Hkey.out true Hr.out), hbr.setCell (by simp) _⟩, by simp [intOf]; omega⟩
          · obtain rfl : k = m.length := by omega
            have hlt2 : ¬ (m.length : Int) < m.length := by omega
            have hres : ml = (lostW rest low (T % 2)) := bools_ext (by rw [Hml.out, Hll.out, Hrlen.out]) fun j hj => Hmm.out j (by rw [Hll.out, Hrlen.out] at hj; exact hj)
            subst hres
            have Hsa : Hid (someTo (lostW rest low (T % 2)) m.length = anyB (lostW rest low (T % 2))) := Lib.hid (by
              have := someTo_all (lostW rest low (T % 2))
              rwa [Hll.out, Hrlen.out] at this)
            rw [Hsa.out]
            have hlB := hL.bools (by rw [Hml.out, Hm.out]; omega)
            rw [Hml.out] at hlB
            replace hbx := hbx.trans (hbr.mono hbxs)
            have hOr := hO.below hbx hzA
            clear hlt hL Hmm hrest7 hlow7 hbr hk
            cases ea : anyB (lostW rest low (T % 2))
            · have Hwin := Lib.hid (Hlast.out (anyB_false.1 ea))
              clear ea Hlast Hmore
              have hbw := Hw.out _ hbx
              clear Hw HX
              go_wp2_with fail
              go_loopw [15] (fun i wr => ∃ (k : Nat) (ml : List Bool), k ≤ m.length ∧ i = .int .i64 k ∧ BArr wr w1.heap.size ml ∧ Hid (ml.length = m.length) ∧ Hid (∀ j, j < k → bx ml j = bx (allW m (T % 2)) j) ∧ Below w.heap.size w wr) (fun i _ => m.length - (intOf i).toNat)
              case atStart => exact ⟨0, _, Nat.zero_le _, rfl, hOr, Lib.hid (by simp), Lib.hid (fun j hj => by omega), hbw⟩
              case round =>
                obtain ⟨k, ml, hk, rfl, hL, Hml, Hmm, hbr⟩ := hrel
                by_cases hlt : k < m.length
                · obtain ⟨a1, ea1, hc1⟩ := (hu.kept (Kept.of hbr)).at_ hlt
                  cases ea1
                  have hlt2 : (k : Int) < m.length := by omega
                  have hf2 := hL.frozen k
                  have Hset := fun x => Lib.hid (hL.set_ k x)
                  have Hr := Lib.hid (bx_allW m (T % 2) k)
                  have Hbx := fun x j => Lib.hid (bx_set (l := ml) (k := k) (j := j) (x := x) (by rw [Hml.out]; exact hlt))
                  have Hkey : Hid (∀ x, bx (allW m (T % 2)) k = x → ∀ j, j < k + 1 → bx (ml.set k x) j = bx (allW m (T % 2)) j) := Lib.hid fun x hx j hj => by
                    rw [(Hbx x j).out]
                    by_cases e : j = k
                    · rw [if_pos e, e, hx]
                    · rw [if_neg e]; exact Hmm.out j (by omega)
                  have hcL := hL.cell (k := k) (by rw [Hml.out]; exact hlt)
                  clear hL
                  cases e1 : bx m k
                  · rw [e1] at hc1 Hr
                    clear e1
                    go_wp2_with fail
                    exact ⟨⟨k + 1, ml.set k false, by omega, by go_num, (Hset false).out, Lib.hid (by rw [List.length_set]; exact Hml.out), Lib.hid (Hkey.out false Hr.out), hbr.setCell (by simpa using hOz) _⟩, by simp [intOf]; omega⟩
                  · rw [e1] at hc1 Hr
                    clear e1
                    by_cases hw : T % 2 = 0
                    · have hw' : (T % 2 == 0) = true := by simpa using hw
                      rw [decide_eq_true hw] at Hr
                      clear hw
                      go_wp2_with fail
                      exact ⟨⟨k + 1, ml.set k true, by omega, by go_num, (Hset true).out, Lib.hid (by rw [List.length_set]; exact Hml.out), Lib.hid (Hkey.out true Hr.out), hbr.setCell (by simpa using hOz) _⟩, by simp [intOf]; omega⟩
                    · have hw' : (T % 2 == 0) = false := by simpa using hw
                      rw [decide_eq_false hw] at Hr
                      clear hw
                      go_wp2_with fail
                      exact ⟨⟨k + 1, ml.set k false, by omega, by go_num, (Hset false).out, Lib.hid (by rw [List.length_set]; exact Hml.out), Lib.hid (Hkey.out false Hr.out), hbr.setCell (by simpa using hOz) _⟩, by simp [intOf]; omega⟩
                · obtain rfl : k = m.length := by omega
                  have hlt2 : ¬ (m.length : Int) < m.length := by omega
                  have hres : ml = (allW m (T % 2)) := bools_ext (by rw [Hml.out, length_allW]) fun j hj => Hmm.out j (by rw [length_allW] at hj; exact hj)
                  subst hres
                  have ho := hL.own (B := w.heap.size) hOz (by rw [length_allW, Hm.out]; omega)
                  rw [Hml.out] at ho
                  go_wp2
                  go_ret
                  exact ⟨_, _, rfl, ho, Hwin, hbr⟩
            · have Hx := Lib.hid (anyB_iff.1 ea)
              clear ea Hlast
              obtain ⟨q0, q1, q2, q3, q4⟩ := HX.out _ hbx
              have hbrs := Nat.lt_of_lt_of_le hzA hbx.size
              go_wp2_with fail
              refine (l7Attract_any _ a p _ m (1 - T % 2) _ (lostW rest low (T % 2)) _ (hv.kept (Kept.of (Hw.out _ hbx))) (hu.kept (Kept.of (Hw.out _ hbx))) hlB hok Hm.out (by rw [Hml.out, Hm.out])).mono ?_
              rintro e w9 ⟨vw, rfl, hvw, hb9⟩
              replace hbx := Below.up hbx hb9
              clear q0 q1 q2 q3 q4 hlB hOr
              have haw := hvw.bools
              obtain ⟨V4, x4, ef, _⟩ := haw.form
              rw [length_attL] at ef
              subst ef
              have hOr := hO.below hbx hzA
              have Hcr : Hid ((restL m (attL (duel a.owner p a.next) (1 - T % 2) a.owner.length (On m) (On (lostW rest low (T % 2))))).count true ≤ cn) := Lib.hid (by
                have h2 := Hc.out
                have h3 : (restL m (attL (duel a.owner p a.next) (1 - T % 2) a.owner.length (On m) (On (lostW rest low (T % 2))))).count true < m.count true := att_any (g := (duel a.owner p a.next)) (who := 1 - T % 2) Hm.out Hsub.out Hx.out
                omega)
              have Hrtot : Hid (Tot (duel a.owner p a.next) (On (restL m (attL (duel a.owner p a.next) (1 - T % 2) a.owner.length (On m) (On (lostW rest low (T % 2))))))) := Lib.hid (Ht.out.rest Hm.out _)
              have Halen := Lib.hid (length_attL (g := duel a.owner p a.next) (i := 1 - T % 2) (n := a.owner.length) (P := On m) (G := On (lostW rest low (T % 2))))
              have HMore := Lib.hid (Hmore.out)
              have hxs := hbx.size
              have hvO : ∀ b, (Value.slice V4 a.owner.length x4).ownBlock = some b → b ≠ w1.heap.size := fun b hb => by have := (hvw.lt b hb).1; have := hbrs; omega
              have Hvw := Lib.hid (OB.of hvw)
              clear Hmore Hsub Hx Ht hvw
              generalize attL (duel a.owner p a.next) (1 - T % 2) a.owner.length (On m) (On (lostW rest low (T % 2))) = away at *
              have HS := Lib.hid (fun W (hW : Below w9.heap.size w9 W) => HX.out W (Below.up hbx hW))
              have Hc1 := Lib.hid (fun W (hW : Below w9.heap.size w9 W) => l7Less_any _ m _ away W (hu.kept (Kept.of (Hw.out _ (Below.up hbx hW)))) (haw.kept (Kept.of hW)) (by rw [Hm.out, Halen.out]) (by rw [Hm.out]; omega))
              have Hc2 := Lib.hid (fun W u (hW : Below w9.heap.size w9 W) (hu : Bools W u (restL m away)) => Hih.out _ a p u (restL m away) W Hcr (hv.kept (Kept.of (Hw.out _ (Below.up hbx hW)))) hu hok (Lib.hid (by rw [length_restL, Hm.out])) Hp Hpr Hrtot)
              have hR0 : Below w9.heap.size w9 w9.drew := ⟨rfl, rfl, rfl, Nat.le_refl _, fun _ _ => rfl⟩
              clear Hih Hcr Hrtot
              go_wp2_with fail
              go_region_held3 (fun W => W.cell? ⟨w.heap.size, 0, none⟩ = some (.slice O a.owner.length oc) ∧ W.cell? ⟨w.heap.size, 1, none⟩ = some (.slice P p.length pc) ∧ W.cell? ⟨w.heap.size, 2, none⟩ = some (.slice NN a.next.length nc) ∧ W.cell? ⟨w.heap.size, 3, none⟩ = some (.slice Q a.owner.length qc) ∧ W.cell? ⟨w.heap.size, 4, none⟩ = some (.slice K a.owner.length kc))
                (first | exact HS.out _ hR0 | exact HS.out _ hR10 | exact HS.out _ hR11)
                (first | (go_at_call 88; refine (Hc1.out _ hR0).mono ?_; rintro e w10 ⟨vn, rfl, hvn, hb10⟩; have hnm := hvn.bools; obtain ⟨V5, x5, ef, _⟩ := hnm.form; rw [length_restL] at ef; subst ef; have hR10 := Below.up hR0 hb10) | (go_at_call 55; refine (Hc2.out _ _ hR10 hnm).mono ?_; rintro e w11 ⟨vg, again, rfl, hvg, HW3, hb11⟩; have hR11 := Below.up hR10 hb11))
              have hag := hvg.bools
              have Hglen := Lib.hid (show again.length = m.length from by rw [HW3.out.len, length_restL])
              obtain ⟨V6, x6, ef, _⟩ := hag.form
              rw [Hglen.out] at ef
              subst ef
              have Hwin := Lib.hid (HMore.out again HW3.out)
              have hR10s := hR10.size
              have h9s : w1.heap.size < w9.heap.size := Nat.lt_of_lt_of_le hzA hxs
              have hgO : ∀ b, (Value.slice V6 m.length x6).ownBlock = some b → b ≠ w1.heap.size := fun b hb => by have := (hvg.lt b hb).1; omega
              have hbx11 := Below.up hbx hR11
              have hO11 := hO.below hbx11 hzA
              have hw11 := Hw.out _ hbx11
              have Hvg := Lib.hid (OB.of hvg)
              have Hvw11 := Lib.hid (OB.below Hvw.out hR11)
              clear HW3 HMore hvg hb11 hb10 hvn hnm hR10 hR11 hR0 HS Hc1 Hc2 HX Hvw hag haw
              go_wp2_with fail
              go_loopw [18] (fun i wr => ∃ (k : Nat) (ml : List Bool), k ≤ m.length ∧ i = .int .i64 k ∧ BArr wr w1.heap.size ml ∧ Hid (ml.length = m.length) ∧ Hid (∀ j, j < k → bx ml j = bx (moreW again away (T % 2)) j) ∧ Below w.heap.size w wr ∧ Chg (fun b => b = w1.heap.size) w11 wr) (fun i _ => m.length - (intOf i).toNat)
              case atStart => exact ⟨0, _, Nat.zero_le _, rfl, hO11, Lib.hid (by simp), Lib.hid (fun j hj => by omega), hw11, Chg.refl _ _⟩
              case round =>
                obtain ⟨k, ml, hk, rfl, hL, Hml, Hmm, hbr, hch⟩ := hrel
                by_cases hlt : k < m.length
                · obtain ⟨a1, ea1, hc1⟩ := (OB.chg Hvg.out hch hgO).bools.at_ (k := k) (by rw [Hglen.out]; exact hlt)
                  cases ea1
                  obtain ⟨a2, ea2, hc2⟩ := (OB.chg Hvw11.out hch hvO).bools.at_ (k := k) (by rw [Halen.out, ← Hm.out]; exact hlt)
                  cases ea2
                  have hlt2 : (k : Int) < m.length := by omega
                  have hlt3 : (k : Int) < a.owner.length := by rw [← Hm.out]; omega
                  have hf2 := hL.frozen k
                  have Hset := fun x => Lib.hid (hL.set_ k x)
                  have Hr := Lib.hid (bx_moreW (again := again) (away := away) (who := T % 2) (v := k) (by rw [Hglen.out]; exact hlt))
                  have Hbx := fun x j => Lib.hid (bx_set (l := ml) (k := k) (j := j) (x := x) (by rw [Hml.out]; exact hlt))
                  have Hkey : Hid (∀ x, bx (moreW again away (T % 2)) k = x → ∀ j, j < k + 1 → bx (ml.set k x) j = bx (moreW again away (T % 2)) j) := Lib.hid fun x hx j hj => by
                    rw [(Hbx x j).out]
                    by_cases e : j = k
                    · rw [if_pos e, e, hx]
                    · rw [if_neg e]; exact Hmm.out j (by omega)
                  have hcL := hL.cell (k := k) (by rw [Hml.out]; exact hlt)
                  have Hch := Lib.hid (fun x => hch.trans (chg_setCell wr ⟨w1.heap.size, k, none⟩ (.bool x)))
                  clear hL hch
                  cases e1 : bx again k
                  · rw [e1] at hc1 Hr
                    clear e1
                    cases e2 : bx away k
                    · rw [e2] at hc2 Hr
                      clear e2
                      go_wp2_with fail
                      exact ⟨⟨k + 1, ml.set k false, by omega, by go_num, (Hset false).out, Lib.hid (by rw [List.length_set]; exact Hml.out), Lib.hid (Hkey.out false Hr.out), hbr.setCell (by simpa using hOz) _, Hch.out false⟩, by simp [intOf]; omega⟩
                    · rw [e2] at hc2 Hr
                      clear e2
                      by_cases hw : T % 2 = 1
                      · have hw' : (T % 2 == 1) = true := by simpa using hw
                        rw [decide_eq_true hw] at Hr
                        clear hw
                        go_wp2_with fail
                        exact ⟨⟨k + 1, ml.set k true, by omega, by go_num, (Hset true).out, Lib.hid (by rw [List.length_set]; exact Hml.out), Lib.hid (Hkey.out true Hr.out), hbr.setCell (by simpa using hOz) _, Hch.out true⟩, by simp [intOf]; omega⟩
                      · have hw' : (T % 2 == 1) = false := by simpa using hw
                        rw [decide_eq_false hw] at Hr
                        clear hw
                        go_wp2_with fail
                        exact ⟨⟨k + 1, ml.set k false, by omega, by go_num, (Hset false).out, Lib.hid (by rw [List.length_set]; exact Hml.out), Lib.hid (Hkey.out false Hr.out), hbr.setCell (by simpa using hOz) _, Hch.out false⟩, by simp [intOf]; omega⟩
                  · rw [e1] at hc1 Hr
                    clear e1
                    go_wp2_with fail
                    exact ⟨⟨k + 1, ml.set k true, by omega, by go_num, (Hset true).out, Lib.hid (by rw [List.length_set]; exact Hml.out), Lib.hid (Hkey.out true (by rw [Hr.out]; rfl)), hbr.setCell (by simpa using hOz) _, Hch.out true⟩, by simp [intOf]; omega⟩
                · obtain rfl : k = m.length := by omega
                  have hlt2 : ¬ (m.length : Int) < m.length := by omega
                  have hres : ml = (moreW again away (T % 2)) := bools_ext (by rw [Hml.out, length_moreW, Hglen.out]) fun j hj => Hmm.out j (by rw [length_moreW, Hglen.out] at hj; exact hj)
                  subst hres
                  have ho := hL.own (B := w.heap.size) hOz (by rw [length_moreW, Hglen.out, Hm.out]; omega)
                  rw [Hml.out] at ho
                  go_wp2
                  go_ret
                  exact ⟨_, _, rfl, ho, Hwin, hbr⟩
end Go.Proofs.Ytmkmghjmfaoobaa
