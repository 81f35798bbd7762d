/- The walk of the reference's l7Attract. Conditions: the arena is valid, the marks have its length. -/
import Derived.Test.YtmkmghjmfaoobaaDegWalks
namespace Go.Proofs.Ytmkmghjmfaoobaa
set_option linter.unusedSimpArgs false
set_option linter.unusedVariables false
open Go.RowKit

/-- What both mark. -/
def bothM (m g : List Bool) : List Bool := (List.range m.length).map fun v => bx m v && bx g v
@[simp] theorem length_bothM (m g : List Bool) : (bothM m g).length = m.length := by simp [bothM]
theorem bx_bothM (m g : List Bool) (v : Nat) : bx (bothM m g) v = (bx m v && bx g v) := by
  by_cases h : v < m.length
  · simp [bothM, bx, h]
  · simp [bothM, bx, h]
theorem on_bothM {m g : List Bool} {v : Nat} : On (bothM m g) v ↔ On m v ∧ On g v := by
  unfold On
  rw [bx_bothM]
  simp

theorem append_int_at {ops : Array Oper} {rest : List Oper} {o : Oper} {a : Act} {Q : Exit → Act → World → Prop} (w0 : World) (hgd : o.guard = none) (s x : Operand)
    (ho : o.op = .call { callee := .builtin .append, args := #[s, x], argTypes := #[22, 22] })
    (B : Nat) (v : Value) (l : List Int) (hs : a.eval s = v) (hown : OwnInts w0 B v l) (y : Int) (S : Nat) (hS : w0.heap.size = S)
    (hx : a.eval x = .slice (some ⟨S, 0, none⟩) 1 1) (hn : l.length ≤ 1099511627776) (hB : B ≤ w0.heap.size)
    (h : ∀ v' w', OwnInts w' B v' (l ++ [y]) → Below B w0 w' → w0.grownBy w' v.ownBlock → (v'.ownBlock = v.ownBlock ∨ v'.ownBlock = some (w0.heap.size + 1)) → wpList Try.prog ops Q rest (a.put o.dst v') w') :
    wpList Try.prog ops Q (o :: rest) a (w0.alloc (.cells #[.int .i64 y] 2)) := by
  subst hS
  exact append_int w0 hgd s x ho B v l hs hown y hx hn hB h

set_option maxRecDepth 100000 in
set_option maxHeartbeats 4000000 in
theorem l7Attract_any (v : Value) (a : ArenaD) (p : List Int) (u : Value) (m : List Bool) (who : Int) (z : Value) (gl : List Bool) (w : World) (hv : IsSeven w v a p) (hu : Bools w u m) (hz : Bools w z gl) (hok : ArenaOk a) (hm : m.length = a.owner.length) (hg : gl.length = a.owner.length) :
    Calls Try.prog 89 #[v, u, .int .i64 who, z] w (RetBools w (attL (duel a.owner p a.next) who a.owner.length (On m) (On gl))) := by
  obtain ⟨O, oc, P, pc, NN, nc, QQ, qc, K, kc, rfl⟩ := hv.form
  obtain ⟨ho, hp, hn, hq, hk⟩ := hv.parts
  obtain ⟨hb, hX⟩ := seven_box w (.slice O a.owner.length oc) (.slice P p.length pc) (.slice NN a.next.length nc) (.slice QQ a.owner.length qc) (.slice K a.owner.length kc)
  obtain ⟨UA, uc, rfl, huc, hum⟩ := hu.form
  obtain ⟨ZA, zc, rfl, hzc, hzm⟩ := hz.form
  have hle := hok.le
  have Hm := Lib.hid hm
  have Hg := Lib.hid hg
  clear hm hg
  have hmk := make_one elem_bool m.length (by have := Hm.out; omega)
  have hmk2 := make_one elem_int64 m.length (by have := Hm.out; omega)
  go_enter Try.func89, Try.ntmps89
  go_wp2_with fail
  clear hmk hmk2
  have hO0 := (BArr.new (w.alloc (.cells #[.slice O a.owner.length oc, .slice P p.length pc, .slice NN a.next.length nc, .slice QQ a.owner.length qc, .slice K a.owner.length kc] 71)) m.length)
  have hO1 : BArr ((w.alloc (.cells #[.slice O a.owner.length oc, .slice P p.length pc, .slice NN a.next.length nc, .slice QQ a.owner.length qc, .slice K a.owner.length kc] 71)).alloc (.cells (zeros (.bool false) m.length).toArray 4)) (w.heap.size + 1) (List.replicate m.length false) := by simpa using hO0
  have hL0 := IArr.new ((w.alloc (.cells #[.slice O a.owner.length oc, .slice P p.length pc, .slice NN a.next.length nc, .slice QQ a.owner.length qc, .slice K a.owner.length kc] 71)).alloc (.cells (zeros (.bool false) m.length).toArray 4)) m.length
  have hL1 : IArr (((w.alloc (.cells #[.slice O a.owner.length oc, .slice P p.length pc, .slice NN a.next.length nc, .slice QQ a.owner.length qc, .slice K a.owner.length kc] 71)).alloc (.cells (zeros (.bool false) m.length).toArray 4)).alloc (.cells (zeros (.int .i64 0) m.length).toArray 2)) (w.heap.size + 1 + 1) (List.replicate m.length 0) := by simpa using hL0
  have hO2 := Arr.alloc hO1 (.cells (zeros (.int .i64 0) m.length).toArray 2)
  have hX2 := (hX.alloc (.cells (zeros (.bool false) m.length).toArray 4)).alloc (.cells (zeros (.int .i64 0) m.length).toArray 2)
  have hb2 := (hb.alloc hb.size (.cells (zeros (.bool false) m.length).toArray 4)).alloc (by simp <;> omega) (.cells (zeros (.int .i64 0) m.length).toArray 2)
  have hsz : (((w.alloc (.cells #[.slice O a.owner.length oc, .slice P p.length pc, .slice NN a.next.length nc, .slice QQ a.owner.length qc, .slice K a.owner.length kc] 71)).alloc (.cells (zeros (.bool false) m.length).toArray 4)).alloc (.cells (zeros (.int .i64 0) m.length).toArray 2)).heap.size = w.heap.size + 1 + 1 + 1 := by simp
  clear hO0 hO1 hL0 hX hb
  generalize (((w.alloc (.cells #[.slice O a.owner.length oc, .slice P p.length pc, .slice NN a.next.length nc, .slice QQ a.owner.length qc, .slice K a.owner.length kc] 71)).alloc (.cells (zeros (.bool false) m.length).toArray 4)).alloc (.cells (zeros (.int .i64 0) m.length).toArray 2)) = w2 at *
  obtain ⟨hown, hbn⟩ := new_ints w2
  have hO3 : BArr (w2.alloc (.cells #[] 2)) (w.heap.size + 1) (List.replicate m.length false) := Arr.alloc hO2 _
  have hL3 : IArr (w2.alloc (.cells #[] 2)) (w.heap.size + 1 + 1) (List.replicate m.length 0) := Arr.alloc hL1 _
  have hX3 := hX2.alloc (.cells #[] 2)
  have hb3 := hb2.trans (hbn.mono hb2.size)
  have hsz3 : w.heap.size + 1 + 1 + 1 ≤ (w2.alloc (.cells #[] 2)).heap.size := by simp; omega
  rw [hsz] at hown
  clear hO2 hL1 hX2 hb2 hbn hsz
  generalize w2.alloc (.cells #[] 2) = w4 at *
  go_loopw [11, 12] (fun qv i wr => ∃ (k : Nat) (out : List Bool) (ll : List Int), k ≤ m.length ∧ i = .int .i64 k ∧ OwnInts wr (w.heap.size + 1 + 1 + 1) qv (markedTo (bothM m gl) k) ∧ BArr wr (w.heap.size + 1) out ∧ Hid (out.length = m.length) ∧ Hid (∀ j, j < m.length → bx out j = if j < k then bx (bothM m gl) j else false) ∧ IArr wr (w.heap.size + 1 + 1) ll ∧ Hid (ll.length = m.length) ∧ Hid (∀ j, j < k → On m j → ix ll j = ((cntTo m (rx a.next j) (rx a.next j).length : Nat) : Int)) ∧ Arr wr w.heap.size 71 [.slice O a.owner.length oc, .slice P p.length pc, .slice NN a.next.length nc, .slice QQ a.owner.length qc, .slice K a.owner.length kc] ∧ Below w.heap.size w wr ∧ (w.heap.size + 1 + 1 + 1) ≤ wr.heap.size) (fun _ i _ => m.length - (intOf i).toNat)
  case atStart => exact ⟨0, _, _, Nat.zero_le _, rfl, hown, hO3, Lib.hid (by simp), Lib.hid (fun j hj => by simp [bx, hj]), hL3, Lib.hid (by simp), Lib.hid (fun j hj => by omega), hX3, hb3, hsz3⟩
  case round =>
    obtain ⟨k, out, ll, hk, rfl, hown, hO, Hol, Hov, hL, Hll, Hlv, hX, hbr, hsz⟩ := hrel
    obtain ⟨QV, qvc, rfl, _⟩ := hown.ints.form
    by_cases hlt : k < m.length
    · obtain ⟨a1, ea1, hc1⟩ := (hu.kept (Kept.of hbr)).at_ hlt
      cases ea1
      have hlt' : (k : Int) < m.length := by omega
      have hltg : (k : Int) < gl.length := by rw [Hg.out, ← Hm.out]; omega
      have hkn : k < a.owner.length := by rw [← Hm.out]; exact hlt
      have Hmt := Lib.hid (markedTo_succ (bothM m gl) k)
      have Hbb := Lib.hid (bx_bothM m gl k)
      have hmlen := markedTo_len (bothM m gl) k
      have Hrest : Hid (∀ x, bx (bothM m gl) k = x → ∀ j, j < m.length → bx (out.set k x) j = if j < k + 1 then bx (bothM m gl) j else false) := Lib.hid fun x hx j hj => by
        rw [bx_set (by rw [Hol.out]; exact hlt)]
        by_cases e : j = k
        · subst e; rw [if_pos rfl, if_pos (by omega), hx]
        · rw [if_neg e, Hov.out j hj]
          by_cases e2 : j < k
          · rw [if_pos e2, if_pos (by omega)]
          · rw [if_neg e2, if_neg (by omega)]
      have Hsame : Hid (bx (bothM m gl) k = false → ∀ j, j < m.length → bx out j = if j < k + 1 then bx (bothM m gl) j else false) := Lib.hid fun hx j hj => by
        rw [Hov.out j hj]
        by_cases e : j = k
        · subst e; rw [if_neg (by omega), if_pos (by omega), hx]
        · by_cases e2 : j < k
          · rw [if_pos e2, if_pos (by omega)]
          · rw [if_neg e2, if_neg (by omega)]
      cases em : bx m k
      · rw [em] at hc1 Hbb
        have Hnm : Hid (¬ On m k) := Lib.hid (by rw [not_on]; exact em)
        clear em
        go_wp2_with fail
        exact ⟨⟨k + 1, out, ll, by omega, by go_num, by rw [Hmt.out, Hbb.out]; simpa using hown, hO, Hol, Lib.hid (Hsame.out Hbb.out), hL, Hll, Lib.hid (fun j hj hm => by
          by_cases e : j = k
          · subst e; exact absurd hm Hnm.out
          · exact Hlv.out j (by omega) hm), hX, hbr, hsz⟩, by simp [intOf]; omega⟩
      · rw [em] at hc1 Hbb
        have Hm1 := Lib.hid em
        clear em
        have q0 : wr.cell? ⟨w.heap.size, 0, none⟩ = some (.slice O a.owner.length oc) := hX.c0
        have q1 : wr.cell? ⟨w.heap.size, 1, none⟩ = some (.slice P p.length pc) := hX.c1
        have q2 : wr.cell? ⟨w.heap.size, 2, none⟩ = some (.slice NN a.next.length nc) := hX.c2
        have q3 : wr.cell? ⟨w.heap.size, 3, none⟩ = some (.slice QQ a.owner.length qc) := hX.cell (k := 3) (by simp)
        have q4 : wr.cell? ⟨w.heap.size, 4, none⟩ = some (.slice K a.owner.length kc) := hX.cell (k := 4) (by simp)
        go_wp2_with fail
        refine (l7Degree_any _ a p _ m k _ (hv.kept (Kept.of hbr)) (hu.kept (Kept.of hbr)) hok Hm.out hkn).mono ?_
        rintro e w5 ⟨rfl, hb5⟩
        have hbr5 := Below.up hbr hb5
        have hown5 := hown.below hb5 (Nat.le_refl _)
        have hO5 := hO.below hb5 hO.lt
        have hL5 := IArr.below' hL hb5 hL.lt
        have hX5 := hX.below hb5 hX.lt
        have hsz5 : (w.heap.size + 1 + 1 + 1) ≤ w5.heap.size := Nat.le_trans hsz hb5.size
        clear q0 q1 q2 q3 q4 hown hO hL hX hbr hsz hc1 hb5
        have hcL := hL5.cell (k := k) (by rw [Hll.out]; exact hlt)
        have hfL := hL5.frozen k
        have hL6 := hL5.set_ k ((cntTo m (rx a.next k) (rx a.next k).length : Nat) : Int)
        have hO6 : BArr (w5.setCell ⟨w.heap.size + 1 + 1, k, none⟩ (.int .i64 ((cntTo m (rx a.next k) (rx a.next k).length : Nat) : Int))) (w.heap.size + 1) out := Arr.far hO5 (by simp) _
        have hX6 := hX5.far (p := ⟨w.heap.size + 1 + 1, k, none⟩) (by simp <;> omega) (.int .i64 ((cntTo m (rx a.next k) (rx a.next k).length : Nat) : Int))
        have hown6 : OwnInts (w5.setCell ⟨w.heap.size + 1 + 1, k, none⟩ (.int .i64 ((cntTo m (rx a.next k) (rx a.next k).length : Nat) : Int))) (w.heap.size + 1 + 1 + 1) _ (markedTo (bothM m gl) k) := OwnInts.far hown5 (by simp) _
        have hbr6 := hbr5.setCell (p := ⟨w.heap.size + 1 + 1, k, none⟩) (by simp <;> omega) (.int .i64 ((cntTo m (rx a.next k) (rx a.next k).length : Nat) : Int))
        have hsz6 : (w.heap.size + 1 + 1 + 1) ≤ (w5.setCell ⟨w.heap.size + 1 + 1, k, none⟩ (.int .i64 ((cntTo m (rx a.next k) (rx a.next k).length : Nat) : Int))).heap.size := by simp; exact hsz5
        have Hlv6 : Hid (∀ j, j < k + 1 → On m j → ix (ll.set k ((cntTo m (rx a.next k) (rx a.next k).length : Nat) : Int)) j = ((cntTo m (rx a.next j) (rx a.next j).length : Nat) : Int)) := Lib.hid fun j hj hm => by
          rw [set_ix (by rw [Hll.out]; exact hlt)]
          by_cases e : j = k
          · subst e; rw [if_pos rfl]
          · rw [if_neg e]; exact Hlv.out j (by omega) hm
        have Hll6 : Hid ((ll.set k ((cntTo m (rx a.next k) (rx a.next k).length : Nat) : Int)).length = m.length) := Lib.hid (by rw [List.length_set]; exact Hll.out)
        obtain ⟨a1', ea1', hc1'⟩ := (hu.kept (Kept.of hbr6)).at_ hlt
        cases ea1'
        obtain ⟨a2, ea2, hc2⟩ := (hz.kept (Kept.of hbr6)).at_ (k := k) (by rw [Hg.out]; exact hkn)
        cases ea2
        have hm1 : bx m k = true := Hm1.out
        rw [hm1] at hc1'
        cases eg : bx gl k
        · rw [eg] at hc2 Hbb
          clear eg
          go_wp2_with fail
          exact ⟨⟨k + 1, out, _, by omega, by go_num, by rw [Hmt.out, Hbb.out]; simpa using hown6, hO6, Hol, Lib.hid (Hsame.out Hbb.out), hL6, Hll6, Hlv6, hX6, hbr6, hsz6⟩, by simp [intOf]; omega⟩
        · rw [eg] at hc2 Hbb
          clear eg
          have hcO := hO6.cell (k := k) (by rw [Hol.out]; exact hlt)
          have hfO := hO6.frozen k
          have hO7 := hO6.set_ k true
          have hL7 : IArr ((w5.setCell ⟨w.heap.size + 1 + 1, k, none⟩ (.int .i64 ((cntTo m (rx a.next k) (rx a.next k).length : Nat) : Int))).setCell ⟨w.heap.size + 1, k, none⟩ (.bool true)) (w.heap.size + 1 + 1) (ll.set k ((cntTo m (rx a.next k) (rx a.next k).length : Nat) : Int)) := Arr.far hL6 (by simp) _
          have hX7 := hX6.far (p := ⟨w.heap.size + 1, k, none⟩) (by simp) (.bool true)
          have hown7 : OwnInts ((w5.setCell ⟨w.heap.size + 1 + 1, k, none⟩ (.int .i64 ((cntTo m (rx a.next k) (rx a.next k).length : Nat) : Int))).setCell ⟨w.heap.size + 1, k, none⟩ (.bool true)) (w.heap.size + 1 + 1 + 1) _ (markedTo (bothM m gl) k) := OwnInts.far hown6 (by simp) _
          have hbr7 := hbr6.setCell (p := ⟨w.heap.size + 1, k, none⟩) (by simp) (.bool true)
          have hsz7 : (w.heap.size + 1 + 1 + 1) ≤ ((w5.setCell ⟨w.heap.size + 1 + 1, k, none⟩ (.int .i64 ((cntTo m (rx a.next k) (rx a.next k).length : Nat) : Int))).setCell ⟨w.heap.size + 1, k, none⟩ (.bool true)).heap.size := by simp; exact hsz5
          go_wp2_with (at_builtin; refine append_int_at _ rfl (.tmp 54) (.tmp 56) rfl (w.heap.size + 1 + 1 + 1) (.slice QV (markedTo (bothM m gl) k).length qvc) (markedTo (bothM m gl) k) rfl hown7 (k : Int) w5.heap.size (by simp) rfl (by have := Hm.out; omega) hsz7 ?_; intro v1 w8 ho8 hb8 hg8 hl8)
          exact ⟨⟨k + 1, out.set k true, _, by omega, by go_num, by rw [Hmt.out, Hbb.out]; simpa using ho8, hO7.below hb8 (by omega), Lib.hid (by rw [List.length_set]; exact Hol.out), Lib.hid (Hrest.out true Hbb.out), IArr.below' hL7 hb8 (by omega), Hll6, Hlv6, hX7.below hb8 (by omega), hbr7.trans (hb8.mono (by omega)), Nat.le_trans hsz7 hb8.size⟩, by simp [intOf]; omega⟩
    · obtain rfl : k = m.length := by omega
      have hlt' : ¬ (m.length : Int) < m.length := by omega
      have hout : out = bothM m gl := bools_ext (by rw [Hol.out, length_bothM]) fun j hj => by
        rw [length_bothM] at hj
        rw [Hov.out j hj, if_pos hj]
      subst hout
      have hall : markedTo (bothM m gl) m.length = markedL (bothM m gl) := by unfold markedL markedTo; rw [length_bothM]
      have hst : TtQ (duel a.owner p a.next) who a.owner.length m (On gl) (bothM m gl) ((markedL (bothM m gl)).drop 0) ll := TtQ.start (by rw [length_bothM]; exact Hm.out) (fun x => on_bothM) (fun x => mem_markedL) (markedL_nodup _) (fun v hv hP => by
        rw [Hlv.out v (by rw [Hm.out]; exact hv) hP, cntTo_all]; rfl)
      rw [← hall] at hst
      have Hst := Lib.hid hst
      have hml : (markedL (bothM m gl)).length ≤ a.owner.length := by
        have := markedTo_len (bothM m gl) m.length
        rw [hall] at this
        have := Hm.out
        omega
      have hcf : (bothM m gl).count false ≤ a.owner.length := by
        have := List.count_le_length (a := false) (l := bothM m gl)
        rw [length_bothM] at this
        have := Hm.out
        omega
      have HLc0 : Hid ((markedTo (bothM m gl) m.length).length + (bothM m gl).count false ≤ 1024) := Lib.hid (by rw [hall]; omega)
      have Htd0 : Hid (toDo (bothM m gl) ((markedTo (bothM m gl) m.length).drop 0) ≤ 1024) := Lib.hid (by unfold toDo; rw [List.drop_zero, hall]; omega)
      have HOl0 : Hid ((bothM m gl).length = a.owner.length) := Lib.hid (by rw [length_bothM]; exact Hm.out)
      have Hll0 : Hid (ll.length = a.owner.length) := Lib.hid (by rw [Hll.out]; exact Hm.out)
      clear hst hall hml hcf Hlv Hov Hol Hll hlt hk
      go_wp2_with fail
      go_loopg [11, 13] 1024 (fun g qv iv wr => ∃ (i : Nat) (L : List Int) (out : List Bool) (ll : List Int), iv = .int .i64 i ∧ OwnInts wr (w.heap.size + 1 + 1 + 1) qv L ∧ Hid (i ≤ L.length) ∧ Hid (L.length + out.count false ≤ 1024) ∧ BArr wr (w.heap.size + 1) out ∧ IArr wr (w.heap.size + 1 + 1) ll ∧ Hid (out.length = a.owner.length) ∧ Hid (ll.length = a.owner.length) ∧ Hid (TtQ (duel a.owner p a.next) who a.owner.length m (On gl) out (L.drop i) ll) ∧ Hid (toDo out (L.drop i) ≤ g) ∧ g ≤ 1024 ∧ Arr wr w.heap.size 71 [.slice O a.owner.length oc, .slice P p.length pc, .slice NN a.next.length nc, .slice QQ a.owner.length qc, .slice K a.owner.length kc] ∧ Below w.heap.size w wr ∧ (w.heap.size + 1 + 1 + 1) ≤ wr.heap.size)
      case atStart => exact ⟨0, _, _, _, rfl, hown, Lib.hid (Nat.zero_le _), HLc0, hO, hL, HOl0, Hll0, Hst, Htd0, Nat.le_refl _, hX, hbr, hsz⟩
      case round =>
        obtain ⟨i, L, out, ll, rfl, hown, HiL, HLc, hO, hL, HOl, Hll, Hlk, HM0, hgk, hX, hbr, hsz⟩ := hrel
        obtain ⟨wo, rfl⟩ : ∃ wo : World, wo = wr := ⟨_, rfl⟩
        obtain ⟨QV2, qvc2, rfl, _⟩ := hown.ints.form
        by_cases hlt : i < L.length
        · have hlt' : (i : Int) < L.length := by omega
          obtain ⟨aq, rfl, hcq⟩ := hown.ints.at_ hlt
          have hdr : L.drop i = ix L i :: L.drop (i + 1) := by rw [ix_lt hlt]; exact List.drop_eq_getElem_cons hlt
          obtain ⟨k, hkx, hkn⟩ := (show TtQ (duel a.owner p a.next) who a.owner.length m (On gl) out (ix L i :: L.drop (i + 1)) ll from hdr ▸ Hlk.out).head
          rw [hkx] at hcq hdr
          have Hat := Lib.hid ((show TtQ (duel a.owner p a.next) who a.owner.length m (On gl) out ((k : Int) :: L.drop (i + 1)) ll from hdr ▸ Hlk.out).pop (rx (prevL a.next a.owner.length) k))
          have HM1 : Hid (toDo out (L.drop (i + 1)) + 1 ≤ gk) := Lib.hid (by have h := HM0.out; rw [hdr] at h; unfold toDo at *; simp only [List.length_cons] at h; omega)
          have HiL1 : Hid (i + 1 ≤ L.length) := Lib.hid hlt
          clear hkx hdr
          obtain ⟨a2, R, r, ea, hc2, hrow⟩ := (show Rows w (.slice QQ (prevL a.next a.owner.length).length qc) (prevL a.next a.owner.length) by rw [length_prevL]; exact hq).at_ (k := k) (by rw [length_prevL]; exact hkn)
          cases ea
          obtain ⟨R', r', he, hrl, hrm⟩ := hrow.form
          simp only [Value.slice.injEq, true_and] at he
          obtain ⟨rfl, rfl⟩ := he
          have hkl : (k : Int) < a.owner.length := by omega
          go_wp2_with fail
          clear hcq hlt hlt'
          go_loopw [11, 15] (fun qv kv wr => ∃ (t : Nat) (L : List Int) (out : List Bool) (ll : List Int), t ≤ (rx (prevL a.next a.owner.length) k).length ∧ kv = .int .i64 t ∧ OwnInts wr (w.heap.size + 1 + 1 + 1) qv L ∧ Hid (i + 1 ≤ L.length) ∧ Hid (L.length + out.count false ≤ 1024) ∧ BArr wr (w.heap.size + 1) out ∧ IArr wr (w.heap.size + 1 + 1) ll ∧ Hid (out.length = a.owner.length) ∧ Hid (ll.length = a.owner.length) ∧ Hid (TtK (duel a.owner p a.next) who a.owner.length m (On gl) k t (rx (prevL a.next a.owner.length) k) out (L.drop (i + 1)) ll) ∧ Hid (toDo out (L.drop (i + 1)) + 1 ≤ gk) ∧ Arr wr w.heap.size 71 [.slice O a.owner.length oc, .slice P p.length pc, .slice NN a.next.length nc, .slice (some a2) a.owner.length qc, .slice K a.owner.length kc] ∧ Below w.heap.size w wr) (fun _ kv _ => (rx (prevL a.next a.owner.length) k).length - (intOf kv).toNat)
          case atStart => exact ⟨0, L, out, ll, Nat.zero_le _, rfl, hown, HiL1, HLc, hO, hL, HOl, Hll, Hat, HM1, hX, hbr⟩
          case round =>
            obtain ⟨t, L, out, ll, ht, rfl, hown, HiL, HLc, hO, hL, HOl, Hll, Hlk, HM, hX, hbr⟩ := hrel
            obtain ⟨QV3, qvc3, rfl, _⟩ := hown.ints.form
            have hOz : w.heap.size + 1 < wr.heap.size := Arr.lt hO
            have hLz : w.heap.size + 1 + 1 < wr.heap.size := Arr.lt hL
            have hc2' := (Kept.of hbr).cell hc2
            have q0 : wr.cell? ⟨w.heap.size, 0, none⟩ = some (.slice O a.owner.length oc) := hX.c0
            have q1 : wr.cell? ⟨w.heap.size, 1, none⟩ = some (.slice P p.length pc) := hX.c1
            have q2 : wr.cell? ⟨w.heap.size, 2, none⟩ = some (.slice NN a.next.length nc) := hX.c2
            have q3 : wr.cell? ⟨w.heap.size, 3, none⟩ = some (.slice (some a2) a.owner.length qc) := hX.cell (k := 3) (by simp)
            have q4 : wr.cell? ⟨w.heap.size, 4, none⟩ = some (.slice K a.owner.length kc) := hX.cell (k := 4) (by simp)
            by_cases htl : t < (rx (prevL a.next a.owner.length) k).length
            · obtain ⟨a4, rfl, hc4⟩ := (hrow.kept (Kept.of hbr)).at_ htl
              have htl' : (t : Int) < (rx (prevL a.next a.owner.length) k).length := by omega
              obtain ⟨j, hjn, hj, hkj⟩ := (mem_prevL hkn).1 (mem_ix.2 ⟨t, htl, rfl⟩)
              rw [hj] at hc4
              have Hj := Lib.hid hj
              have Hkj := Lib.hid ((mem_toNat (hok.set hjn)).2 hkj)
              have Hnn := Lib.hid (nodup_toNat (hok.set hjn))
              have Hnd := Lib.hid (fun i (h1 : t < i) (h2 : i < (rx (prevL a.next a.owner.length) k).length) => (Int.ne_of_lt (pairwise_ix (prevL_sorted hkn) h1 h2)).symm)
              clear hj hkj
              have hjm : (j : Int) < m.length := by rw [Hm.out]; omega
              have hjo : (j : Int) < a.owner.length := by omega
              have hcO0 := hO.cell (k := j) (by rw [HOl.out]; exact hjn)
              obtain ⟨a5, ea5, hc5⟩ := (hu.kept (Kept.of hbr)).at_ (k := j) (by rw [Hm.out]; exact hjn)
              cases ea5
              cases em : bx m j
              · rw [em] at hc5
                have Hlk2 := Lib.hid (Hlk.out.skip Hj.out (.inl (by rw [not_on]; exact em)) Hnd.out)
                clear em
                go_wp2_with fail
                exact ⟨⟨t + 1, L, out, ll, by omega, by go_num, hown, HiL, HLc, hO, hL, HOl, Hll, Hlk2, HM, hX, hbr⟩, by simp [intOf]; omega⟩
              · rw [em] at hc5
                have Hmj : Hid (On m j) := Lib.hid em
                clear em
                cases e : bx out j
                · rw [e] at hcO0
                  have He := Lib.hid e
                  clear e
                  obtain ⟨a6, ea6, hc6⟩ := (ho.kept (Kept.of hbr)).at_ (k := j) hjn
                  cases ea6
                  go_wp2_with fail
                  refine (l7Edge_any _ a p j (k : Int) _ (hv.kept (Kept.of hbr)) hjn).mono ?_
                  rintro e w5 ⟨rfl, hb5⟩
                  have hdeg := (hok.deg hjn).2
                  replace hown := hown.below hb5 (Nat.le_refl _)
                  have hO5 := hO.below hb5 (Arr.lt hO)
                  have hL5 := IArr.below' hL hb5 (Arr.lt hL)
                  have hX5 := hX.below hb5 hX.lt
                  have hc65 := (Kept.of hb5).cell hc6
                  have hbr5 := Below.up hbr hb5
                  have hsz5 := hb5.size
                  clear q0 q1 q2 q3 q4 hc2' hc4 hc5 hc6 hcO0 hO hL hX hbr hb5
                  rename BArr w5 _ _ => hO
                  rename IArr w5 _ _ => hL
                  rename Below _ w w5 => hbr
                  have hX : Arr w5 w.heap.size 71 [.slice (some a6) a.owner.length oc, .slice P p.length pc, .slice NN a.next.length nc, .slice (some a2) a.owner.length qc, .slice K a.owner.length kc] := hX5
                  clear hX5
                  replace hOz : w.heap.size + 1 < w5.heap.size := by omega
                  replace hLz : w.heap.size + 1 + 1 < w5.heap.size := by omega
                  clear hsz5
                  obtain ⟨wr, rfl⟩ : ∃ wr : World, wr = w5 := ⟨_, rfl⟩
                  have q0 : wr.cell? ⟨w.heap.size, 0, none⟩ = some (.slice (some a6) a.owner.length oc) := hX.c0
                  have hcl := hL.cell (k := j) (by rw [Hll.out]; exact hjn)
                  have hfl := hL.frozen j
                  obtain ⟨y, hy⟩ : ∃ y, ix ll j = y := ⟨_, rfl⟩
                  obtain ⟨hz1, hz2, hmore, hlast⟩ := Hlk.out.step Hj.out hjn Hmj.out He.out Hkj.out Hlk.out.at_ Hnd.out Hnn.out Hll.out htl
                  rw [hy] at hcl hz1 hz2 hmore hlast
                  have hyl : y ≤ 256 := by simp only [duel, List.length_map] at hz2; omega
                  clear hy hz2
                  have Hmore := Lib.hid hmore
                  have Hlast := Lib.hid hlast
                  clear hmore hlast
                  by_cases hw : ix a.owner j = who
                  · have hwd : (ix a.owner j == who) = true := by simpa using hw
                    have Hlk2 := Lib.hid (Hlast.out (.inl hw))
                    clear hw
                    have hLA : IArr (wr.setCell ⟨w.heap.size + 1 + 1, j, none⟩ (.int .i64 (y - 1))) (w.heap.size + 1 + 1) (ll.set j (y - 1)) := hL.set_ j (y - 1)
                    have hOA : BArr (wr.setCell ⟨w.heap.size + 1 + 1, j, none⟩ (.int .i64 (y - 1))) (w.heap.size + 1) out := Arr.far hO (by simp) _
                    have hXA := hX.far (p := ⟨w.heap.size + 1 + 1, j, none⟩) (by simp <;> omega) (.int .i64 (y - 1))
                    have hqA : OwnInts (wr.setCell ⟨w.heap.size + 1 + 1, j, none⟩ (.int .i64 (y - 1))) (w.heap.size + 1 + 1 + 1) _ L := OwnInts.far hown (by simp) _
                    have hbA := hbr.setCell (p := ⟨w.heap.size + 1 + 1, j, none⟩) (by simp <;> omega) (.int .i64 (y - 1))
                    have x0 : (wr.setCell ⟨w.heap.size + 1 + 1, j, none⟩ (.int .i64 (y - 1))).cell? ⟨w.heap.size, 0, none⟩ = some (.slice (some a6) a.owner.length oc) := hXA.c0
                    obtain ⟨a7, ea7, hc7⟩ := (ho.kept (Kept.of hbA)).at_ (k := j) hjn
                    cases ea7
                    have Htd := Lib.hid (toDo_take (out := out) (q := L.drop (i + 1)) (u := j) (by rw [HOl.out]; exact hjn) He.out)
                    have Htc := Lib.hid (toDo_take (out := out) (q := []) (u := j) (by rw [HOl.out]; exact hjn) He.out)
                    have hfO := hOA.frozen j
                    have hcO1 := hOA.cell (k := j) (by rw [HOl.out]; exact hjn)
                    have hO2 := hOA.set_ j true
                    have hL2 : IArr ((wr.setCell ⟨w.heap.size + 1 + 1, j, none⟩ (.int .i64 (y - 1))).setCell ⟨w.heap.size + 1, j, none⟩ (.bool true)) (w.heap.size + 1 + 1) (ll.set j (y - 1)) := Arr.far hLA (by simp) _
                    have hX2 := hXA.far (p := ⟨w.heap.size + 1, j, none⟩) (by simp) (.bool true)
                    have hown2 : OwnInts ((wr.setCell ⟨w.heap.size + 1 + 1, j, none⟩ (.int .i64 (y - 1))).setCell ⟨w.heap.size + 1, j, none⟩ (.bool true)) (w.heap.size + 1 + 1 + 1) _ L := OwnInts.far hqA (by simp) _
                    have hbs2 : (w.heap.size + 1 + 1 + 1) ≤ ((wr.setCell ⟨w.heap.size + 1 + 1, j, none⟩ (.int .i64 (y - 1))).setCell ⟨w.heap.size + 1, j, none⟩ (.bool true)).heap.size := by simp; omega
                    have hbW2 := hbA.setCell (p := ⟨w.heap.size + 1, j, none⟩) (by simp) (.bool true)
                    have hLn : L.length ≤ 1099511627776 := by have := HLc.out; omega
                    go_wp2_with (at_builtin; refine append_int_at _ rfl (.tmp 127) (.tmp 129) rfl (w.heap.size + 1 + 1 + 1) (.slice QV3 L.length qvc3) L rfl hown2 (j : Int) wr.heap.size (by simp) rfl hLn hbs2 ?_; intro v1 w3 ho1 hb1 hg1 hl1)
                    refine ⟨⟨t + 1, L ++ [(j : Int)], out.set j true, (ll.set j (y - 1)), by omega, by go_num, ho1, Lib.hid (by have := HiL.out; rw [List.length_append]; omega), Lib.hid ?_, hO2.below hb1 (by omega), IArr.below' hL2 hb1 (by omega), Lib.hid (by rw [List.length_set]; exact HOl.out), Lib.hid (by simpa using Hll.out), Lib.hid ?_, Lib.hid ?_, hX2.below hb1 (by omega), hbW2.trans (hb1.mono (by omega))⟩, by simp [intOf]; omega⟩
                    · have h1 := HLc.out
                      have h2 := Htc.out
                      unfold toDo at h2
                      rw [List.length_append]
                      simp only [List.nil_append, List.length_nil, List.length_singleton] at h2 ⊢
                      omega
                    · rw [List.drop_append_of_le_length (by have := HiL.out; omega)]
                      exact Hlk2.out
                    · rw [List.drop_append_of_le_length (by have := HiL.out; omega)]
                      have h1 := Htd.out
                      have h2 := HM.out
                      omega
                  · have hwd : (ix a.owner j == who) = false := by simpa using hw
                    have Hw := Lib.hid hw
                    clear hw
                    by_cases hg1 : 1 < y
                    · have hyd : (y - 1 == 0) = false := by simp; omega
                      have hy0 : 0 < y - 1 := by omega
                      have Hlk2 := Lib.hid (Hmore.out Hw.out hg1)
                      have hLA : IArr (wr.setCell ⟨w.heap.size + 1 + 1, j, none⟩ (.int .i64 (y - 1))) (w.heap.size + 1 + 1) (ll.set j (y - 1)) := hL.set_ j (y - 1)
                      have hOA : BArr (wr.setCell ⟨w.heap.size + 1 + 1, j, none⟩ (.int .i64 (y - 1))) (w.heap.size + 1) out := Arr.far hO (by simp) _
                      have hXA := hX.far (p := ⟨w.heap.size + 1 + 1, j, none⟩) (by simp <;> omega) (.int .i64 (y - 1))
                      have hqA : OwnInts (wr.setCell ⟨w.heap.size + 1 + 1, j, none⟩ (.int .i64 (y - 1))) (w.heap.size + 1 + 1 + 1) _ L := OwnInts.far hown (by simp) _
                      have hbA := hbr.setCell (p := ⟨w.heap.size + 1 + 1, j, none⟩) (by simp <;> omega) (.int .i64 (y - 1))
                      have x0 : (wr.setCell ⟨w.heap.size + 1 + 1, j, none⟩ (.int .i64 (y - 1))).cell? ⟨w.heap.size, 0, none⟩ = some (.slice (some a6) a.owner.length oc) := hXA.c0
                      obtain ⟨a7, ea7, hc7⟩ := (ho.kept (Kept.of hbA)).at_ (k := j) hjn
                      cases ea7
                      go_wp2_with fail
                      exact ⟨⟨t + 1, L, out, ll.set j (y - 1), by omega, by go_num, hqA, HiL, HLc, hOA, hLA, HOl, Lib.hid (by simpa using Hll.out), Hlk2, HM, hXA, hbA⟩, by simp [intOf]; omega⟩
                    · obtain rfl : y = 1 := by omega
                      have Hlk2 : Hid (TtK (duel a.owner p a.next) who a.owner.length m (On gl) k (t + 1) (rx (prevL a.next a.owner.length) k) (out.set j true) (L.drop (i + 1) ++ [(j : Int)]) (ll.set j 0)) := Lib.hid (Hlast.out (.inr rfl))
                      have hLA : IArr (wr.setCell ⟨w.heap.size + 1 + 1, j, none⟩ (.int .i64 (0))) (w.heap.size + 1 + 1) (ll.set j (0)) := hL.set_ j (0)
                      have hOA : BArr (wr.setCell ⟨w.heap.size + 1 + 1, j, none⟩ (.int .i64 (0))) (w.heap.size + 1) out := Arr.far hO (by simp) _
                      have hXA := hX.far (p := ⟨w.heap.size + 1 + 1, j, none⟩) (by simp <;> omega) (.int .i64 (0))
                      have hqA : OwnInts (wr.setCell ⟨w.heap.size + 1 + 1, j, none⟩ (.int .i64 (0))) (w.heap.size + 1 + 1 + 1) _ L := OwnInts.far hown (by simp) _
                      have hbA := hbr.setCell (p := ⟨w.heap.size + 1 + 1, j, none⟩) (by simp <;> omega) (.int .i64 (0))
                      have x0 : (wr.setCell ⟨w.heap.size + 1 + 1, j, none⟩ (.int .i64 (0))).cell? ⟨w.heap.size, 0, none⟩ = some (.slice (some a6) a.owner.length oc) := hXA.c0
                      obtain ⟨a7, ea7, hc7⟩ := (ho.kept (Kept.of hbA)).at_ (k := j) hjn
                      cases ea7
                      have Htd := Lib.hid (toDo_take (out := out) (q := L.drop (i + 1)) (u := j) (by rw [HOl.out]; exact hjn) He.out)
                      have Htc := Lib.hid (toDo_take (out := out) (q := []) (u := j) (by rw [HOl.out]; exact hjn) He.out)
                      have hfO := hOA.frozen j
                      have hcO1 := hOA.cell (k := j) (by rw [HOl.out]; exact hjn)
                      have hO2 := hOA.set_ j true
                      have hL2 : IArr ((wr.setCell ⟨w.heap.size + 1 + 1, j, none⟩ (.int .i64 (0))).setCell ⟨w.heap.size + 1, j, none⟩ (.bool true)) (w.heap.size + 1 + 1) (ll.set j 0) := Arr.far hLA (by simp) _
                      have hX2 := hXA.far (p := ⟨w.heap.size + 1, j, none⟩) (by simp) (.bool true)
                      have hown2 : OwnInts ((wr.setCell ⟨w.heap.size + 1 + 1, j, none⟩ (.int .i64 (0))).setCell ⟨w.heap.size + 1, j, none⟩ (.bool true)) (w.heap.size + 1 + 1 + 1) _ L := OwnInts.far hqA (by simp) _
                      have hbs2 : (w.heap.size + 1 + 1 + 1) ≤ ((wr.setCell ⟨w.heap.size + 1 + 1, j, none⟩ (.int .i64 (0))).setCell ⟨w.heap.size + 1, j, none⟩ (.bool true)).heap.size := by simp; omega
                      have hbW2 := hbA.setCell (p := ⟨w.heap.size + 1, j, none⟩) (by simp) (.bool true)
                      have hLn : L.length ≤ 1099511627776 := by have := HLc.out; omega
                      go_wp2_with (at_builtin; refine append_int_at _ rfl (.tmp 127) (.tmp 129) rfl (w.heap.size + 1 + 1 + 1) (.slice QV3 L.length qvc3) L rfl hown2 (j : Int) wr.heap.size (by simp) rfl hLn hbs2 ?_; intro v1 w3 ho1 hb1 hg1 hl1)
                      refine ⟨⟨t + 1, L ++ [(j : Int)], out.set j true, (ll.set j 0), by omega, by go_num, ho1, Lib.hid (by have := HiL.out; rw [List.length_append]; omega), Lib.hid ?_, hO2.below hb1 (by omega), IArr.below' hL2 hb1 (by omega), Lib.hid (by rw [List.length_set]; exact HOl.out), Lib.hid (by simpa using Hll.out), Lib.hid ?_, Lib.hid ?_, hX2.below hb1 (by omega), hbW2.trans (hb1.mono (by omega))⟩, by simp [intOf]; omega⟩
                      · have h1 := HLc.out
                        have h2 := Htc.out
                        unfold toDo at h2
                        rw [List.length_append]
                        simp only [List.nil_append, List.length_nil, List.length_singleton] at h2 ⊢
                        omega
                      · rw [List.drop_append_of_le_length (by have := HiL.out; omega)]
                        exact Hlk2.out
                      · rw [List.drop_append_of_le_length (by have := HiL.out; omega)]
                        have h1 := Htd.out
                        have h2 := HM.out
                        omega
                · rw [e] at hcO0
                  have Hlk2 := Lib.hid (Hlk.out.skip Hj.out (.inr e) Hnd.out)
                  clear e
                  go_wp2_with fail
                  exact ⟨⟨t + 1, L, out, ll, by omega, by go_num, hown, HiL, HLc, hO, hL, HOl, Hll, Hlk2, HM, hX, hbr⟩, by simp [intOf]; omega⟩
            · obtain rfl : t = (rx (prevL a.next a.owner.length) k).length := by omega
              have htl' : ¬ ((rx (prevL a.next a.owner.length) k).length : Int) < (rx (prevL a.next a.owner.length) k).length := by omega
              have hi1 : i ≤ 1024 := by have := HiL.out; have := HLc.out; omega
              have Hlk3 := Lib.hid (Hlk.out.done (Nat.le_refl _) fun v hv hk => (mem_prevL hkn).2 ⟨v, by rw [← Hm.out]; exact hv.lt, rfl, (mem_toNat (hok.set (by rw [← Hm.out]; exact hv.lt))).1 hk⟩)
              go_wp2_with fail
              go_roundg (gk - 1)
              case measure => have := HM.out; omega
              case rel => exact ⟨i + 1, L, out, ll, by go_num, hown, HiL, HLc, hO, hL, HOl, Hll, Hlk3, Lib.hid (by have := HM.out; omega), by omega, hX, hbr, by omega⟩
        · have hie : i = L.length := by have := HiL.out; omega
          subst hie
          have hlt' : ¬ (L.length : Int) < L.length := by omega
          have hdn : L.drop L.length = [] := by simp
          have hres := (show TtQ (duel a.owner p a.next) who a.owner.length m (On gl) out [] ll from hdn ▸ Hlk.out).fin
          subst hres
          have hown' : OwnBools wo w.heap.size (.slice (some ⟨w.heap.size + 1, 0, none⟩) m.length m.length) (attL (duel a.owner p a.next) who a.owner.length (On m) (On gl)) := by
            have h := hO.own (B := w.heap.size) (by omega) (by rw [length_attL]; omega)
            rw [HOl.out] at h
            rw [Hm.out]
            exact h
          clear hdn
          go_wp2_with fail
          go_ret
          exact .mk' hown' hbr
end Go.Proofs.Ytmkmghjmfaoobaa
