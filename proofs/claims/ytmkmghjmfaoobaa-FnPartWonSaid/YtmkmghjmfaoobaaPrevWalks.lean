/- The walk of predsOf: of each vertex its predecessors. Condition: the arena is valid. -/
import Derived.Test.YtmkmghjmfaoobaaPrevPlain
import Derived.Test.YtmkmghjmfaoobaaPkD
namespace Go.Proofs.Ytmkmghjmfaoobaa
set_option linter.unusedSimpArgs false
set_option linter.unusedVariables false
open Go.RowKit

set_option maxRecDepth 100000 in
set_option maxHeartbeats 2000000 in
theorem predsOf_any (v : Value) (a : ArenaD) (w : World) (hv : IsArena w v a) (hok : ArenaOk a) :
    Calls Try.prog 94 #[v] w (RetRows w (prevL a.next a.owner.length)) := by
  obtain ⟨o, n, rfl, hbw, hB⟩ := arena_open hv
  obtain ⟨ho, hn⟩ := hv.parts
  obtain ⟨A, c, rfl, hlc, hcm⟩ := ho.form
  obtain ⟨A', c', rfl, hlc', hcm'⟩ := hn.form
  have hle := hok.le
  have Hlen := Lib.hid hok.len
  have Hset := fun k (hk : k < a.owner.length) => Lib.hid (hok.set hk)
  have hmk := make_one elem_rows a.owner.length (by omega)
  have hBc0 := hB.c0
  have hBc1 := hB.c1
  go_enter Try.func94, Try.ntmps94
  go_wp2
  clear hmk hBc0 hBc1
  have hsz : (w.alloc (.cells #[.slice A a.owner.length c, .slice A' a.next.length c'] 30)).heap.size = w.heap.size + 1 := by simp
  have hM := Arr.new (w.alloc (.cells #[.slice A a.owner.length c, .slice A' a.next.length c'] 30)) 22 (zeros (.slice none 0 0) a.owner.length)
  rw [hsz] at hM
  have hbz := hbw.alloc hbw.size (.cells (zeros (.slice none 0 0) a.owner.length).toArray 22)
  have hsz2 : ((w.alloc (.cells #[.slice A a.owner.length c, .slice A' a.next.length c'] 30)).alloc (.cells (zeros (.slice none 0 0) a.owner.length).toArray 22)).heap.size = w.heap.size + 2 := by simp
  generalize (w.alloc (.cells #[.slice A a.owner.length c, .slice A' a.next.length c'] 30)).alloc (.cells (zeros (.slice none 0 0) a.owner.length).toArray 22) = w0 at *
  have hr0 := RowsV.made (B := w.heap.size) (C := w0.heap.size) hM (Nat.le_succ _) (by omega) (by omega)
  rw [← prevAt_zero a.next] at hr0
  clear hM hsz hB hbw hsz2
  go_loopw [15] (fun i wr => ∃ (k : Nat) (vs : List Value), k ≤ a.next.length ∧ i = .int .i64 k ∧ RowsV wr w.heap.size wr.heap.size (.slice (some ⟨w.heap.size + 1, 0, none⟩) a.owner.length a.owner.length) vs (prevAt a.next a.owner.length k 0) ∧ Below w.heap.size w wr) (fun i _ => a.next.length - (intOf i).toNat)
  case atStart => exact ⟨0, _, Nat.zero_le _, rfl, hr0, hbz⟩
  case round =>
    obtain ⟨k, vs, hk, rfl, hrw, hbw⟩ := hrel
    obtain ⟨wo, rfl⟩ : ∃ wo : World, wo = wr := ⟨_, rfl⟩
    by_cases hlt : k < a.next.length
    · obtain ⟨a2, R, r, ea, hc2, hrow⟩ := (hn.kept (Kept.refl w)).at_ (k := k) hlt
      subst ea
      have hc2' := (Kept.of hbw).cell hc2
      obtain ⟨R', r', he, hrl, hrm⟩ := hrow.form
      simp only [Value.slice.injEq, true_and] at he
      obtain ⟨rfl, rfl⟩ := he
      have hkn : k < a.owner.length := by have := Hlen.out; omega
      have hvn := fun t ht => hok.vert_next' hkn (t := t) ht
      have Hset := Lib.hid (hok.set hkn)
      clear hc2
      go_wp2
      go_loopw [22] (fun i wr => ∃ (t : Nat) (vs : List Value), t ≤ (rx a.next k).length ∧ i = .int .i64 t ∧ RowsV wr w.heap.size wr.heap.size (.slice (some ⟨w.heap.size + 1, 0, none⟩) a.owner.length a.owner.length) vs (prevAt a.next a.owner.length k t) ∧ Below w.heap.size w wr) (fun i _ => (rx a.next k).length - (intOf i).toNat)
      case atStart => exact ⟨0, vs, Nat.zero_le _, rfl, hrw, hbw⟩
      case round =>
        obtain ⟨t, vs, ht, rfl, hrw, hbr⟩ := hrel
        have hbs := hbr.size
        by_cases htl : t < (rx a.next k).length
        · obtain ⟨a4, rfl, hc4⟩ := (hrow.kept (Kept.of hbr)).at_ htl
          obtain ⟨j, hj, hjn⟩ := hvn t htl
          rw [hj] at hc4
          have Hstep := Lib.hid (prevAt_set htl hj hjn Hset.out)
          clear hj
          have hjn' : (j : Int) < a.owner.length := by omega
          have hro := hrw.own
          rw [length_prevAt] at hro
          have hcG := hro.cellAt j (by omega)
          have hvl : vs.length = a.owner.length := by rw [hrw.len, length_prevAt]
          have hvx : vs[j]? = some (vx vs j) := by rw [List.getElem?_eq_getElem (by omega), ← vx_lt (by omega)]
          rw [hvx] at hcG
          clear hvl
          have hri := (hrw.row j (by rw [length_prevAt]; exact hjn))
          have hli := prevAt_len (next := a.next) (k := k) (t := t) hjn
          obtain ⟨Y, yc, ey, hyc, hym⟩ := hri.ints.form
          rw [ey] at hcG hri hvx
          have Hvx := Lib.hid hvx
          clear hvx
          have Hown := Lib.hid hro
          have HY := Lib.hid ey
          clear hro ey
          go_wp2_with (at_builtin; refine append_int _ rfl (.tmp 31) (.tmp 33) rfl w.heap.size _ _ rfl hri.1 (k : Int) rfl (by omega) hbs ?_; intro v1 w3 ho1 hb1 hg1 hl1; obtain ⟨Y1, y1, rfl, _⟩ := ho1.ints.form; have hq3 := (owns_heap (w' := w3) Hown.out fun b hb => hg1.block b (Hown.out.lt b hb).2 fun e => owns_ne Hown.out hri.1 row_type_ne hb e.symm); have hf3 := hq3.frozenAt j; have hc3 := hq3.cellAt j (by omega); rw [Hvx.out] at hc3; clear hq3)
          have hgr := RowsV.grow (C' := w3.heap.size) hrw (length_prevAt _ _ _ _) (by rw [length_prevAt]; exact hjn) (by rw [HY.out]; exact hg1) ho1 (by rw [HY.out]; exact hl1.imp id fun e => ⟨_, e, by omega⟩) (by have := hg1.size; omega) (Nat.le_refl _)
          rw [Hstep.out] at hgr
          exact ⟨⟨t + 1, _, by omega, by go_num, by simpa using hgr, (hbr.trans hb1).setCell (by simp) _⟩, by simp [intOf]; omega⟩
        · obtain rfl : t = (rx a.next k).length := by omega
          rw [prevAt_next (Nat.le_refl _)] at hrw
          go_wp2
          exact ⟨⟨k + 1, vs, by omega, by go_num, hrw, hbr⟩, by simp [intOf]; omega⟩
    · obtain rfl : k = a.next.length := by omega
      rw [Hlen.out] at hrw
      go_wp2
      go_ret
      exact .mk' ⟨vs, hrw⟩ hbw
end Go.Proofs.Ytmkmghjmfaoobaa
