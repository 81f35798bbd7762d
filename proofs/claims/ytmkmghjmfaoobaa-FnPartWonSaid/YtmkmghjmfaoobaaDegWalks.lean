/- Walks of the reference's l7Edge, l7Degree, l7Top. Conditions: the arena is valid, the marks have its length. -/
import Derived.Test.YtmkmghjmfaoobaaPullWalks
import Derived.Test.YtmkmghjmfaoobaaL7Of
namespace Go.Proofs.Ytmkmghjmfaoobaa
set_option linter.unusedSimpArgs false
set_option linter.unusedVariables false
open Go.RowKit

theorem seven_box (w : World) (o p n q k : Value) : Below w.heap.size w (w.alloc (.cells #[o, p, n, q, k] 71)) ∧ Arr (w.alloc (.cells #[o, p, n, q, k] 71)) w.heap.size 71 [o, p, n, q, k] :=
  ⟨(Below.refl _ _).alloc (Nat.le_refl _) _, Arr.new w _ [o, p, n, q, k]⟩
theorem IsSeven.form {w : World} {v : Value} {a : ArenaD} {p : List Int} (h : IsSeven w v a p) : ∃ O oc P pc N nc Q qc K kc, v = .agg #[.slice O a.owner.length oc, .slice P p.length pc, .slice N a.next.length nc, .slice Q a.owner.length qc, .slice K a.owner.length kc] := by
  obtain ⟨o, pv, n, q, k, rfl, h1, h2, h3, h4, h5⟩ := h
  obtain ⟨O, oc, rfl, _⟩ := h1.form
  obtain ⟨P, pc, rfl, _⟩ := h2.form
  obtain ⟨N, nc, rfl, _⟩ := h3.form
  obtain ⟨Q, qc, rfl, _⟩ := h4.form
  obtain ⟨K, kc, rfl, _⟩ := h5.form
  refine ⟨O, oc, P, pc, N, nc, Q, qc, K, kc, ?_⟩
  rw [length_prevL, List.length_replicate]
theorem IsSeven.parts {w : World} {o p n q k : Value} {a : ArenaD} {l : List Int} (h : IsSeven w (.agg #[o, p, n, q, k]) a l) : Ints w o a.owner ∧ Ints w p l ∧ Rows w n a.next ∧ Rows w q (prevL a.next a.owner.length) ∧ Ints w k (List.replicate a.owner.length (-1)) := by
  obtain ⟨o', p', n', q', k', he, h⟩ := h
  simp only [Value.agg.injEq, Array.mk.injEq, List.cons.injEq, and_true] at he
  obtain ⟨rfl, rfl, rfl, rfl, rfl⟩ := he
  exact h

set_option maxHeartbeats 1000000 in
theorem l7Edge_any (v : Value) (a : ArenaD) (p : List Int) (x : Nat) (y : Int) (w : World) (hv : IsSeven w v a p) (hx : x < a.owner.length) :
    Calls Try.prog 86 #[v, .int .i64 (x : Int), .int .i64 y] w fun e w' => e = .returned (.bool true) ∧ Below w.heap.size w w' := by
  obtain ⟨O, oc, P, pc, N, nc, Q, qc, K, kc, rfl⟩ := hv.form
  obtain ⟨_, _, _, _, hk⟩ := hv.parts
  obtain ⟨hb, hX⟩ := seven_box w (.slice O a.owner.length oc) (.slice P p.length pc) (.slice N a.next.length nc) (.slice Q a.owner.length qc) (.slice K a.owner.length kc)
  have hk' : Ints w (.slice K (List.replicate a.owner.length (-1 : Int)).length kc) (List.replicate a.owner.length (-1)) := by rw [List.length_replicate]; exact hk
  obtain ⟨a1, rfl, hc⟩ := (hk'.kept (Kept.of hb)).at_ (k := x) (by rw [List.length_replicate]; exact hx)
  have hm : ix (List.replicate a.owner.length (-1 : Int)) x = -1 := by simp [ix, hx]
  rw [hm] at hc
  have q4 : (w.alloc (.cells #[.slice O a.owner.length oc, .slice P p.length pc, .slice N a.next.length nc, .slice Q a.owner.length qc, .slice (some a1) a.owner.length kc] 71)).cell? ⟨w.heap.size, 4, none⟩ = some (.slice (some a1) a.owner.length kc) := hX.cell (k := 4) (by simp)
  have hx' : (x : Int) < a.owner.length := by omega
  clear hk hk' hm hX
  go_enter Try.func86, Try.ntmps86
  go_wp2
  go_ret
  exact ⟨rfl, hb⟩

set_option maxRecDepth 100000 in
set_option maxHeartbeats 2000000 in
theorem l7Degree_any (v : Value) (a : ArenaD) (p : List Int) (u : Value) (m : List Bool) (x : Nat) (w : World) (hv : IsSeven w v a p) (hu : Bools w u m) (hok : ArenaOk a) (hm : m.length = a.owner.length) (hx : x < a.owner.length) :
    Calls Try.prog 54 #[v, u, .int .i64 (x : Int)] w fun e w' => e = .returned (.int .i64 ((cntTo m (rx a.next x) (rx a.next x).length : Nat) : Int)) ∧ Below w.heap.size w w' := by
  obtain ⟨O, oc, P, pc, N, nc, Q, qc, K, kc, rfl⟩ := hv.form
  obtain ⟨_, _, hn, _, _⟩ := hv.parts
  obtain ⟨hb, hX⟩ := seven_box w (.slice O a.owner.length oc) (.slice P p.length pc) (.slice N a.next.length nc) (.slice Q a.owner.length qc) (.slice K a.owner.length kc)
  obtain ⟨UA, uc, rfl, huc, hum⟩ := hu.form
  have Hm := Lib.hid hm
  clear hm
  have hle := hok.le
  obtain ⟨an, R, r, ea, hc2, hrow⟩ := hn.at_ (k := x) (by rw [hok.len]; exact hx)
  cases ea
  obtain ⟨R', r', he, hrl, hrm⟩ := hrow.form
  simp only [Value.slice.injEq, true_and] at he
  obtain ⟨rfl, rfl⟩ := he
  have hxn : (x : Int) < a.next.length := by rw [hok.len]; omega
  have hvn := fun t ht => hok.vert_next' hx (t := t) ht
  have hdeg := (hok.deg hx).2
  go_enter Try.func54, Try.ntmps54
  go_wp2_with fail
  generalize hw0 : w.alloc (.cells #[.slice O a.owner.length oc, .slice P p.length pc, .slice (some an) a.next.length nc, .slice Q a.owner.length qc, .slice K a.owner.length kc] 71) = w0 at *
  clear hw0
  have hXz := hX.lt
  go_loopw [7, 8] (fun d i wr => ∃ t : Nat, t ≤ (rx a.next x).length ∧ i = .int .i64 t ∧ d = .int .i64 ((cntTo m (rx a.next x) t : Nat) : Int) ∧ Below w0.heap.size w0 wr) (fun d i _ => (rx a.next x).length - (intOf i).toNat)
  case atStart => exact ⟨0, Nat.zero_le _, rfl, rfl, Below.refl _ _⟩
  case round =>
    obtain ⟨t, ht, rfl, rfl, hbr⟩ := hrel
    have hbw := Below.up hb hbr
    have hX1 := hX.below hbr hXz
    have q2 := hX1.c2
    have hc2' := (Kept.of hbw).cell hc2
    have hcle := cntTo_le (m := m) (row := rx a.next x) (t := t)
    by_cases htl : t < (rx a.next x).length
    · obtain ⟨a9, rfl, hc9⟩ := (hrow.kept (Kept.of hbw)).at_ htl
      obtain ⟨j, hj, hjn⟩ := hvn t htl
      have Hcs := Lib.hid (cntTo_succ (m := m) htl hj)
      rw [hj] at hc9
      clear hj
      have htl' : (t : Int) < (rx a.next x).length := by omega
      have hjm : (j : Int) < m.length := by rw [Hm.out]; omega
      obtain ⟨aw, ew, hcw⟩ := (hu.kept (Kept.of hbw)).at_ (k := j) (by rw [Hm.out]; exact hjn)
      cases ew
      cases em : bx m j
      · rw [em] at hcw Hcs
        clear em
        go_wp2_with fail
        exact ⟨⟨t + 1, by omega, by go_num, by rw [Hcs.out]; simp, hbr⟩, by simp [intOf]; omega⟩
      · rw [em] at hcw Hcs
        clear em
        have q0 := hX1.c0
        have q1 := hX1.c1
        have q3 : wr.cell? ⟨w.heap.size, 3, none⟩ = some (.slice Q a.owner.length qc) := hX1.cell (k := 3) (by simp)
        have q4 : wr.cell? ⟨w.heap.size, 4, none⟩ = some (.slice K a.owner.length kc) := hX1.cell (k := 4) (by simp)
        go_wp2_with fail
        refine (l7Edge_any _ a p x (j : Int) _ (hv.kept (Kept.of hbw)) hx).mono ?_
        rintro e w2 ⟨rfl, hb2⟩
        have hbr2 := Below.up hbr hb2
        clear q0 q1 q2 q3 q4 hc2' hc9 hcw
        go_wp2_with fail
        exact ⟨⟨t + 1, by omega, by go_num, by rw [Hcs.out]; simp, hbr2⟩, by simp [intOf]; omega⟩
    · obtain rfl : t = (rx a.next x).length := by omega
      have htl' : ¬ ((rx a.next x).length : Int) < (rx a.next x).length := by omega
      go_wp2
      go_ret
      exact ⟨rfl, hbw⟩

/-- The greatest number of a part, as far as k. -/
def topM (p : List Int) (m : List Bool) (k : Nat) : Int := topL p (markedTo m k)
theorem topM_succ (p : List Int) (m : List Bool) (k : Nat) : topM p m (k + 1) = if bx m k = true then max (topM p m k) (ix p k) else topM p m k := by
  unfold topM topL
  rw [markedTo_succ, List.foldl_append]
  by_cases h : bx m k = true <;> simp [h]
set_option maxRecDepth 100000 in
set_option maxHeartbeats 2000000 in
theorem l7Top_any (v : Value) (a : ArenaD) (p : List Int) (u : Value) (m : List Bool) (w : World) (hv : IsSeven w v a p) (hu : Bools w u m) (hm : m.length = p.length) (hle : m.length ≤ 1048576) :
    Calls Try.prog 87 #[v, u] w fun e w' => e = .returned (.int .i64 (topL p (markedL m))) ∧ Below w.heap.size w w' := by
  obtain ⟨O, oc, P, pc, N, nc, Q, qc, K, kc, rfl⟩ := hv.form
  obtain ⟨_, hp, _, _, _⟩ := hv.parts
  obtain ⟨hb, hX⟩ := seven_box w (.slice O a.owner.length oc) (.slice P p.length pc) (.slice N a.next.length nc) (.slice Q a.owner.length qc) (.slice K a.owner.length kc)
  obtain ⟨UA, uc, rfl, huc, hum⟩ := hu.form
  have Hm := Lib.hid hm
  clear hm
  have Hall := Lib.hid (show topM p m m.length = topL p (markedL m) from rfl)
  go_enter Try.func87, Try.ntmps87
  go_wp2_with fail
  generalize hw0 : w.alloc (.cells #[.slice O a.owner.length oc, .slice P p.length pc, .slice N a.next.length nc, .slice Q a.owner.length qc, .slice K a.owner.length kc] 71) = w0 at *
  clear hw0
  have hXz := hX.lt
  go_loopw [5, 6] (fun d i wr => ∃ t : Nat, t ≤ m.length ∧ i = .int .i64 t ∧ d = .int .i64 (topM p m t) ∧ Below w0.heap.size w0 wr) (fun d i _ => m.length - (intOf i).toNat)
  case atStart => exact ⟨0, Nat.zero_le _, rfl, rfl, Below.refl _ _⟩
  case round =>
    obtain ⟨t, ht, rfl, rfl, hbr⟩ := hrel
    have hbw := Below.up hb hbr
    by_cases htl : t < m.length
    · have hX1 := hX.below hbr hXz
      have q1 := hX1.c1
      have htl' : (t : Int) < m.length := by omega
      have htp : (t : Int) < p.length := by rw [← Hm.out]; omega
      have Hs := Lib.hid (topM_succ p m t)
      obtain ⟨aw, ew, hcw⟩ := (hu.kept (Kept.of hbw)).at_ htl
      cases ew
      obtain ⟨ap, ep, hcp⟩ := (hp.kept (Kept.of hbw)).at_ (k := t) (by rw [← Hm.out]; exact htl)
      cases ep
      cases em : bx m t
      · rw [em] at hcw Hs
        clear em
        go_wp2_with fail
        exact ⟨⟨t + 1, by omega, by go_num, by rw [Hs.out]; simp, hbr⟩, by simp [intOf]; omega⟩
      · rw [em] at hcw Hs
        clear em
        go_wp2_with fail
        refine (l1Max_any (topM p m t) (ix p t) _).mono ?_
        rintro e w2 ⟨rfl, hw2⟩
        subst w2
        go_wp2_with fail
        exact ⟨⟨t + 1, by omega, by go_num, by rw [Hs.out]; simp, hbr⟩, by simp [intOf]; omega⟩
    · obtain rfl : t = m.length := by omega
      have htl' : ¬ (m.length : Int) < m.length := by omega
      rw [Hall.out]
      go_wp2
      go_ret
      exact ⟨rfl, hbw⟩
end Go.Proofs.Ytmkmghjmfaoobaa
