/- The walks of w9None, w9Over, w9Winner. Condition of w9Winner: the plans are full ones. -/
import Derived.Test.YtmkmghjmfaoobaaWinsFit
import Derived.Test.YtmkmghjmfaoobaaPlayWalks
import Derived.Test.YtmkmghjmfaoobaaLassoWalks2
import Derived.Test.YtmkmghjmfaoobaaDicePlan
namespace Go.Proofs.Ytmkmghjmfaoobaa
set_option linter.unusedSimpArgs false
set_option linter.unusedVariables false
open Go.RowKit

set_option maxRecDepth 100000 in
set_option maxHeartbeats 1000000 in
theorem w9None_any (n : Nat) (w : World) (hn : n ≤ 1048576) : Calls Try.prog 31 #[.int .i64 (n : Int)] w (RetInts w (List.replicate n (-1))) := by
  obtain ⟨hown0, hbn⟩ := new_ints w
  go_enter Try.func31, Try.ntmps31
  go_wp2_with fail
  generalize w.alloc (.cells #[] 2) = w1 at *
  go_loopw [3, 4] (fun qv i wr => ∃ k : Nat, k ≤ n ∧ i = .int .i64 k ∧ OwnInts wr w.heap.size qv (List.replicate k (-1)) ∧ Below w.heap.size w wr) (fun _ i _ => n - (intOf i).toNat)
  case atStart => exact ⟨0, Nat.zero_le _, rfl, by simpa using hown0, hbn⟩
  case round =>
    clear hown0 hbn
    obtain ⟨k, hk, rfl, hown, hbr⟩ := hrel
    by_cases hlt : k < n
    · have hlt2 : (k : Int) < n := by omega
      obtain ⟨QA, qc, ef, _⟩ := hown.ints.form
      rw [List.length_replicate] at ef
      subst ef
      go_wp2_with (at_builtin; refine append_int _ rfl (.tmp 11) (.tmp 12) rfl w.heap.size _ (List.replicate k (-1)) rfl hown (-1) rfl (by rw [List.length_replicate]; omega) hbr.size ?_; intro v1 w8 ho8 hb8 hg8 hl8)
      exact ⟨⟨k + 1, by omega, by go_num, by rw [List.replicate_succ']; exact ho8, hbr.trans hb8⟩, by simp [intOf]; omega⟩
    · obtain rfl : k = n := by omega
      have hlt2 : ¬ ((k : Nat) : Int) < k := by omega
      go_wp2
      go_ret
      exact .mk' hown hbr
set_option maxRecDepth 100000 in
set_option maxHeartbeats 2000000 in
theorem w9Over_any (v : Value) (plan : List Int) (u : Value) (given : List Int) (w : World) (hv : Ints w v plan) (hu : Ints w u given) (hn : plan.length ≤ 1048576) : Calls Try.prog 33 #[v, u] w (RetInts w (overTo plan given plan.length)) := by
  obtain ⟨VA, vc, rfl, _⟩ := hv.form
  obtain ⟨UA, uc, rfl, _⟩ := hu.form
  obtain ⟨hown0, hbn⟩ := new_ints w
  go_enter Try.func33, Try.ntmps33
  go_wp2_with fail
  generalize w.alloc (.cells #[] 2) = w1 at *
  go_loopw [5, 6] (fun qv i wr => ∃ k : Nat, k ≤ plan.length ∧ i = .int .i64 k ∧ OwnInts wr w.heap.size qv (overTo plan given k) ∧ Below w.heap.size w wr) (fun _ i _ => plan.length - (intOf i).toNat)
  case atStart => exact ⟨0, Nat.zero_le _, rfl, by simpa [overTo] using hown0, hbn⟩
  case round =>
    clear hown0 hbn
    obtain ⟨k, hk, rfl, hown, hbr⟩ := hrel
    by_cases hlt : k < plan.length
    · have hlt2 : (k : Int) < plan.length := by omega
      obtain ⟨QA, qc, ef, _⟩ := hown.ints.form
      rw [length_overTo] at ef
      subst ef
      obtain ⟨b1, e1, hc1⟩ := (hv.kept (Kept.of hbr)).at_ hlt
      subst e1
      have Hs := Lib.hid (overTo_succ plan given k)
      by_cases hg : k < given.length
      · have hg2 : (k : Int) < given.length := by omega
        obtain ⟨b2, e2, hc2⟩ := (hu.kept (Kept.of hbr)).at_ hg
        subst e2
        by_cases hx : 0 ≤ ix given k ∧ 0 ≤ ix plan k
        · obtain ⟨hx1, hx2⟩ := hx
          go_wp2_with (at_builtin; refine append_int _ rfl (.tmp 38) (.tmp 40) rfl w.heap.size _ (overTo plan given k) rfl hown (ix given k) rfl (by rw [length_overTo]; omega) hbr.size ?_; intro v1 w8 ho8 hb8 hg8 hl8)
          exact ⟨⟨k + 1, by omega, by go_num, by rw [Hs.out, if_pos ⟨hg, hx1, hx2⟩]; exact ho8, hbr.trans hb8⟩, by simp [intOf]; omega⟩
        · have hxn : ¬ (k < given.length ∧ 0 ≤ ix given k ∧ 0 ≤ ix plan k) := fun h => hx h.2
          by_cases hx1 : 0 ≤ ix given k
          · have hx2 : ¬ 0 ≤ ix plan k := fun h => hx ⟨hx1, h⟩
            clear hx
            go_wp2_with (at_builtin; refine append_int _ rfl (.tmp 38) (.tmp 40) rfl w.heap.size _ (overTo plan given k) rfl hown (ix plan k) rfl (by rw [length_overTo]; omega) hbr.size ?_; intro v1 w8 ho8 hb8 hg8 hl8)
            exact ⟨⟨k + 1, by omega, by go_num, by rw [Hs.out, if_neg hxn]; exact ho8, hbr.trans hb8⟩, by simp [intOf]; omega⟩
          · clear hx
            go_wp2_with (at_builtin; refine append_int _ rfl (.tmp 38) (.tmp 40) rfl w.heap.size _ (overTo plan given k) rfl hown (ix plan k) rfl (by rw [length_overTo]; omega) hbr.size ?_; intro v1 w8 ho8 hb8 hg8 hl8)
            exact ⟨⟨k + 1, by omega, by go_num, by rw [Hs.out, if_neg hxn]; exact ho8, hbr.trans hb8⟩, by simp [intOf]; omega⟩
      · have hg2 : ¬ (k : Int) < given.length := by omega
        have hxn : ¬ (k < given.length ∧ 0 ≤ ix given k ∧ 0 ≤ ix plan k) := fun h => hg h.1
        go_wp2_with (at_builtin; refine append_int _ rfl (.tmp 38) (.tmp 40) rfl w.heap.size _ (overTo plan given k) rfl hown (ix plan k) rfl (by rw [length_overTo]; omega) hbr.size ?_; intro v1 w8 ho8 hb8 hg8 hl8)
        exact ⟨⟨k + 1, by omega, by go_num, by rw [Hs.out, if_neg hxn]; exact ho8, hbr.trans hb8⟩, by simp [intOf]; omega⟩
    · obtain rfl : k = plan.length := by omega
      have hlt2 : ¬ ((plan.length : Nat) : Int) < plan.length := by omega
      go_wp2
      go_ret
      exact .mk' hown hbr
set_option maxRecDepth 100000 in
set_option maxHeartbeats 2000000 in
theorem w9Winner_any (v : Value) (g : ParityD) (ve : Value) (even : List Int) (vo : Value) (odd : List Int) (x : Int) (w : World) (hv : IsParity w v g) (hve : Ints w ve even) (hvo : Ints w vo odd) (hp : playOkB g.arena even odd x = true) :
    Calls Try.prog 34 #[v, ve, vo, .int .i64 x] w fun e w' => e = .returned (.int .i64 (wonL g (playG g.arena even odd x))) ∧ Below w.heap.size w w' := by
  obtain ⟨o, n, p, rfl, hbw, hB⟩ := parity_box hv
  obtain ⟨ha, hpr⟩ := hv.parts
  obtain ⟨l, hle⟩ : ∃ l, playG g.arena even odd x = l := ⟨_, rfl⟩
  rw [hle]
  have Hle := Lib.hid hle
  clear hle
  have q0 := hB.c0
  have q1 := hB.c1
  go_enter Try.func34, Try.ntmps34
  go_wp2_with fail
  clear q0 q1
  generalize w.alloc (.cells #[o, n, p] 32) = w0 at *
  have HcP := Lib.hid (specPlayOf_any _ g.arena _ even _ odd x w0 (ha.kept (Kept.of hbw)) (hve.kept (Kept.of hbw)) (hvo.kept (Kept.of hbw)))
  rw [hp, Hle.out] at HcP
  refine HcP.out.mono ?_
  rintro e w1 ⟨ul, rfl, hl, hb1⟩
  clear HcP
  obtain ⟨S, sc, T, tc, rfl⟩ := hl.form
  have hlt := hl.two
  replace hB := hB.below hb1 hB.lt
  replace hbw := Below.up hbw hb1
  have hY := Arr.new w1 88 [.slice S l.fst.length sc, .slice T l.snd.length tc]
  have hb2 := (Below.refl w1.heap.size w1).alloc (Nat.le_refl _) (.cells #[.slice S l.fst.length sc, .slice T l.snd.length tc] 88)
  replace hB := hB.below hb2 hB.lt
  replace hbw := Below.up hbw hb2
  replace hlt := hlt.kept (Kept.of hb2)
  clear hb1 hb2 hl
  have q0 := hB.c0
  have q1 := hB.c1
  have q2 := hB.c2
  have q3 := hY.c0
  have q4 := hY.c1
  go_wp2_with fail
  refine (specPlayWon_any _ g _ l _ (hv.kept (Kept.of hbw)) hlt).mono ?_
  rintro e w2 ⟨rfl, hb3⟩
  go_wp2
  go_ret
  exact ⟨rfl, Below.up hbw hb3⟩
end Go.Proofs.Ytmkmghjmfaoobaa
