/- The walks of PartOf and what they call. No condition but the lists' lengths. -/
import Derived.Test.YtpnophmanpfejaaFullWalks
import Derived.Test.YtpnophmanpfejaaAnswer
namespace Go.Proofs.Ytpnophmanpfejaa
set_option linter.unusedSimpArgs false
set_option linter.unusedVariables false
open Go.RowKit

def ansAt (a : ArenaD) (ans : TwoD) (v : Nat) : Bool := playerB (ix ans.fst v) && (if ix a.owner v = ix ans.fst v then hasB (rx a.next v) (ix ans.snd v) else decide (ix ans.snd v = -1))
def ansAll (a : ArenaD) (ans : TwoD) : Bool := decide (∀ v, v < ans.fst.length → ansAt a ans v = true)
def isAnsB (g : ParityD) (ans : TwoD) : Bool := decide (ans.fst.length = g.prio.length) && (decide (ans.snd.length = g.prio.length) && ansAll g.arena ans)
theorem ansAll_bad {a : ArenaD} {ans : TwoD} {v : Nat} (hv : v < ans.fst.length) (h : ansAt a ans v = false) : ansAll a ans = false := by
  unfold ansAll; rw [decide_eq_false_iff_not]; intro h'; rw [h' v hv] at h; cases h
structure AnsOk (g : ParityD) (ans : TwoD) : Prop where
  won : ans.fst.length = g.prio.length
  plan : ans.snd.length = g.prio.length
  vert : ∀ v, v < ans.fst.length → ansAt g.arena ans v = true
theorem isAnsB_iff {g : ParityD} {ans : TwoD} : isAnsB g ans = true ↔ AnsOk g ans := by
  unfold isAnsB ansAll
  simp only [Bool.and_eq_true, decide_eq_true_eq]
  exact ⟨fun ⟨h1, h2, h3⟩ => ⟨h1, h2, h3⟩, fun ⟨h1, h2, h3⟩ => ⟨h1, h2, h3⟩⟩
def partAt (a : ArenaD) (who : Int) (plan : List Int) (v : Nat) : Int := if ix a.owner v = who then ix plan v else -1
def partTo (a : ArenaD) (who : Int) (plan : List Int) (k : Nat) : List Int := (List.range k).map fun v => partAt a who plan v
@[simp] theorem length_partTo (a : ArenaD) (who : Int) (plan : List Int) (k : Nat) : (partTo a who plan k).length = k := by simp [partTo]
theorem ix_partTo {a : ArenaD} {who : Int} {plan : List Int} {k j : Nat} (h : j < k) : ix (partTo a who plan k) j = partAt a who plan j := by simp [ix, partTo, h]
theorem partTo_succ (a : ArenaD) (who : Int) (plan : List Int) (k : Nat) : partTo a who plan (k + 1) = partTo a who plan k ++ [partAt a who plan k] := by simp [partTo, List.range_succ]
def partG (g : ParityD) (ans : TwoD) (who : Int) : List Int := if parityOkB g && (playerB who && isAnsB g ans) then partTo g.arena who ans.snd g.prio.length else []
theorem partG_len (g : ParityD) (ans : TwoD) (who : Int) : (partG g ans who).length ≤ 1048576 := by
  unfold partG
  split
  · rename_i h
    simp only [Bool.and_eq_true] at h
    have h1 := (parityOkB_iff.1 h.1)
    have := h1.arena.le
    have := h1.len
    simp; omega
  · simp

/-- Behind the boxes of a game and an answer. -/
theorem parity_answer_box {w : World} {v u : Value} {g : ParityD} {l : TwoD} (hv : IsParity w v g) (hu : IsTwo w u l) : ∃ o n p s t, v = .agg #[o, n, p] ∧ u = .agg #[s, t] ∧
    Below w.heap.size w ((w.alloc (.cells #[o, n, p] 32)).alloc (.cells #[s, t] 50)) ∧ Arr ((w.alloc (.cells #[o, n, p] 32)).alloc (.cells #[s, t] 50)) w.heap.size 32 [o, n, p] ∧
    Arr ((w.alloc (.cells #[o, n, p] 32)).alloc (.cells #[s, t] 50)) (w.heap.size + 1) 50 [s, t] := by
  obtain ⟨o, n, p, rfl⟩ := hv.open
  obtain ⟨s, t, rfl, _⟩ := hu
  have h2 := Arr.new (w.alloc (.cells #[o, n, p] 32)) 50 [s, t]
  exact ⟨o, n, p, s, t, rfl, rfl, ((Below.refl _ _).alloc (Nat.le_refl _) _).alloc (by simp) _, (Arr.new _ _ _).alloc _, by simpa using h2⟩

set_option maxRecDepth 100000 in
set_option maxHeartbeats 2000000 in
theorem isAnswer_any (v : Value) (g : ParityD) (u : Value) (l : TwoD) (w : World) (hv : IsParity w v g) (hu : IsTwo w u l) (hok : ParityOk g) :
    Calls Try.prog 94 #[v, u] w fun e w' => e = .returned (.bool (isAnsB g l)) ∧ Below w.heap.size w w' := by
  obtain ⟨o, n, p, s, t, rfl, rfl, hbw, hB, hD⟩ := parity_answer_box hv hu
  obtain ⟨ha, hp⟩ := hv.parts
  obtain ⟨ho, hn⟩ := ha.parts
  obtain ⟨hs, ht⟩ := hu.parts
  obtain ⟨A, c, rfl, hlc, hcm⟩ := ho.form
  obtain ⟨A', c', rfl, hlc', hcm'⟩ := hn.form
  obtain ⟨P, pc, rfl, hpl, hpm⟩ := hp.form
  obtain ⟨S, sc, rfl, hsl, hsm⟩ := hs.form
  obtain ⟨T, tc, rfl, htl, htm⟩ := ht.form
  by_cases h1 : l.fst.length = g.prio.length
  · have hd1 : ((l.fst.length : Int) != (g.prio.length : Int)) = false := by simp [h1]
    by_cases h2 : l.snd.length = g.prio.length
    · have hd2 : ((l.snd.length : Int) != (g.prio.length : Int)) = false := by simp [h2]
      have hres : isAnsB g l = ansAll g.arena l := by unfold isAnsB; rw [decide_eq_true h1, decide_eq_true h2]; rfl
      rw [hres]; clear hres
      obtain ⟨res, hres⟩ : ∃ r, ansAll g.arena l = r := ⟨_, rfl⟩
      rw [hres]
      have Hres := Lib.hid hres
      clear hres
      have Hlen := Lib.hid hok.arena.len
      have Hol := Lib.hid hok.len
      have H1 := Lib.hid h1
      have H2 := Lib.hid h2
      clear h1 h2
      go_enter Try.func94, Try.ntmps94
      have hBz := hB.lt
      have hBc0 := hB.c0
      have hBc1 := hB.c1
      have hBc2 := hB.c2
      have hDz := hD.lt
      have hDc0 := hD.c0
      have hDc1 := hD.c1
      go_wp2
      clear hd1 hd2
      generalize (w.alloc (.cells #[.slice A g.arena.owner.length c, .slice A' g.arena.next.length c', .slice P g.prio.length pc] 32)).alloc (.cells #[.slice S l.fst.length sc, .slice T l.snd.length tc] 50) = w0 at *
      have hs1 := (hs.kept (Kept.of hbw))
      have ht1 := (ht.kept (Kept.of hbw))
      have ho1 := (ho.kept (Kept.of hbw))
      have hn1 := (hn.kept (Kept.of hbw))
      go_loopw [27] (fun i wr => ∃ k q : Nat, k ≤ l.fst.length ∧ i = .int .i64 k ∧ wr = w0.drewN q ∧ ∀ j, j < k → ansAt g.arena l j = true) (fun i _ => l.fst.length - (intOf i).toNat)
      case atStart => exact ⟨0, 0, Nat.zero_le _, rfl, rfl, fun j hj => by omega⟩
      case round =>
        obtain ⟨k, q, hk, rfl, rfl, hm⟩ := hrel
        have Hm := Lib.hid hm
        clear hm
        by_cases hlt : k < l.fst.length
        · have hko : k < g.arena.owner.length := by rw [← Hol.out, ← H1.out]; exact hlt
          obtain ⟨a1, ea, hc1⟩ := hs1.at_ hlt
          subst ea
          obtain ⟨a2, ea, hc2⟩ := ht1.at_ (k := k) (by rw [H2.out, ← H1.out]; exact hlt)
          subst ea
          obtain ⟨a3, ea, hc3⟩ := ho1.at_ hko
          subst ea
          obtain ⟨a4, R, r, ea, hc4, hrow⟩ := hn1.at_ (k := k) (by rw [Hlen.out]; exact hko)
          subst ea
          have hkl : (k : Int) < g.arena.owner.length := by omega
          have hkl2 : (k : Int) < g.arena.next.length := by rw [Hlen.out]; omega
          have hkl3 : (k : Int) < l.snd.length := by rw [H2.out, ← H1.out]; omega
          have hbad : ansAt g.arena l k = false → res = false := fun h => by rw [← Hres.out]; exact ansAll_bad hlt h
          have hplayer := fun W => isPlayer_any (ix l.fst k) W
          have hcont := fun W (hW : Kept w0 W) => Contains_any _ (rx g.arena.next k) (ix l.snd k) W (hrow.kept hW)
          cases e1 : playerB (ix l.fst k)
          · have hr : res = false := hbad (by unfold ansAt; rw [e1]; rfl)
            subst hr
            rw [e1] at hplayer
            clear hbad e1 hcont
            go_wp2
            go_quiet ((go_at_call 137; first | exact Calls.quiet_of_same (hplayer _) | exact Calls.quiet_of (hplayer _) | exact quiet_add (quiet_same (hplayer _)) | exact quiet_add (hplayer _)))
            go_wp2
            go_ret
            exact ⟨rfl, below_drewN (below_drewN hbw _) _⟩
          · rw [e1] at hplayer
            by_cases e2 : ix g.arena.owner k = ix l.fst k
            · have hd : (ix g.arena.owner k == ix l.fst k) = true := by simpa using e2
              have hat : ansAt g.arena l k = hasB (rx g.arena.next k) (ix l.snd k) := by unfold ansAt; rw [e1, if_pos e2]; rfl
              cases e3 : hasB (rx g.arena.next k) (ix l.snd k)
              · have hr : res = false := hbad (by rw [hat, e3])
                subst hr
                rw [e3] at hcont
                clear hbad e1 e2 e3 hat
                go_wp2
                go_quiet ((first | ((go_at_call 137; first | exact Calls.quiet_of_same (hplayer _) | exact Calls.quiet_of (hplayer _) | exact quiet_add (quiet_same (hplayer _)) | exact quiet_add (hplayer _))) | ((go_at_call 81; first | exact Calls.quiet_of_same (hcont _ (Kept.drewN _ _)) | exact Calls.quiet_of (hcont _ (Kept.drewN _ _)) | exact quiet_add (quiet_same (hcont _ (Kept.drewN _ _))) | exact quiet_add (hcont _ (Kept.drewN _ _))))))
                go_wp2
                go_ret
                exact ⟨rfl, below_drewN (below_drewN hbw _) _⟩
              · have Hat := Lib.hid (hat.trans e3)
                rw [e3] at hcont
                clear hbad e1 e2 e3 hat
                go_wp2
                go_quiet ((first | ((go_at_call 137; first | exact Calls.quiet_of_same (hplayer _) | exact Calls.quiet_of (hplayer _) | exact quiet_add (quiet_same (hplayer _)) | exact quiet_add (hplayer _))) | ((go_at_call 81; first | exact Calls.quiet_of_same (hcont _ (Kept.drewN _ _)) | exact Calls.quiet_of (hcont _ (Kept.drewN _ _)) | exact quiet_add (quiet_same (hcont _ (Kept.drewN _ _))) | exact quiet_add (hcont _ (Kept.drewN _ _))))))
                go_wp2
                exact ⟨⟨k + 1, q + nq, by omega, by go_num, by simp, fun i hi => by
                  by_cases ei : i = k
                  · rw [ei]; exact Hat.out
                  · exact Hm.out i (by omega)⟩, by simp [intOf]; omega⟩
            · have hd : (ix g.arena.owner k == ix l.fst k) = false := by simpa using e2
              have hat : ansAt g.arena l k = decide (ix l.snd k = -1) := by unfold ansAt; rw [e1, if_neg e2]; rfl
              by_cases e3 : ix l.snd k = -1
              · have hd3 : (ix l.snd k != -1) = false := by simpa using e3
                have Hat := Lib.hid (hat.trans (decide_eq_true e3))
                clear hbad e1 e2 e3 hat hcont
                go_wp2
                go_quiet ((go_at_call 137; first | exact Calls.quiet_of_same (hplayer _) | exact Calls.quiet_of (hplayer _) | exact quiet_add (quiet_same (hplayer _)) | exact quiet_add (hplayer _)))
                go_wp2
                exact ⟨⟨k + 1, q + nq, by omega, by go_num, by simp, fun i hi => by
                  by_cases ei : i = k
                  · rw [ei]; exact Hat.out
                  · exact Hm.out i (by omega)⟩, by simp [intOf]; omega⟩
              · have hd3 : (ix l.snd k != -1) = true := by simpa using e3
                have hr : res = false := hbad (by rw [hat, decide_eq_false e3])
                subst hr
                clear hbad e1 e2 e3 hat hcont
                go_wp2
                go_quiet ((go_at_call 137; first | exact Calls.quiet_of_same (hplayer _) | exact Calls.quiet_of (hplayer _) | exact quiet_add (quiet_same (hplayer _)) | exact quiet_add (hplayer _)))
                go_wp2
                go_ret
                exact ⟨rfl, below_drewN (below_drewN hbw _) _⟩
        · have hr : res = true := by
            rw [← Hres.out]; unfold ansAll; rw [decide_eq_true_eq]; exact fun j hj => Hm.out j (by omega)
          subst hr
          go_wp2
          go_ret
          exact ⟨rfl, below_drewN hbw _⟩
    · have hd2 : ((l.snd.length : Int) != (g.prio.length : Int)) = true := by simp; omega
      have hres : isAnsB g l = false := by unfold isAnsB; rw [decide_eq_false h2]; simp
      rw [hres]; clear hres h1
      go_enter Try.func94, Try.ntmps94
      have hBz := hB.lt
      have hBc0 := hB.c0
      have hBc1 := hB.c1
      have hBc2 := hB.c2
      have hDz := hD.lt
      have hDc0 := hD.c0
      have hDc1 := hD.c1
      go_wp2
      go_ret
      exact ⟨rfl, hbw⟩
  · have hd1 : ((l.fst.length : Int) != (g.prio.length : Int)) = true := by simp; omega
    have hres : isAnsB g l = false := by unfold isAnsB; rw [decide_eq_false h1]; rfl
    rw [hres]; clear hres
    go_enter Try.func94, Try.ntmps94
    have hBz := hB.lt
    have hBc0 := hB.c0
    have hBc1 := hB.c1
    have hBc2 := hB.c2
    have hDz := hD.lt
    have hDc0 := hD.c0
    have hDc1 := hD.c1
    go_wp2
    go_ret
    exact ⟨rfl, hbw⟩

set_option maxRecDepth 100000 in
set_option maxHeartbeats 2000000 in
theorem partOf_any (v : Value) (g : ParityD) (u : Value) (l : TwoD) (who : Int) (w : World) (hv : IsParity w v g) (hu : IsTwo w u l) (hok : ParityOk g) (hans : AnsOk g l) :
    Calls Try.prog 96 #[v, u, .int .i64 who] w (RetInts w (partTo g.arena who l.snd g.prio.length)) := by
  obtain ⟨o, n, p, s, t, rfl, rfl, hbw, hB, hD⟩ := parity_answer_box hv hu
  obtain ⟨ha, hp⟩ := hv.parts
  obtain ⟨ho, hn⟩ := ha.parts
  obtain ⟨hs, ht⟩ := hu.parts
  obtain ⟨A, c, rfl, hlc, hcm⟩ := ho.form
  obtain ⟨T, tc, rfl, htl, htm⟩ := ht.form
  have Hol := Lib.hid hok.len
  have Hpl := Lib.hid hans.plan
  have hle := hok.arena.le
  have hpo : g.prio.length = g.arena.owner.length := hok.len
  rw [hpo]
  clear hpo
  go_enter Try.func96, Try.ntmps96
  have hBz := hB.lt
  have hBc0 := hB.c0
  have hBc1 := hB.c1
  have hBc2 := hB.c2
  have hDz := hD.lt
  have hDc0 := hD.c0
  have hDc1 := hD.c1
  go_wp2_with fail
  generalize (w.alloc (.cells #[.slice A g.arena.owner.length c, n, p] 32)).alloc (.cells #[s, .slice T l.snd.length tc] 50) = w0 at *
  refine (noPlan_any _ g.arena _ (ha.kept (Kept.of hbw)) (by omega)).mono ?_
  rintro e w3 ⟨b, rfl, hg0, hM, hb3⟩
  have hB2 := hB
  have hD2 := hD
  have hbw2 := hbw
  have hw2 := hbw.size
  clear hBc0 hBc1 hBc2 hDc0 hDc1 hBz hDz
  replace hB := hB.below hb3 hB.lt
  replace hD := hD.below hb3 hD.lt
  replace hbw := Below.up hbw hb3
  have hb3s := hb3.size
  have hBz := hB.lt
  have hBc0 := hB.c0
  have hBc1 := hB.c1
  have hBc2 := hB.c2
  have hDz := hD.lt
  have hDc0 := hD.c0
  have hDc1 := hD.c1
  go_wp2
  clear hBc0 hBc1 hBc2 hDc0 hDc1 hBz hDz
  have hbg : Below w0.heap.size w0 w3 := hb3
  clear hb3
  go_loopw [16] (fun i wr => ∃ (k : Nat) (m : List Int), k ≤ l.snd.length ∧ i = .int .i64 k ∧ IArr wr b m ∧ m.length = g.arena.owner.length ∧ (∀ j, j < g.arena.owner.length → ix m j = if j < k then partAt g.arena who l.snd j else -1) ∧ Below w0.heap.size w0 wr) (fun i _ => l.snd.length - (intOf i).toNat)
  case atStart => exact ⟨0, _, Nat.zero_le _, rfl, hM, by simp, fun j hj => by rw [ix_noneL hj, if_neg (by omega)], hbg⟩
  case round =>
    obtain ⟨k, m, hk, rfl, hM, hl, hm, hbr⟩ := hrel
    have Hl := Lib.hid hl
    have Hm := Lib.hid hm
    clear hl hm
    replace hB := hB2.below hbr hB2.lt
    replace hD := hD2.below hbr hD2.lt
    replace hbw := Below.up hbw2 hbr
    have hBz := hB.lt
    have hBc0 := hB.c0
    have hBc1 := hB.c1
    have hBc2 := hB.c2
    have hDz := hD.lt
    have hDc0 := hD.c0
    have hDc1 := hD.c1
    by_cases hlt : k < l.snd.length
    · have hko : k < g.arena.owner.length := by rw [← Hol.out, ← Hpl.out]; exact hlt
      obtain ⟨a3, ea, hc3⟩ := ((ho.kept (Kept.of hbw))).at_ hko
      subst ea
      obtain ⟨a4, ea, hc4⟩ := ((ht.kept (Kept.of hbw))).at_ hlt
      subst ea
      have hc5 := hM.cell (k := k) (by rw [Hl.out]; exact hko)
      have hf5 := hM.frozen k
      have hset := hM.set_ k (ix l.snd k)
      have hko' : (k : Int) < g.arena.owner.length := by omega
      by_cases e : ix g.arena.owner k = who
      · have hd : (ix g.arena.owner k == who) = true := by simpa using e
        have E := Lib.hid e
        clear e
        go_wp2
        refine ⟨⟨k + 1, _, by omega, by go_num, hset, by simpa using Hl.out, fun j hj => ?_, hbr.setCell hg0 _⟩, by simp [intOf]; omega⟩
        rw [ix_set (by rw [Hl.out]; exact hko), Hm.out j hj]
        by_cases ej : j = k
        · subst ej; rw [if_pos rfl, if_pos (by omega)]; unfold partAt; rw [if_pos E.out]
        · rw [if_neg ej]
          by_cases ek : j < k
          · rw [if_pos ek, if_pos (by omega)]
          · rw [if_neg ek, if_neg (by omega)]
      · have hd : (ix g.arena.owner k == who) = false := by simpa using e
        have E := Lib.hid e
        clear e
        go_wp2
        refine ⟨⟨k + 1, _, by omega, by go_num, hM, Hl.out, fun j hj => ?_, hbr⟩, by simp [intOf]; omega⟩
        rw [Hm.out j hj]
        by_cases ej : j = k
        · subst ej; rw [if_neg (by omega), if_pos (by omega)]; unfold partAt; rw [if_neg E.out]
        · by_cases ek : j < k
          · rw [if_pos ek, if_pos (by omega)]
          · rw [if_neg ek, if_neg (by omega)]
    · have hk' : g.arena.owner.length ≤ k := by rw [← Hol.out, ← Hpl.out]; omega
      have hll : m = partTo g.arena who l.snd g.arena.owner.length := int_range_ext (by simpa using Hl.out) fun j hj => by
        rw [length_partTo] at hj
        rw [ix_partTo hj, Hm.out j hj, if_pos (by omega)]
      subst hll
      have hown := hM.own (B := w.heap.size) (by omega) (by simp; omega)
      rw [length_partTo] at hown
      go_wp2
      go_ret
      exact .mk' hown hbw

set_option maxRecDepth 100000 in
set_option maxHeartbeats 2000000 in
theorem l6Form_any (v : Value) (g : ParityD) (u : Value) (l : TwoD) (w : World) (hv : IsParity w v g) (hu : IsTwo w u l) :
    Calls Try.prog 91 #[v, u] w fun e w' => e = .returned (.bool (parityOkB g && isAnsB g l)) ∧ Below w.heap.size w w' := by
  obtain ⟨o, n, p, s, t, rfl, rfl, hbw, hB, hD⟩ := parity_answer_box hv hu
  obtain ⟨ha, hp⟩ := hv.parts
  obtain ⟨ho, hn⟩ := ha.parts
  obtain ⟨hs, ht⟩ := hu.parts
  obtain ⟨A, c, rfl, hlc, hcm⟩ := ho.form
  obtain ⟨A', c', rfl, hlc', hcm'⟩ := hn.form
  obtain ⟨P, pc, rfl, hpl, hpm⟩ := hp.form
  obtain ⟨S, sc, rfl, hsl, hsm⟩ := hs.form
  obtain ⟨T, tc, rfl, htl, htm⟩ := ht.form
  cases hE : parityOkB g
  · rw [Bool.false_and]
    go_enter Try.func91, Try.ntmps91
    have hBz := hB.lt
    have hBc0 := hB.c0
    have hBc1 := hB.c1
    have hBc2 := hB.c2
    have hDz := hD.lt
    have hDc0 := hD.c0
    have hDc1 := hD.c1
    go_wp2_with fail
    refine (specParityOk_any _ g _ (hv.kept (Kept.of hbw))).mono ?_
    rintro e w1 ⟨rfl, hb1⟩
    clear hBc0 hBc1 hBc2 hDc0 hDc1 hBz hDz
    replace hB := hB.below hb1 hB.lt
    replace hD := hD.below hb1 hD.lt
    replace hbw := Below.up hbw hb1
    have hb1s := hb1.size
    clear hb1
    have hBz := hB.lt
    have hBc0 := hB.c0
    have hBc1 := hB.c1
    have hBc2 := hB.c2
    have hDz := hD.lt
    have hDc0 := hD.c0
    have hDc1 := hD.c1
    go_wp2
    go_ret
    exact ⟨rfl, hbw⟩
  · rw [Bool.true_and]
    have hok := parityOkB_iff.1 hE
    by_cases h1 : l.fst.length = g.prio.length
    · have hd1 : ((l.fst.length : Int) != (g.prio.length : Int)) = false := by simp [h1]
      by_cases h2 : l.snd.length = g.prio.length
      · have hd2 : ((l.snd.length : Int) != (g.prio.length : Int)) = false := by simp [h2]
        have hres : isAnsB g l = ansAll g.arena l := by unfold isAnsB; rw [decide_eq_true h1, decide_eq_true h2]; rfl
        rw [hres]; clear hres
        obtain ⟨res, hres⟩ : ∃ r, ansAll g.arena l = r := ⟨_, rfl⟩
        rw [hres]
        have Hres := Lib.hid hres
        clear hres
        have Hlen := Lib.hid hok.arena.len
        have Hol := Lib.hid hok.len
        have H1 := Lib.hid h1
        have H2 := Lib.hid h2
        clear h1 h2
        go_enter Try.func91, Try.ntmps91
        have hBz := hB.lt
        have hBc0 := hB.c0
        have hBc1 := hB.c1
        have hBc2 := hB.c2
        have hDz := hD.lt
        have hDc0 := hD.c0
        have hDc1 := hD.c1
        go_wp2_with fail
        refine (specParityOk_any _ g _ (hv.kept (Kept.of hbw))).mono ?_
        rintro e w1 ⟨rfl, hb1⟩
        clear hBc0 hBc1 hBc2 hDc0 hDc1 hBz hDz
        replace hB := hB.below hb1 hB.lt
        replace hD := hD.below hb1 hD.lt
        replace hbw := Below.up hbw hb1
        have hb1s := hb1.size
        clear hb1
        have hBz := hB.lt
        have hBc0 := hB.c0
        have hBc1 := hB.c1
        have hBc2 := hB.c2
        have hDz := hD.lt
        have hDc0 := hD.c0
        have hDc1 := hD.c1
        go_wp2
        clear hd1 hd2
        have hs1 := (hs.kept (Kept.of hbw))
        have ht1 := (ht.kept (Kept.of hbw))
        have ho1 := (ho.kept (Kept.of hbw))
        have hn1 := (hn.kept (Kept.of hbw))
        go_loopw [5] (fun i wr => ∃ k q : Nat, k ≤ l.fst.length ∧ i = .int .i64 k ∧ wr = w1.drewN q ∧ ∀ j, j < k → ansAt g.arena l j = true) (fun i _ => l.fst.length - (intOf i).toNat)
        case atStart => exact ⟨0, 0, Nat.zero_le _, rfl, rfl, fun j hj => by omega⟩
        case round =>
          obtain ⟨k, q, hk, rfl, rfl, hm⟩ := hrel
          have Hm := Lib.hid hm
          clear hm
          by_cases hlt : k < l.fst.length
          · have hko : k < g.arena.owner.length := by rw [← Hol.out, ← H1.out]; exact hlt
            obtain ⟨a1, ea, hc1⟩ := hs1.at_ hlt
            subst ea
            obtain ⟨a2, ea, hc2⟩ := ht1.at_ (k := k) (by rw [H2.out, ← H1.out]; exact hlt)
            subst ea
            obtain ⟨a3, ea, hc3⟩ := ho1.at_ hko
            subst ea
            obtain ⟨a4, R, r, ea, hc4, hrow⟩ := hn1.at_ (k := k) (by rw [Hlen.out]; exact hko)
            subst ea
            have hkl : (k : Int) < g.arena.owner.length := by omega
            have hkl2 : (k : Int) < g.arena.next.length := by rw [Hlen.out]; omega
            have hkl3 : (k : Int) < l.snd.length := by rw [H2.out, ← H1.out]; omega
            have hkl4 : (k : Int) < l.fst.length := by omega
            have hbad : ansAt g.arena l k = false → res = false := fun h => by rw [← Hres.out]; exact ansAll_bad hlt h
            have hplayer := fun W => l1In_player (ix l.fst k) W
            have hhas := fun W (hW : Kept w1 W) => l1Has_any _ (rx g.arena.next k) (ix l.snd k) W (hrow.kept hW)
            cases e1 : playerB (ix l.fst k)
            · have hr : res = false := hbad (by unfold ansAt; rw [e1]; rfl)
              subst hr
              rw [e1] at hplayer
              clear hbad e1 hhas
              go_wp2_with (go_at_call 110; refine (hplayer _).mono ?_; rintro e w' ⟨rfl, hw⟩; subst w')
              go_ret
              exact ⟨rfl, below_drewN hbw _⟩
            · rw [e1] at hplayer
              by_cases e2 : ix g.arena.owner k = ix l.fst k
              · have hd : (ix l.fst k == ix g.arena.owner k) = true := by simpa using e2.symm
                have hat : ansAt g.arena l k = hasB (rx g.arena.next k) (ix l.snd k) := by unfold ansAt; rw [e1, if_pos e2]; rfl
                by_cases e4 : ix l.snd k = -1
                · have hd4 : (ix l.snd k != -1) = false := by simpa using e4
                  have hr : res = false := hbad (by
                    rw [hat, e4]
                    exact hasB_none fun i hi e => by
                      obtain ⟨j, hj, _⟩ := hok.arena.vert_next hko i hi
                      omega)
                  subst hr
                  clear hbad e1 e2 e4 hat hhas
                  go_wp2_with (go_at_call 110; refine (hplayer _).mono ?_; rintro e w' ⟨rfl, hw⟩; subst w')
                  go_quiet (fail)
                  obtain ⟨n1, hn1⟩ : ∃ n1, n1 = nq := ⟨_, rfl⟩; subst hn1
                  go_wp2
                  go_quiet (fail)
                  go_wp2
                  go_ret
                  exact ⟨rfl, below_drewN (below_drewN (below_drewN hbw _) _) _⟩
                · have hd4 : (ix l.snd k != -1) = true := by simpa using e4
                  cases e3 : hasB (rx g.arena.next k) (ix l.snd k)
                  · have hr : res = false := hbad (by rw [hat, e3])
                    subst hr
                    rw [e3] at hhas
                    clear hbad e1 e2 e3 e4 hat
                    go_wp2_with (go_at_call 110; refine (hplayer _).mono ?_; rintro e w' ⟨rfl, hw⟩; subst w')
                    go_quiet (fail)
                    obtain ⟨n1, hn1⟩ : ∃ n1, n1 = nq := ⟨_, rfl⟩; subst hn1
                    go_wp2
                    go_quiet ((go_at_call 111; first | exact Calls.quiet_of_same (hhas _ (fun _ _ => rfl)) | exact Calls.quiet_of (hhas _ (fun _ _ => rfl)) | exact quiet_add (quiet_same (hhas _ (fun _ _ => rfl))) | exact quiet_add (hhas _ (fun _ _ => rfl))))
                    go_wp2
                    go_ret
                    exact ⟨rfl, below_drewN (below_drewN (below_drewN hbw _) _) _⟩
                  · have Hat := Lib.hid (hat.trans e3)
                    rw [e3] at hhas
                    clear hbad e1 e2 e3 e4 hat
                    go_wp2_with (go_at_call 110; refine (hplayer _).mono ?_; rintro e w' ⟨rfl, hw⟩; subst w')
                    go_quiet (fail)
                    obtain ⟨n1, hn1⟩ : ∃ n1, n1 = nq := ⟨_, rfl⟩; subst hn1
                    go_wp2
                    go_quiet ((go_at_call 111; first | exact Calls.quiet_of_same (hhas _ (fun _ _ => rfl)) | exact Calls.quiet_of (hhas _ (fun _ _ => rfl)) | exact quiet_add (quiet_same (hhas _ (fun _ _ => rfl))) | exact quiet_add (hhas _ (fun _ _ => rfl))))
                    go_wp2
                    exact ⟨⟨k + 1, q + n1 + nq, by omega, by go_num, by simp [Nat.add_assoc], fun i hi => by
                      by_cases ei : i = k
                      · rw [ei]; exact Hat.out
                      · exact Hm.out i (by omega)⟩, by simp [intOf]; omega⟩
              · have hd : (ix l.fst k == ix g.arena.owner k) = false := by simpa using fun h : ix l.fst k = ix g.arena.owner k => e2 h.symm
                have hat : ansAt g.arena l k = decide (ix l.snd k = -1) := by unfold ansAt; rw [e1, if_neg e2]; rfl
                by_cases e3 : ix l.snd k = -1
                · have hd3 : (ix l.snd k != -1) = false := by simpa using e3
                  have Hat := Lib.hid (hat.trans (decide_eq_true e3))
                  clear hbad e1 e2 e3 hat hhas
                  go_wp2_with (go_at_call 110; refine (hplayer _).mono ?_; rintro e w' ⟨rfl, hw⟩; subst w')
                  go_quiet (fail)
                  obtain ⟨n1, hn1⟩ : ∃ n1, n1 = nq := ⟨_, rfl⟩; subst hn1
                  go_wp2
                  go_quiet (fail)
                  go_wp2
                  exact ⟨⟨k + 1, q + n1 + nq, by omega, by go_num, by simp [Nat.add_assoc], fun i hi => by
                    by_cases ei : i = k
                    · rw [ei]; exact Hat.out
                    · exact Hm.out i (by omega)⟩, by simp [intOf]; omega⟩
                · have hd3 : (ix l.snd k != -1) = true := by simpa using e3
                  have hr : res = false := hbad (by rw [hat, decide_eq_false e3])
                  subst hr
                  clear hbad e1 e2 e3 hat hhas
                  go_wp2_with (go_at_call 110; refine (hplayer _).mono ?_; rintro e w' ⟨rfl, hw⟩; subst w')
                  go_quiet (fail)
                  obtain ⟨n1, hn1⟩ : ∃ n1, n1 = nq := ⟨_, rfl⟩; subst hn1
                  go_wp2
                  go_quiet (fail)
                  go_wp2
                  go_ret
                  exact ⟨rfl, below_drewN (below_drewN (below_drewN hbw _) _) _⟩
          · have hr : res = true := by
              rw [← Hres.out]; unfold ansAll; rw [decide_eq_true_eq]; exact fun j hj => Hm.out j (by omega)
            subst hr
            go_wp2
            go_ret
            exact ⟨rfl, below_drewN hbw _⟩
      · have hd2 : ((l.snd.length : Int) != (g.prio.length : Int)) = true := by simp; omega
        have hres : isAnsB g l = false := by unfold isAnsB; rw [decide_eq_false h2]; simp
        rw [hres]; clear hres h1
        go_enter Try.func91, Try.ntmps91
        have hBz := hB.lt
        have hBc0 := hB.c0
        have hBc1 := hB.c1
        have hBc2 := hB.c2
        have hDz := hD.lt
        have hDc0 := hD.c0
        have hDc1 := hD.c1
        go_wp2_with fail
        refine (specParityOk_any _ g _ (hv.kept (Kept.of hbw))).mono ?_
        rintro e w1 ⟨rfl, hb1⟩
        clear hBc0 hBc1 hBc2 hDc0 hDc1 hBz hDz
        replace hB := hB.below hb1 hB.lt
        replace hD := hD.below hb1 hD.lt
        replace hbw := Below.up hbw hb1
        have hb1s := hb1.size
        clear hb1
        have hBz := hB.lt
        have hBc0 := hB.c0
        have hBc1 := hB.c1
        have hBc2 := hB.c2
        have hDz := hD.lt
        have hDc0 := hD.c0
        have hDc1 := hD.c1
        go_wp2
        go_ret
        exact ⟨rfl, hbw⟩
    · have hd1 : ((l.fst.length : Int) != (g.prio.length : Int)) = true := by simp; omega
      have hres : isAnsB g l = false := by unfold isAnsB; rw [decide_eq_false h1]; rfl
      rw [hres]; clear hres
      go_enter Try.func91, Try.ntmps91
      have hBz := hB.lt
      have hBc0 := hB.c0
      have hBc1 := hB.c1
      have hBc2 := hB.c2
      have hDz := hD.lt
      have hDc0 := hD.c0
      have hDc1 := hD.c1
      go_wp2_with fail
      refine (specParityOk_any _ g _ (hv.kept (Kept.of hbw))).mono ?_
      rintro e w1 ⟨rfl, hb1⟩
      clear hBc0 hBc1 hBc2 hDc0 hDc1 hBz hDz
      replace hB := hB.below hb1 hB.lt
      replace hD := hD.below hb1 hD.lt
      replace hbw := Below.up hbw hb1
      have hb1s := hb1.size
      clear hb1
      have hBz := hB.lt
      have hBc0 := hB.c0
      have hBc1 := hB.c1
      have hBc2 := hB.c2
      have hDz := hD.lt
      have hDc0 := hD.c0
      have hDc1 := hD.c1
      go_wp2
      go_ret
      exact ⟨rfl, hbw⟩

set_option maxRecDepth 100000 in
set_option maxHeartbeats 2000000 in
theorem l6Part_any (v : Value) (g : ParityD) (u : Value) (l : TwoD) (who : Int) (w : World) (hv : IsParity w v g) (hu : IsTwo w u l) (hok : ParityOk g) (hans : AnsOk g l) :
    Calls Try.prog 93 #[v, u, .int .i64 who] w (RetInts w (partTo g.arena who l.snd g.prio.length)) := by
  obtain ⟨o, n, p, s, t, rfl, rfl, hbw, hB, hD⟩ := parity_answer_box hv hu
  obtain ⟨ha, hp⟩ := hv.parts
  obtain ⟨ho, hn⟩ := ha.parts
  obtain ⟨hs, ht⟩ := hu.parts
  obtain ⟨A, c, rfl, hlc, hcm⟩ := ho.form
  obtain ⟨T, tc, rfl, htl, htm⟩ := ht.form
  have Hol := Lib.hid hok.len
  have Hpl := Lib.hid hans.plan
  have hle := hok.arena.le
  have hpo : g.prio.length = l.snd.length := hans.plan.symm
  rw [hpo]
  clear hpo
  have hle2 : l.snd.length ≤ 256 := by rw [Hpl.out, Hol.out]; exact hle
  obtain ⟨hown, hbn⟩ := new_ints ((w.alloc (.cells #[.slice A g.arena.owner.length c, n, p] 32)).alloc (.cells #[s, .slice T l.snd.length tc] 50))
  have hsz := Lib.hid (show ((w.alloc (.cells #[.slice A g.arena.owner.length c, n, p] 32)).alloc (.cells #[s, .slice T l.snd.length tc] 50)).heap.size = w.heap.size + 1 + 1 by simp)
  have hw0 := hbw.size
  go_enter Try.func93, Try.ntmps93
  go_wp2
  generalize (w.alloc (.cells #[.slice A g.arena.owner.length c, n, p] 32)).alloc (.cells #[s, .slice T l.snd.length tc] 50) = w0 at *
  generalize w0.alloc (.cells #[] 2) = w1 at *
  go_loopw [7, 8] (fun v i wr => ∃ k : Nat, k ≤ l.snd.length ∧ i = .int .i64 k ∧ OwnInts wr w0.heap.size v (partTo g.arena who l.snd k) ∧ Below w0.heap.size w0 wr) (fun _ i _ => l.snd.length - (intOf i).toNat)
  case atStart => exact ⟨0, Nat.zero_le _, rfl, by rw [← hsz.out]; exact hown, hbn⟩
  case round =>
    obtain ⟨k, hk, rfl, hown, hbr⟩ := hrel
    have hbs := hbr.size
    replace hB := hB.below hbr hB.lt
    replace hD := hD.below hbr hD.lt
    replace hbw := Below.up hbw hbr
    have hbrs := hbr.size
    have hBz := hB.lt
    have hBc0 := hB.c0
    have hBc1 := hB.c1
    have hBc2 := hB.c2
    have hDz := hD.lt
    have hDc0 := hD.c0
    have hDc1 := hD.c1
    by_cases hlt : k < l.snd.length
    · have hko : k < g.arena.owner.length := by rw [← Hol.out, ← Hpl.out]; exact hlt
      obtain ⟨a3, ea, hc3⟩ := ((ho.kept (Kept.of hbw))).at_ hko
      subst ea
      obtain ⟨a4, ea, hc4⟩ := ((ht.kept (Kept.of hbw))).at_ hlt
      subst ea
      have hlen : (partTo g.arena who l.snd k).length ≤ 1048576 := by simp; omega
      have Hs := Lib.hid (partTo_succ g.arena who l.snd k)
      have hko' : (k : Int) < g.arena.owner.length := by omega
      have hlt' : (k : Int) < l.snd.length := by omega
      by_cases e : ix g.arena.owner k = who
      · have hd : (ix g.arena.owner k == who) = true := by simpa using e
        have E := Lib.hid (show partAt g.arena who l.snd k = ix l.snd k by unfold partAt; rw [if_pos e])
        clear e
        go_wp2_with (at_builtin; refine append_int _ rfl (.tmp 25) (.tmp 31) rfl w0.heap.size u7 _ rfl hown (ix l.snd k) rfl (by omega) hbs ?_; intro v1 w3 ho1 hb1 hg1 hl1)
        exact ⟨⟨k + 1, by omega, by go_num, by rw [Hs.out, E.out]; exact ho1, hbr.trans hb1⟩, by simp [intOf]; omega⟩
      · have hd : (ix g.arena.owner k == who) = false := by simpa using e
        have E := Lib.hid (show partAt g.arena who l.snd k = -1 by unfold partAt; rw [if_neg e])
        clear e
        go_wp2_with (at_builtin; refine append_int _ rfl (.tmp 33) (.tmp 34) rfl w0.heap.size u7 _ rfl hown (-1) rfl (by omega) hbs ?_; intro v1 w3 ho1 hb1 hg1 hl1)
        exact ⟨⟨k + 1, by omega, by go_num, by rw [Hs.out, E.out]; exact ho1, hbr.trans hb1⟩, by simp [intOf]; omega⟩
    · obtain rfl : k = l.snd.length := by omega
      go_wp2
      go_ret
      exact .mk' (hown.more (by omega)) hbw

end Go.Proofs.Ytpnophmanpfejaa
