/- The walk of the solver's won: who wins what in a part. Conditions: the game is valid, every vertex of the part has a successor in it. -/
import Derived.Test.YtmkmghjmfaoobaaPkC
import Derived.Test.YtmkmghjmfaoobaaPullWalks
import Derived.Test.YtmkmghjmfaoobaaPkB
namespace Go.Proofs.Ytmkmghjmfaoobaa
set_option linter.unusedSimpArgs false
set_option linter.unusedVariables false
open Go.RowKit

set_option maxHeartbeats 400000 in
theorem IndexB_any (v : Value) (l : List Bool) (w : World) (hv : Bools w v l) :
    Calls Try.prog 121 #[v, .bool true] w fun e w' => ∃ x : Int, e = .returned (.int .i64 x) ∧ (0 ≤ x ↔ anyB l = true) ∧ w' = w := by
  obtain ⟨A, c, rfl, hlc, hcm⟩ := hv.form
  go_enter Try.func121, Try.ntmps121
  go_wp2
  go_loop [8] (fun i => ∃ k : Nat, k ≤ l.length ∧ i = .int .i64 k ∧ ∀ j, j < k → bx l j = false) (fun i => l.length - (intOf i).toNat)
  case atStart => exact ⟨0, Nat.zero_le _, rfl, fun j hj => by omega⟩
  case round =>
    obtain ⟨k, hk, rfl, hm⟩ := hrel
    have Hm := Lib.hid hm
    clear hm
    by_cases hlt : k < l.length
    · obtain ⟨a1, rfl, hc⟩ := hv.at_ hlt
      cases e : bx l k
      · rw [e] at hc
        have He := Lib.hid e
        clear e
        go_wp2
        exact ⟨⟨k + 1, by omega, by go_num, fun j hj => by
          by_cases hjk : j = k
          · subst hjk; exact He.out
          · exact Hm.out j (by omega)⟩, by simp [intOf]; omega⟩
      · rw [e] at hc
        have Ht := Lib.hid (anyB_iff.2 ⟨k, e⟩)
        clear e
        go_wp2
        go_ret
        exact ⟨_, rfl, ⟨fun _ => Ht.out, fun _ => by omega⟩, rfl⟩
    · have hf : anyB l = false := anyB_false.2 fun v hv => by
        have h1 := hv.lt
        have h2 := Hm.out v (by omega)
        unfold On at hv
        rw [h2] at hv; cases hv
      have Hf := Lib.hid hf
      clear hf
      go_wp2
      go_ret
      exact ⟨-1, rfl, ⟨fun h => by omega, fun h => by rw [Hf.out] at h; cases h⟩, rfl⟩
theorem ContainsB_any (v : Value) (l : List Bool) (w : World) (hv : Bools w v l) :
    Calls Try.prog 114 #[v, .bool true] w fun e w' => e = .returned (.bool (anyB l)) ∧ w' = w := by
  go_enter Try.func114, Try.ntmps114
  go_wp2_with fail
  refine (IndexB_any v l _ hv).mono ?_
  rintro e w' ⟨x, rfl, hx, rfl⟩
  cases h : anyB l
  · rw [h] at hx
    have hx0 : x < 0 := by
      by_cases h0 : 0 ≤ x
      · exact absurd (hx.1 h0) (by simp)
      · omega
    have Hh := Lib.hid h
    have Hd : Hid (decide (0 ≤ x) = false) := Lib.hid (by simpa using hx0)
    clear hx h
    go_wp2
    go_ret
    exact ⟨by rw [Hh.out, ← Hd.out]; rfl, rfl⟩
  · rw [h] at hx
    have hx0 : 0 ≤ x := hx.2 rfl
    have Hh := Lib.hid h
    clear hx h
    go_wp2
    go_ret
    exact ⟨by rw [Hh.out]; rfl, rfl⟩

/-- What won gives back. -/
def RetWon (w : World) (g : Duel) (m : List Bool) (e : Ending) (w' : World) : Prop := ∃ v r i, e = .returned (.tuple #[v, .int .i64 i]) ∧ Bools w' v r ∧ Hid (WonB g m r i) ∧ Below w.heap.size w w'

theorem won_none (S : Nat) (u : Value) (g : Duel) (m : List Bool) (w : World) (hu : Bools w u m) (hl : m.length ≤ 1048576) (hnone : NoneOn m) :
    Calls Try.prog 95 #[.pointer (some ⟨S, 0, none⟩), u] w (RetWon w g m) := by
  have Hn := Lib.hid (markedL_nil.2 hnone)
  have Hw := Lib.hid (WonB.empty (g := g) hnone)
  obtain ⟨A, c, rfl, hlc, hcm⟩ := hu.form
  go_enter Try.func95, Try.ntmps95
  go_wp2_with fail
  refine (listOf_any _ m _ hu hl).mono ?_
  rintro e w1 ⟨u1, rfl, hQ, hb1⟩
  rw [Hn.out] at hQ
  obtain ⟨A1, c1, rfl, _⟩ := hQ.ints.form
  go_wp2
  go_ret2
  exact ⟨_, m, 0, rfl, hu.kept (Kept.of hb1), Hw, hb1⟩

set_option maxRecDepth 100000 in
set_option maxHeartbeats 4000000 in
theorem won_any (cn : Nat) : ∀ (S : Nat) (a : ArenaD) (p : List Int) (o n pv q : Value) (u : Value) (m : List Bool) (w : World), Hid (m.count true ≤ cn) → IsSolver w S a p o n pv q → Bools w u m →
    ArenaOk a → Hid (m.length = a.owner.length) → Hid (p.length = a.owner.length) → Hid (∀ v, v < p.length → 0 ≤ ix p v ∧ ix p v ≤ 40) → Hid (Tot (duel a.owner p a.next) (On m)) →
    Calls Try.prog 95 #[.pointer (some ⟨S, 0, none⟩), u] w (RetWon w (duel a.owner p a.next) m) := by
  induction cn with
  | zero =>
    intro S a p o n pv q u m w Hc hS hu hok Hm Hp Hpr Ht
    have hle := hok.le
    refine won_none S u _ m w hu (by have := Hm.out; omega) fun v hv => ?_
    have h1 : 0 < m.count true := List.count_pos_iff.2 (by have := hv; unfold On at this; rw [bx_lt hv.lt] at this; rw [← this]; exact List.getElem_mem _)
    have := Hc.out
    omega
  | succ cn ih =>
    intro S a p o n pv q u m w Hc hS hu hok Hm Hp Hpr Ht
    have hle := hok.le
    cases hany : anyB m
    · exact won_none S u _ m w hu (by have := Hm.out; omega) (anyB_false.1 hany)
    have Hih := Lib.hid ih
    clear ih
    have Hany := Lib.hid (anyB_iff.1 hany)
    clear hany
    have hne : markedL m ≠ [] := fun h => by obtain ⟨v, hv⟩ := Hany.out; exact markedL_nil.1 h v hv
    obtain ⟨T, hT⟩ : ∃ T, topL p (markedL m) = T := ⟨_, rfl⟩
    have hmem : ∀ x ∈ markedL m, ∃ j : Nat, x = (j : Int) ∧ j < p.length ∧ On m j := fun x hx => by
      obtain ⟨j, h1, h2, h3⟩ := mem_markedL.1 hx
      exact ⟨j, h2, by have := Hm.out; have := Hp.out; omega, h3⟩
    obtain ⟨xt, hxt, hxe⟩ := topL_at (p := p) hne fun x hx => by
      obtain ⟨j, rfl, hj, _⟩ := hmem x hx
      exact (Hpr.out _ (by simpa using hj)).1
    obtain ⟨jt, rfl, hjt, hjm⟩ := hmem xt hxt
    rw [Int.toNat_natCast] at hxe
    have HtT : Hid (∀ v, On m v → ix p v ≤ T) := Lib.hid fun v hv => by
      have := topL_ge (p := p) (mem_markedL.2 ⟨v, hv.lt, rfl, hv⟩)
      rw [Int.toNat_natCast] at this
      omega
    have hT0 : 0 ≤ T := by have := (Hpr.out jt hjt).1; omega
    have hT1 : T ≤ 40 := by have := (Hpr.out jt hjt).2; omega
    have Hjt : Hid (On m jt ∧ ix p jt = T) := Lib.hid ⟨hjm, by omega⟩
    have Hlp := Lib.hid (fun k (hk : k < (markedL m).length) => hmem (ix (markedL m) k) (mem_ix.2 ⟨k, hk, rfl⟩))
    clear hne hmem hxt hxe hjm hjt
    obtain ⟨UA, uc, rfl, huc, hum⟩ := hu.form
    have hml : (markedL m).length ≤ m.length := markedTo_len m m.length
    have Hne : Hid (0 < (markedL m).length) := Lib.hid (by
      obtain ⟨v, hv⟩ := Hany.out
      exact List.length_pos_of_mem (mem_markedL.2 ⟨v, hv.lt, rfl, hv⟩))
    have hg0 : IsParity w (.agg #[o, n, pv]) ⟨a, p⟩ := ⟨o, n, pv, rfl, hS.owner, hS.next, hS.prio⟩
    have hSz := hS.arr.lt
    go_enter Try.func95, Try.ntmps95
    go_wp2_with fail
    refine (listOf_any _ m _ hu (by have := Hm.out; omega)).mono ?_
    rintro e w1 ⟨u1, rfl, hQ, hb1⟩
    obtain ⟨A1, c1, rfl, hqc, hqm⟩ := hQ.ints.form
    have hS1 := hS.below hb1
    have hc0 := hS1.arr.c0
    have hc1 := hS1.arr.c1
    have hc2 := hS1.arr.c2
    have hne' : ((markedL m).length : Int) ≠ 0 := by have := Hne.out; omega
    have hne2 : ((((markedL m).length : Nat) : Int) == 0) = false := by simpa using hne'
    go_wp2_with fail
    refine (topIn_any _ ⟨a, p⟩ _ (markedL m) _ (hg0.kept (Kept.of hb1)) hQ.ints (fun k hk => by obtain ⟨j, h1, h2, _⟩ := Hlp.out k hk; exact ⟨j, h1, h2⟩)).mono ?_
    rintro e w2 ⟨rfl, hb2⟩
    have hT' : topL p (markedL m) = T := hT
    rw [hT']
    clear hT hT' hc0 hc1 hc2 hQ
    have hbw2 := Below.up hb1 hb2
    clear hb1 hb2 hS1 hg0
    obtain ⟨hn0, hbn⟩ := new_bools w2
    have hu2 := (hu.kept (Kept.of hbw2)).kept (Kept.of hbn)
    have hs0 : w2.heap.size ≤ (w2.alloc (.cells #[] 4)).heap.size := hbn.size
    have Hwho : Hid (T % 2 = 0 ∨ T % 2 = 1) := Lib.hid (by omega)
    have hm0 : 0 ≤ T % 2 := by omega
    have hm1 : T % 2 ≤ 1 := by omega
    have Hown : Hid (∀ v, On m v → (duel a.owner p a.next).own v = T % 2 ∨ (duel a.owner p a.next).own v = 1 - T % 2) := Lib.hid fun v hv => by
      have h1 := hok.owner (v := v) (by rw [← Hm.out]; exact hv.lt)
      show ix a.owner v = T % 2 ∨ ix a.owner v = 1 - T % 2
      omega
    go_wp2_with (at_builtin; refine append_bools elem_bool _ rfl (.tmp 30) (.tmp 31) rfl w2.heap.size _ [] rfl hn0 _ m rfl hu2 (by have := Hm.out; simp; omega) hs0 ?_; intro v1 w3 ho1 hb3 hg3 hl3)
    rw [List.nil_append] at ho1
    replace ho1 : OwnBools w3 w2.heap.size v1 m := ho1
    have hbw3 : Below w.heap.size w w3 := hbw2.trans ((hbn.trans hb3).mono hbw2.size)
    have hnow0 := ho1.bools
    have Hc1 : Hid (m.count true ≤ 1024) := Lib.hid (by have := List.count_le_length (a := true) (l := m); have := Hm.out; omega)
    clear hu2 hs0 hn0 ho1 hb3 hg3 hl3 hbn hbw2
    obtain ⟨N0, n0, rfl, _⟩ := hnow0.form
    go_wp2_with fail
    go_loopg [9] 1024 (fun gk now wx => ∃ nm : List Bool, Bools wx now nm ∧ Hid (nm.length = m.length) ∧ Hid (Rounds (duel a.owner p a.next) (1 - T % 2) (On m) (On nm)) ∧ Hid (nm = m ∨ nm.count true < m.count true) ∧ Hid (nm.count true ≤ gk) ∧ gk ≤ 1024 ∧ Below w.heap.size w wx)
    case atStart => exact ⟨m, hnow0, Lib.hid rfl, Lib.hid (Rounds.start Ht.out), Lib.hid (.inl rfl), Hc1, Nat.le_refl _, hbw3⟩
    case round =>
      obtain ⟨nm, hnow, Hnl, Hrd, Hfirst, HM, hgk, hbw⟩ := hrel
      obtain ⟨wo, rfl⟩ : ∃ wo : World, wo = wr := ⟨_, rfl⟩
      obtain ⟨NA, nc, rfl, hnc, hncm⟩ := hnow.form
      have hmk := make_one elem_bool m.length (by have := Hm.out; omega)
      go_wp2
      clear hmk
      have hM := BArr.new wo m.length
      have hbo := (Below.refl wo.heap.size wo).alloc (Nat.le_refl _) (.cells (zeros (.bool false) m.length).toArray 4)
      generalize wo.alloc (.cells (zeros (.bool false) m.length).toArray 4) = w4 at *
      have hbs := hbw.size
      go_loopw [38] (fun i wr => ∃ (k : Nat) (ml : List Bool), k ≤ m.length ∧ i = .int .i64 k ∧ BArr wr wo.heap.size ml ∧ Hid (ml.length = m.length) ∧ Hid (∀ j, j < k → bx ml j = bx (goalL nm p T) j) ∧ Below wo.heap.size wo wr) (fun i _ => m.length - (intOf i).toNat)
      case atStart => exact ⟨0, _, Nat.zero_le _, rfl, hM, Lib.hid (by simp), Lib.hid (fun j hj => by omega), hbo⟩
      case round =>
        obtain ⟨k, ml, hk, rfl, hM, Hml, Hmm, hbx⟩ := hrel
        have hbxs := hbx.size
        by_cases hlt : k < m.length
        · obtain ⟨a1, rfl, hc1⟩ := (hnow.kept (Kept.of hbx)).at_ (k := k) (by rw [Hnl.out]; exact hlt)
          have hlt1 : (k : Int) < nm.length := by rw [Hnl.out]; omega
          have hlt2 : (k : Int) < m.length := by omega
          have hf2 := hM.frozen k
          have Hset := fun x => Lib.hid (hM.set_ k x)
          have Hr := Lib.hid (bx_goalL nm p T k)
          have Hbx := fun x j => Lib.hid (bx_set (l := ml) (k := k) (j := j) (x := x) (by rw [Hml.out]; exact hlt))
          have Hkey : Hid (∀ x, bx (goalL nm p T) k = x → ∀ j, j < k + 1 → bx (ml.set k x) j = bx (goalL nm p T) j) := Lib.hid fun x hx j hj => by
            rw [(Hbx x j).out]
            by_cases e : j = k
            · rw [if_pos e, e, hx]
            · rw [if_neg e]; exact Hmm.out j (by omega)
          have hcM := hM.cell (k := k) (by rw [Hml.out]; exact hlt)
          clear hM
          cases e1 : bx nm k
          · rw [e1] at hc1 Hr
            clear e1
            go_wp2
            exact ⟨⟨k + 1, ml.set k false, by omega, by go_num, (Hset false).out, Lib.hid (by rw [List.length_set]; exact Hml.out), Lib.hid (Hkey.out false Hr.out), hbx.setCell (by simp) _⟩, by simp [intOf]; omega⟩
          · rw [e1] at hc1 Hr
            clear e1
            have hSr := hS.arr.below (hbw.trans (hbx.mono hbs)) hSz
            have hs2 := hSr.c2
            clear hSr
            obtain ⟨PA, pc, ep, hpc, hpm⟩ := hS.prio.form
            obtain ⟨a2, ea2, hc2⟩ := (ep ▸ hS.prio : Ints w (.slice PA p.length pc) p).at_ (k := k) (by rw [Hp.out, ← Hm.out]; exact hlt)
            subst ep ea2
            have hc2' := (Kept.of (hbw.trans (hbx.mono hbs))).cell hc2
            have hlt3 : (k : Int) < p.length := by rw [Hp.out, ← Hm.out]; omega
            clear hc2
            by_cases g : ix p k = T
            · have hd : (ix p k == T) = true := by simpa using g
              rw [show decide (ix p k = T) = true by simpa using g] at Hr
              go_wp2
              exact ⟨⟨k + 1, ml.set k true, by omega, by go_num, (Hset true).out, Lib.hid (by rw [List.length_set]; exact Hml.out), Lib.hid (Hkey.out true Hr.out), hbx.setCell (by simp) _⟩, by simp [intOf]; omega⟩
            · have hd : (ix p k == T) = false := by simpa using g
              rw [show decide (ix p k = T) = false by simpa using g] at Hr
              go_wp2
              exact ⟨⟨k + 1, ml.set k false, by omega, by go_num, (Hset false).out, Lib.hid (by rw [List.length_set]; exact Hml.out), Lib.hid (Hkey.out false Hr.out), hbx.setCell (by simp) _⟩, by simp [intOf]; omega⟩
        · obtain rfl : k = m.length := by omega
          have hres : ml = (goalL nm p T) := bools_ext (by rw [Hml.out, length_goalL, Hnl.out]) fun j hj => Hmm.out j (by rw [length_goalL, Hnl.out] at hj; exact hj)
          subst hres
          have hgB := hM.bools (by rw [Hml.out, Hm.out]; omega)
          rw [Hml.out] at hgB
          have Hgl := Hml
          clear Hml Hmm hM
          have hSW := hS.below (hbw.trans (hbx.mono hbs))
          go_wp2_with fail
          refine (pull_any S a p o n pv q (T % 2) _ nm _ (goalL nm p T) _ hSW (hnow.kept (Kept.of hbx)) hgB hok (by rw [Hnl.out, Hm.out]) (by rw [Hgl.out, Hm.out]) (fun x hx => (on_goalL.1 hx).1)).mono ?_
          rintro e w5 ⟨va, rfl, hva, hb5⟩
          replace hbx := Below.up hbx hb5
          clear hSW hgB
          obtain ⟨V1, x1, rfl, _⟩ := hva.bools.form
          have hva' := hva.bools
          simp only [length_attL, length_restL] at hva'
          go_wp2_with fail
          refine (without_any _ nm _ (attL (duel a.owner p a.next) (T % 2) a.owner.length (On nm) (On (goalL nm p T))) _ (hnow.kept (Kept.of hbx)) hva' (by rw [length_attL, Hnl.out, Hm.out]) (by rw [Hnl.out, Hm.out]; omega)).mono ?_
          rintro e w6 ⟨vr, rfl, hvr, hb6⟩
          replace hbx := Below.up hbx hb6
          obtain ⟨V2, x2, rfl, _⟩ := hvr.bools.form
          have hrest := hvr.bools
          simp only [length_attL, length_restL] at hrest
          clear hva hva' hvr hb5 hb6
          have hSW := hS.below (hbw.trans (hbx.mono hbs))
          have Hrlen : Hid ((restL nm (attL (duel a.owner p a.next) (T % 2) a.owner.length (On nm) (On (goalL nm p T)))).length = m.length) := Lib.hid (by rw [length_restL, Hnl.out])
          have Hcr : Hid ((restL nm (attL (duel a.owner p a.next) (T % 2) a.owner.length (On nm) (On (goalL nm p T)))).count true ≤ cn) := Lib.hid (by
            have h1 := restL_le nm (attL (duel a.owner p a.next) (T % 2) a.owner.length (On nm) (On (goalL nm p T)))
            have h2 := Hc.out
            rcases Hfirst.out with e | e
            · have h3 : (restL nm (attL (duel a.owner p a.next) (T % 2) a.owner.length (On nm) (On (goalL nm p T)))).count true < nm.count true := att_any (g := (duel a.owner p a.next)) (who := T % 2) (by rw [Hnl.out, Hm.out]) (fun v hv => (on_goalL.1 hv).1) ⟨jt, on_goalL.2 ⟨by rw [e]; exact Hjt.out.1, Hjt.out.2⟩⟩
              rw [e] at h3 ⊢
              omega
            · omega)
          go_wp2_with fail
          refine (Hih.out S a p o n pv q _ (restL nm (attL (duel a.owner p a.next) (T % 2) a.owner.length (On nm) (On (goalL nm p T)))) _ Hcr hSW hrest hok (Lib.hid (by rw [Hrlen.out, Hm.out])) Hp Hpr (Lib.hid (Hrd.out.tot.rest (by rw [Hnl.out, Hm.out]) _))).mono ?_
          rintro e w7 ⟨v2, r2, i2, rfl, hv2, HW2, hb7⟩
          replace hrest := hrest.kept (Kept.of hb7)
          replace hbx := Below.up hbx hb7
          obtain ⟨V3, x3, rfl, _⟩ := hv2.form
          clear hSW hb7 Hcr
          by_cases hi : i2 = T % 2
          · have hid : (i2 == T % 2) = true := by simpa using hi
            have Hlo := Lib.hid (show (lostL (restL nm (attL (duel a.owner p a.next) (T % 2) a.owner.length (On nm) (On (goalL nm p T)))) r2 i2 (T % 2)) = restL (restL nm (attL (duel a.owner p a.next) (T % 2) a.owner.length (On nm) (On (goalL nm p T)))) r2 from if_pos hi)
            have Hr2 := Lib.hid HW2.out.len
            clear hi
            go_wp2_with fail
            refine (without_any _ (restL nm (attL (duel a.owner p a.next) (T % 2) a.owner.length (On nm) (On (goalL nm p T)))) _ r2 _ hrest hv2 Hr2.out.symm (by rw [Hrlen.out, Hm.out]; omega)).mono ?_
            rintro e w8 ⟨v8, rfl, hv8, hb8⟩
            replace hbx := Below.up hbx hb8
            obtain ⟨V8, x8, rfl, _⟩ := hv8.bools.form
            have hv8' := hv8.bools
            simp only [length_restL] at hv8'
            rw [← Hlo.out] at hv8'
            clear hv8 hb8 Hlo hid hrest hv2
            go_wp2_with fail
            have Hlost : Hid (Bools w8 _ (lostL (restL nm (attL (duel a.owner p a.next) (T % 2) a.owner.length (On nm) (On (goalL nm p T)))) r2 i2 (T % 2))) := Lib.hid hv8'
            have hsz := hbx.size
            refine (ContainsB_any _ _ _ Hlost.out).mono ?_
            rintro e w10 ⟨rfl, hw10⟩
            subst w10
            cases hA : anyB (lostL (restL nm (attL (duel a.owner p a.next) (T % 2) a.owner.length (On nm) (On (goalL nm p T)))) r2 i2 (T % 2))
            · have Hfin := Lib.hid (Hrd.out.last Hown.out Hnl.out (by rw [Hnl.out, Hm.out]) Hwho.out rfl HtT.out rfl HW2.out (anyB_false.1 hA))
              clear hA
              go_wp2
              go_ret2
              exact ⟨_, nm, T % 2, rfl, hnow.kept (Kept.of hbx), Hfin, hbw.trans (hbx.mono hbw.size)⟩
            · have Hsome := Lib.hid (anyB_iff.1 hA)
              clear hA
              have Hrd2 := Lib.hid (Hrd.out.more Hown.out (by rw [Hnl.out, Hm.out]) Hwho.out HW2.out)
              have Hsub := Lib.hid (fun v (hv : On (lostL (restL nm (attL (duel a.owner p a.next) (T % 2) a.owner.length (On nm) (On (goalL nm p T)))) r2 i2 (T % 2)) v) => (on_restL.1 (lostL_sub HW2.out Hwho.out hv)).1)
              have Hll := Lib.hid (lostL_len (who := T % 2) HW2.out)
              have hSW := hS.below (hbw.trans (hbx.mono hbw.size))
              go_wp2_with fail
              refine (pull_any S a p o n pv q (1 - T % 2) _ nm _ (lostL (restL nm (attL (duel a.owner p a.next) (T % 2) a.owner.length (On nm) (On (goalL nm p T)))) r2 i2 (T % 2)) _ hSW (hnow.kept (Kept.of hbx)) Hlost.out hok (by rw [Hnl.out, Hm.out]) (by rw [Hll.out, length_restL, Hnl.out, Hm.out]) Hsub.out).mono ?_
              rintro e w11 ⟨vb, rfl, hvb, hb11⟩
              have hbx2 := Below.up hbx hb11
              clear hSW hbx
              obtain ⟨B1, b1, rfl, _⟩ := hvb.bools.form
              have hvb' := hvb.bools
              simp only [length_attL] at hvb'
              go_wp2_with fail
              refine (without_any _ nm _ (attL (duel a.owner p a.next) (1 - T % 2) a.owner.length (On nm) (On (lostL (restL nm (attL (duel a.owner p a.next) (T % 2) a.owner.length (On nm) (On (goalL nm p T)))) r2 i2 (T % 2)))) _ (hnow.kept (Kept.of hbx2)) hvb' (by rw [length_attL, Hnl.out, Hm.out]) (by rw [Hnl.out, Hm.out]; omega)).mono ?_
              rintro e w12 ⟨vn, rfl, hvn, hb12⟩
              have hbx3 := Below.up hbx2 hb12
              clear hbx2 hb11 hb12
              obtain ⟨B2, b2, rfl, _⟩ := hvn.bools.form
              have hbW := hbw.trans (hbx3.mono hbw.size)
              have hvn' := hvn.bools
              simp only [length_restL] at hvn'
              clear hvn hvb hvb'
              go_wp2_with fail
              refine (ContainsB_any _ _ _ hvn').mono ?_
              rintro e w13 ⟨rfl, hw13⟩
              subst w13
              have Hlen3 : Hid ((restL nm (attL (duel a.owner p a.next) (1 - T % 2) a.owner.length (On nm) (On (lostL (restL nm (attL (duel a.owner p a.next) (T % 2) a.owner.length (On nm) (On (goalL nm p T)))) r2 i2 (T % 2))))).length = m.length) := Lib.hid (by rw [length_restL, Hnl.out])
              cases hB : anyB (restL nm (attL (duel a.owner p a.next) (1 - T % 2) a.owner.length (On nm) (On (lostL (restL nm (attL (duel a.owner p a.next) (T % 2) a.owner.length (On nm) (On (goalL nm p T)))) r2 i2 (T % 2)))))
              · have Hfin := Lib.hid (Hrd2.out.out Hlen3.out Hwho.out (anyB_false.1 hB))
                clear hB
                go_wp2
                go_ret2
                exact ⟨_, _, T % 2, rfl, hvn', Hfin, hbW⟩
              · have Hlt := Lib.hid (att_any (g := (duel a.owner p a.next)) (who := 1 - T % 2) (n := a.owner.length) (nm := nm) (by rw [Hnl.out, Hm.out]) Hsub.out Hsome.out)
                clear hB
                go_wp2
                go_roundg (gk - 1)
                case measure => have h1 := Hlt.out; have h2 := HM.out; omega
                case rel =>
                  have h1 := Hlt.out
                  have h2 := HM.out
                  refine ⟨_, hvn', Hlen3, Hrd2, Lib.hid (.inr ?_), Lib.hid (by omega), by omega, hbW⟩
                  rcases Hfirst.out with e | e
                  · rw [e] at h1 ⊢; exact h1
                  · omega
          · have hid : (i2 == T % 2) = false := by simpa using hi
            have Hlo := Lib.hid (show (lostL (restL nm (attL (duel a.owner p a.next) (T % 2) a.owner.length (On nm) (On (goalL nm p T)))) r2 i2 (T % 2)) = r2 from if_neg hi)
            have hv3 : Bools w7 (.slice V3 r2.length x3) (lostL (restL nm (attL (duel a.owner p a.next) (T % 2) a.owner.length (On nm) (On (goalL nm p T)))) r2 i2 (T % 2)) := by rw [Hlo.out]; exact hv2
            clear hi Hlo hrest hv2
            go_wp2_with fail
            have Hlost : Hid (Bools w7 _ (lostL (restL nm (attL (duel a.owner p a.next) (T % 2) a.owner.length (On nm) (On (goalL nm p T)))) r2 i2 (T % 2))) := Lib.hid hv3
            have hsz := hbx.size
            refine (ContainsB_any _ _ _ Hlost.out).mono ?_
            rintro e w10 ⟨rfl, hw10⟩
            subst w10
            cases hA : anyB (lostL (restL nm (attL (duel a.owner p a.next) (T % 2) a.owner.length (On nm) (On (goalL nm p T)))) r2 i2 (T % 2))
            · have Hfin := Lib.hid (Hrd.out.last Hown.out Hnl.out (by rw [Hnl.out, Hm.out]) Hwho.out rfl HtT.out rfl HW2.out (anyB_false.1 hA))
              clear hA
              go_wp2
              go_ret2
              exact ⟨_, nm, T % 2, rfl, hnow.kept (Kept.of hbx), Hfin, hbw.trans (hbx.mono hbw.size)⟩
            · have Hsome := Lib.hid (anyB_iff.1 hA)
              clear hA
              have Hrd2 := Lib.hid (Hrd.out.more Hown.out (by rw [Hnl.out, Hm.out]) Hwho.out HW2.out)
              have Hsub := Lib.hid (fun v (hv : On (lostL (restL nm (attL (duel a.owner p a.next) (T % 2) a.owner.length (On nm) (On (goalL nm p T)))) r2 i2 (T % 2)) v) => (on_restL.1 (lostL_sub HW2.out Hwho.out hv)).1)
              have Hll := Lib.hid (lostL_len (who := T % 2) HW2.out)
              have hSW := hS.below (hbw.trans (hbx.mono hbw.size))
              go_wp2_with fail
              refine (pull_any S a p o n pv q (1 - T % 2) _ nm _ (lostL (restL nm (attL (duel a.owner p a.next) (T % 2) a.owner.length (On nm) (On (goalL nm p T)))) r2 i2 (T % 2)) _ hSW (hnow.kept (Kept.of hbx)) Hlost.out hok (by rw [Hnl.out, Hm.out]) (by rw [Hll.out, length_restL, Hnl.out, Hm.out]) Hsub.out).mono ?_
              rintro e w11 ⟨vb, rfl, hvb, hb11⟩
              have hbx2 := Below.up hbx hb11
              clear hSW hbx
              obtain ⟨B1, b1, rfl, _⟩ := hvb.bools.form
              have hvb' := hvb.bools
              simp only [length_attL] at hvb'
              go_wp2_with fail
              refine (without_any _ nm _ (attL (duel a.owner p a.next) (1 - T % 2) a.owner.length (On nm) (On (lostL (restL nm (attL (duel a.owner p a.next) (T % 2) a.owner.length (On nm) (On (goalL nm p T)))) r2 i2 (T % 2)))) _ (hnow.kept (Kept.of hbx2)) hvb' (by rw [length_attL, Hnl.out, Hm.out]) (by rw [Hnl.out, Hm.out]; omega)).mono ?_
              rintro e w12 ⟨vn, rfl, hvn, hb12⟩
              have hbx3 := Below.up hbx2 hb12
              clear hbx2 hb11 hb12
              obtain ⟨B2, b2, rfl, _⟩ := hvn.bools.form
              have hbW := hbw.trans (hbx3.mono hbw.size)
              have hvn' := hvn.bools
              simp only [length_restL] at hvn'
              clear hvn hvb hvb'
              go_wp2_with fail
              refine (ContainsB_any _ _ _ hvn').mono ?_
              rintro e w13 ⟨rfl, hw13⟩
              subst w13
              have Hlen3 : Hid ((restL nm (attL (duel a.owner p a.next) (1 - T % 2) a.owner.length (On nm) (On (lostL (restL nm (attL (duel a.owner p a.next) (T % 2) a.owner.length (On nm) (On (goalL nm p T)))) r2 i2 (T % 2))))).length = m.length) := Lib.hid (by rw [length_restL, Hnl.out])
              cases hB : anyB (restL nm (attL (duel a.owner p a.next) (1 - T % 2) a.owner.length (On nm) (On (lostL (restL nm (attL (duel a.owner p a.next) (T % 2) a.owner.length (On nm) (On (goalL nm p T)))) r2 i2 (T % 2)))))
              · have Hfin := Lib.hid (Hrd2.out.out Hlen3.out Hwho.out (anyB_false.1 hB))
                clear hB
                go_wp2
                go_ret2
                exact ⟨_, _, T % 2, rfl, hvn', Hfin, hbW⟩
              · have Hlt := Lib.hid (att_any (g := (duel a.owner p a.next)) (who := 1 - T % 2) (n := a.owner.length) (nm := nm) (by rw [Hnl.out, Hm.out]) Hsub.out Hsome.out)
                clear hB
                go_wp2
                go_roundg (gk - 1)
                case measure => have h1 := Hlt.out; have h2 := HM.out; omega
                case rel =>
                  have h1 := Hlt.out
                  have h2 := HM.out
                  refine ⟨_, hvn', Hlen3, Hrd2, Lib.hid (.inr ?_), Lib.hid (by omega), by omega, hbW⟩
                  rcases Hfirst.out with e | e
                  · rw [e] at h1 ⊢; exact h1
                  · omega
end Go.Proofs.Ytmkmghjmfaoobaa
