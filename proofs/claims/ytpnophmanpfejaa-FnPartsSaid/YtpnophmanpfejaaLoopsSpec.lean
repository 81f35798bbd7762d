/- The walks of the reference's LoopsOf and l1Loops. Conditions: the arena is small. -/
import Derived.Test.YtpnophmanpfejaaLoopsFar
import Derived.Test.YtpnophmanpfejaaLoopsSpecP
import Derived.Test.YtpnophmanpfejaaLoopsOf
namespace Go.Proofs.Ytpnophmanpfejaa
set_option linter.unusedSimpArgs false
set_option linter.unusedVariables false
open Go.RowKit

theorem append_oneL {ops : Array Oper} {rest : List Oper} {o : Oper} {a : Act} {Q : Exit → Act → World → Prop} {t e : TypeId} {z : Value} (E : Elem t e z) (w0 : World) (hgd : o.guard = none) (s x : Operand)
    (ho : o.op = .call { callee := .builtin .append, args := #[s, x], argTypes := #[t, t] })
    (B : Nat) (v : Value) (n : Nat) (xs : List Value) (hs : a.eval s = v) (hown : w0.ownsRow B e 1 v n xs) (y : Value) (hy : y.oneCell' = true) (H : Nat) (hH : w0.heap.size = H)
    (hx : a.eval x = .slice (some ⟨H, 0, none⟩) 1 1) (hn : n ≤ 1099511627776) (hB : B ≤ w0.heap.size)
    (h : ∀ v' w', w'.ownsRow B e 1 v' (n + 1) (xs ++ [y]) → w0.grownBy w' v.ownBlock → (v'.ownBlock = v.ownBlock ∨ v'.ownBlock = some (w0.heap.size + 1)) → wpList Try.prog ops Q rest (a.put o.dst v') w') :
    wpList Try.prog ops Q (o :: rest) a (w0.alloc (.cells #[y] e)) := by
  subst hH
  exact append_one E w0 hgd s x ho B v n xs hs hown y hy hx hn hB h

theorem Below.chg1 {w w1 w2 : World} {C : Nat} (h : Below w.heap.size w w1) (hC : w.heap.size ≤ C) (k : Chg (fun b => b = C) w1 w2) : Below w.heap.size w w2 :=
  ⟨k.os.trans h.os, k.tape.trans h.tape, k.output.trans h.output, Nat.le_trans h.size k.size, fun i hi => (k.block i (Nat.lt_of_lt_of_le hi h.size) (by omega)).trans (h.block i hi)⟩
theorem Chg.under {S : Nat → Prop} {a b c : World} (h : Chg S a b) (k : Below a.heap.size b c) : Chg S a c :=
  ⟨k.os.trans h.os, k.tape.trans h.tape, k.output.trans h.output, Nat.le_trans h.size k.size, fun i hi hS => (k.block i hi).trans (h.block i hi hS)⟩
theorem Chg.store {S : Nat → Prop} {a b : World} (h : Chg S a b) (p : Addr) (u : Value) (hS : S p.block) : Chg S a (b.setCell p u) :=
  ⟨h.os, h.tape, h.output, by simpa using h.size, fun i hi hn => (Below.heap_setCell b p u i (fun e => hn (e ▸ hS))).trans (h.block i hi hn)⟩
theorem bool_int_ne : (22 : TypeId) ≠ 4 := by decide
theorem vert_one {k n : Nat} (h : k < n) : Vert [(k : Int)] n := fun t ht => by
  have e : t = 0 := by simpa using ht
  subst e
  exact ⟨k, rfl, h⟩
/-- What the reference finds from each marked vertex. -/
noncomputable def farAt (next : List (List Int)) (m : List Bool) (n v : Nat) : List Bool := if bx m v = true then beyondL next (bx m) n (fun y => (y : Int) ∈ [(v : Int)]) else []
noncomputable def farL (next : List (List Int)) (m : List Bool) (n k : Nat) : List (List Bool) := (List.range k).map (farAt next m n)
@[simp] theorem length_farL (next : List (List Int)) (m : List Bool) (n k : Nat) : (farL next m n k).length = k := by simp [farL]
theorem farL_succ (next : List (List Int)) (m : List Bool) (n k : Nat) : farL next m n (k + 1) = farL next m n k ++ [farAt next m n k] := by simp [farL, List.range_succ]
theorem fx_farL {next : List (List Int)} {m : List Bool} {n k v : Nat} (h : v < k) : fx (farL next m n k) v = farAt next m n v := by simp [fx, farL, h]
theorem farAt_len {next : List (List Int)} {m : List Bool} {n v : Nat} (h : bx m v = true) : (farAt next m n v).length = n := by simp [farAt, h]
theorem farAt_iff {next : List (List Int)} {m : List Bool} {n v x : Nat} (h : bx m v = true) (hx : x < n) : bx (farAt next m n v) x = true ↔ Plusw (EdgeM next m) v x := by
  unfold farAt
  rw [if_pos h, bx_beyondL hx, beyond_plus h]
theorem loopy_far {next : List (List Int)} {m : List Bool} {n v x : Nat} (hv : bx m v = true) (hx : bx m x = true) (hvn : v < n) (hxn : x < n) : Loopy (EdgeM next m) v x ↔ bx (farAt next m n v) x = true ∧ bx (farAt next m n x) v = true := by
  rw [farAt_iff hv hxn, farAt_iff hx hvn]
  rfl
theorem loopy_marked {next : List (List Int)} {m : List Bool} {v x : Nat} (h : Loopy (EdgeM next m) v x) : bx m x = true := by
  obtain ⟨_, y, s, _⟩ := h
  exact s.2.1
theorem classTo_more (R : Nat → Nat → Prop) (s : List Int) (v k : Nat) {x : Nat} : (x : Int) ∈ classTo R s v k ↔ (x : Int) ∈ s.take k ∧ Loopy R v x := by
  classical
  unfold classTo
  rw [List.mem_filter, decide_eq_true_iff, Int.toNat_natCast]

set_option maxRecDepth 100000 in
set_option maxHeartbeats 4000000 in
theorem l1Loops_any (v : Value) (next : List (List Int)) (u : Value) (s : List Int) (w : World) (hn : Rows w v next) (hu : Ints w u s) (hvn : ∀ k, k < next.length → Vert (rx next k) next.length) (hs : IsSet s next.length) (hn1 : next.length ≤ 256) :
    Calls Try.prog 102 #[v, u] w (RetRows w (loopsL (EdgeM next (marksL next.length s)) s)) := by
  have hsl := hs.length_le
  have Hpw := Lib.hid (show s.Pairwise (· < ·) from List.pairwise_iff_getElem.2 fun i j hi hj hij => by
    have := hs.lt_of hij hj
    rwa [ix_lt hi, ix_lt hj] at this)
  have Hml := Lib.hid (length_marksL next.length s)
  have Hmb := Lib.hid (fun x (hx : x < next.length) => bx_marksL (s := s) hx)
  have hcm := l1Marks_any u s next.length w hu hs.vert (by omega)
  generalize marksL next.length s = m at *
  obtain ⟨N, nc, rfl, _⟩ := hn.form
  obtain ⟨U, uc, rfl, _⟩ := hu.form
  have Hcm := Lib.hid hcm
  clear hcm
  go_enter Try.func102, Try.ntmps102
  go_wp2_with fail
  refine Hcm.out.mono ?_
  rintro e w1 ⟨um, rfl, hm1, hb1⟩
  obtain ⟨M, mc, e, _⟩ := hm1.bools.form
  rw [Hml.out] at e
  subst e
  have hmb := hm1.bools
  have hf1 := FarV.new w1
  have hbn := (Below.refl w1.heap.size w1).alloc (Nat.le_refl _) (.cells #[] 81)
  go_wp2_with fail
  generalize w1.alloc (.cells #[] 81) = w2 at *
  clear hm1 Hcm
  go_loopw [6, 7] (fun x i wr => ∃ (k : Nat) (vs : List Value), k ≤ next.length ∧ i = .int .i64 k ∧ FarV wr w1.heap.size wr.heap.size x vs (farL next m next.length k) ∧ Below w1.heap.size w1 wr) (fun _ i _ => next.length - (intOf i).toNat)
  case atStart => exact ⟨0, [], Nat.zero_le _, rfl, hf1, hbn⟩
  case round =>
    clear hf1 hbn
    obtain ⟨k, vs, hk, rfl, hF, hbr⟩ := hrel
    have hbs := hbr.size
    by_cases hlt : k < next.length
    · have hkl : (k : Int) < next.length := by omega
      obtain ⟨am, rfl, hm3⟩ := (hmb.kept (Kept.of hbr)).at_ (k := k) (by rw [Hml.out]; exact hlt)
      have Hs := Lib.hid (farL_succ next m next.length k)
      have hown := hF.own
      rw [length_farL] at hown
      cases em : bx m k
      · rw [em] at hm3
        have Hat := Lib.hid (show farAt next m next.length k = [] by unfold farAt; rw [em]; rfl)
        clear em
        have hown1 := hown.alloc (.cells #[] 4)
        have hH1 : (wr.alloc (.cells #[] 4)).heap.size = wr.heap.size + 1 := by simp
        obtain ⟨hnb, hbb⟩ := new_bools wr
        go_wp2_with (at_builtin; refine append_oneL elem_brows (wr.alloc (.cells #[] 4)) rfl (.tmp 38) (.tmp 40) rfl w1.heap.size u6 _ vs rfl hown1 (.slice (some ⟨wr.heap.size, 0, none⟩) 0 0) rfl (wr.heap.size + 1) hH1 rfl (by omega) (by omega) ?_; intro v7 w7 ho7 hg7 hl7)
        have hsn := (((hF.below hbb).up hbb.size).snoc (OB.of (hnb.more hbs)) (by rw [length_farL]; exact ho7) hg7 hg7.size (Nat.le_refl _))
        rw [← Hat.out, ← Hs.out] at hsn
        exact ⟨⟨k + 1, _, by omega, by go_num, hsn, (hbr.trans (hbb.mono hbs)).grown hg7 (by rw [hH1]; omega) fun b hb => (hown.lt b hb).1⟩, by simp [intOf]; omega⟩
      · rw [em] at hm3
        have Hat := Lib.hid (show farAt next m next.length k = beyondL next (bx m) next.length (fun y => (y : Int) ∈ [(k : Int)]) by unfold farAt; rw [if_pos em])
        clear em
        have hone := ione_new wr (k : Int)
        have hbt := (Below.refl wr.heap.size wr).alloc (Nat.le_refl _) (.cells #[.int .i64 (k : Int)] 2)
        have hcall := l1Beyond_any _ next _ m _ [(k : Int)] _ (hn.kept (Kept.of (Below.up hb1 (hbr.trans (hbt.mono hbs))))) (hmb.kept (Kept.of (hbr.trans (hbt.mono hbs)))) hone.one_ints Hml.out hvn (vert_one hlt) hn1 (by simp)
        rw [← Hat.out] at hcall
        have Hcall := Lib.hid hcall
        have Hfl := Lib.hid (show (farAt next m next.length k).length = next.length by rw [Hat.out, length_beyondL])
        have Hss := Lib.hid (show (wr.alloc (.cells #[.int .i64 (k : Int)] 2)).heap.size = wr.heap.size + 1 by simp)
        clear hcall hone Hat
        go_wp2_with fail
        refine Hcall.out.mono ?_
        rintro e w8 ⟨u8, rfl, ho8, hb8⟩
        obtain ⟨A8, c8, e8, _⟩ := ho8.bools.form
        rw [Hfl.out] at e8
        subst e8
        have hb8 := hbt.trans (hb8.mono (Nat.le_of_lt (by rw [Hss.out]; omega)))
        have hF8 := hF.below hb8
        have hs8 := hb8.size
        have hown8 := hF8.own
        rw [length_farL] at hown8
        rw [Hss.out] at ho8
        clear Hcall hbt hown
        go_wp2_with (at_builtin; refine append_one elem_brows w8 rfl (.tmp 30) (.tmp 36) rfl w1.heap.size u6 _ vs rfl hown8 (.slice A8 next.length c8) rfl rfl (by omega) (by omega) ?_; intro v7 w7 ho7 hg7 hl7)
        have hsn := ((hF8.up hs8).snoc (OB.of (ho8.more (by omega))) (by rw [length_farL]; exact ho7) hg7 hg7.size (Nat.le_refl _))
        rw [← Hs.out] at hsn
        exact ⟨⟨k + 1, _, by omega, by go_num, hsn, (hbr.trans (hb8.mono hbs)).grown hg7 (by omega) fun b hb => (hown8.lt b hb).1⟩, by simp [intOf]; omega⟩
    · obtain rfl : k = next.length := by omega
      obtain ⟨wf, rfl⟩ : ∃ wf : World, wf = wr := ⟨_, rfl⟩
      have hFars := hF.fars
      obtain ⟨F, fc, eF⟩ := hFars.form
      rw [length_farL] at eF
      subst eF
      have hbf : Below w.heap.size w wf := Below.up hb1 hbr
      have hmk := make_one elem_bool next.length (by omega)
      have hD := BArr.new (wf.alloc (.cells #[] 22)) next.length
      have e1 : (wf.alloc (.cells #[] 22)).heap.size = wf.heap.size + 1 := by simp
      rw [e1] at hD
      obtain ⟨hR, hbR⟩ := new_rows wf
      have hbD := hbR.alloc hbR.size (.cells (zeros (.bool false) next.length).toArray 4)
      have hR2 := hR.heap (w' := ((wf.alloc (.cells #[] 22)).alloc (.cells (zeros (.bool false) next.length).toArray 4))) (fun b hb => Below.heap_alloc _ _ b (hR.lt b hb)) (fun k hk => (by simp at hk))
      have hR3 := hR2.mono (B' := wf.heap.size) (C' := ((wf.alloc (.cells #[] 22)).alloc (.cells (zeros (.bool false) next.length).toArray 4)).heap.size) (Nat.le_refl _) (by simp)
      clear hF hR hR2 hbR e1 hbr hbs
      go_wp2_with fail
      generalize (wf.alloc (.cells #[] 22)).alloc (.cells (zeros (.bool false) next.length).toArray 4) = w5 at *
      clear hmk
      go_loopw [8, 10] (fun x i wr => ∃ (k : Nat) (dm : List Bool) (vs : List Value), k ≤ s.length ∧ i = .int .i64 k ∧ RowsV wr wf.heap.size wr.heap.size x vs (loopsTo (EdgeM next m) s k) ∧ BArr wr (wf.heap.size + 1) dm ∧ Hid (dm.length = next.length) ∧ Hid (∀ y, y < next.length → (bx dm y = true ↔ DoneTo (EdgeM next m) s k y)) ∧ Below wf.heap.size wf wr) (fun _ i _ => s.length - (intOf i).toNat)
      case atStart => exact ⟨0, _, [], Nat.zero_le _, rfl, hR3, hD, Lib.hid (by simp), Lib.hid (fun y hy => by rw [bx_replicate]; simp [DoneTo]), hbD⟩
      case round =>
        clear hR3 hD hbD
        obtain ⟨k, dm, vs, hk, rfl, hR, hD, Hdl, Hdo, hbr⟩ := hrel
        obtain ⟨wq, rfl⟩ : ∃ wq : World, wq = wr := ⟨_, rfl⟩
        by_cases hlt : k < s.length
        · have hkl : (k : Int) < s.length := by omega
          obtain ⟨j, hj, hjn⟩ := hs.vert k hlt
          have hjl : (j : Int) < next.length := by omega
          obtain ⟨au, rfl, hcu⟩ := (hu.kept (Kept.of (Below.up hbf hbr))).at_ hlt
          rw [hj] at hcu
          have Hj := Lib.hid hj
          have Hmj := Lib.hid (show bx m j = true by rw [Hmb.out j hjn, decide_eq_true_iff, ← hj]; exact mem_ix.2 ⟨k, hlt, rfl⟩)
          clear hj
          have p1 := hD.cell (k := j) (by rw [Hdl.out]; exact hjn)
          obtain ⟨aF, FA, f2, eF, hcF, hbF⟩ := (hFars.kept (Kept.of hbr)).at_ (k := j) (by simpa using hjn)
          subst eF
          rw [fx_farL hjn] at hcF hbF
          rw [farAt_len Hmj.out] at hcF hbF
          have hfl := farAt_len (next := next) (n := next.length) Hmj.out
          obtain ⟨aG, rfl, hcG⟩ := hbF.at_ (k := j) (by rw [hfl]; exact hjn)
          have Hfl := Lib.hid hfl
          clear hfl
          cases ed : bx dm j
          rotate_left
          · rw [ed] at p1
            have Hd := Lib.hid ((Hdo.out j hjn).1 ed)
            clear ed
            go_wp2
            exact ⟨⟨k + 1, dm, vs, by omega, by go_num, by rw [loopsTo_skip hlt (rep_of_done Hpw.out hlt Hj.out Hd.out)]; exact hR, hD, Hdl, Lib.hid (fun y hy => (Hdo.out y hy).trans (DoneTo.same hlt Hj.out (.inl Hd.out)).symm), hbr⟩, by simp [intOf]; omega⟩
          rw [ed] at p1
          have Hed := Lib.hid ed
          clear ed
          cases ef : bx (farAt next m next.length j) j
          · rw [ef] at hcG
            have Hno := Lib.hid (show ¬ Loopy (EdgeM next m) j j by rw [loopy_far Hmj.out Hmj.out hjn hjn, ef]; simp)
            clear ef
            go_wp2
            exact ⟨⟨k + 1, dm, vs, by omega, by go_num, by rw [loopsTo_skip hlt (rep_of_no Hj.out Hno.out)]; exact hR, hD, Hdl, Lib.hid (fun y hy => (Hdo.out y hy).trans (DoneTo.same hlt Hj.out (.inr Hno.out)).symm), hbr⟩, by simp [intOf]; omega⟩
          rw [ef] at hcG
          have Hyes := Lib.hid (show Loopy (EdgeM next m) j j by rw [loopy_far Hmj.out Hmj.out hjn hjn, ef]; simp)
          clear ef
          obtain ⟨hp0, hbp⟩ := new_ints wq
          have hDn := BArr.below hD hbp hD.lt
          have hch0 := Chg.of_below (S := fun b => b = wf.heap.size + 1) hbp
          go_wp2_with fail
          generalize wq.alloc (.cells #[] 2) = w6 at *
          clear p1 hcG hcF hcu
          have hgq := hD.lt
          go_loopw [12, 13] (fun y i wr => ∃ (t : Nat) (dm2 : List Bool), t ≤ s.length ∧ i = .int .i64 t ∧ OwnInts wr wq.heap.size y (classTo (EdgeM next m) s j t) ∧ BArr wr (wf.heap.size + 1) dm2 ∧ Hid (dm2.length = next.length) ∧ Hid (∀ y, y < next.length → (bx dm2 y = true ↔ bx dm y = true ∨ (y : Int) ∈ classTo (EdgeM next m) s j t)) ∧ Chg (fun b => b = wf.heap.size + 1) wq wr) (fun _ i _ => s.length - (intOf i).toNat)
          case atStart => exact ⟨0, dm, Nat.zero_le _, rfl, hp0, hDn, Hdl, Lib.hid (fun y hy => by simp [classTo]), hch0⟩
          case round =>
            clear hp0 hDn hch0 hbp
            obtain ⟨t, dm2, ht, rfl, hp, hD2, Hdl2, Hd2, hch⟩ := hrel
            have hbx := Below.chg1 hbr (Nat.le_succ _) hch
            have hxs := hch.size
            by_cases htl : t < s.length
            · have htl2 : (t : Int) < s.length := by omega
              obtain ⟨i2, hi, hin⟩ := hs.vert t htl
              have hil : (i2 : Int) < next.length := by omega
              obtain ⟨au2, eau, hcu⟩ := (hu.kept (Kept.of (Below.up hbf hbx))).at_ htl
              injection eau with eau
              subst eau
              rw [hi] at hcu
              have Hi := Lib.hid hi
              have Hmi := Lib.hid (show bx m i2 = true by rw [Hmb.out i2 hin, decide_eq_true_iff, ← hi]; exact mem_ix.2 ⟨t, htl, rfl⟩)
              clear hi
              have hFx := hFars.kept (Kept.of hbx)
              obtain ⟨aF1, FA1, f1, eF1, hcF1, hbF1⟩ := hFx.at_ (k := j) (by simpa using hjn)
              injection eF1 with eF1
              subst eF1
              rw [fx_farL hjn] at hcF1 hbF1
              rw [Hfl.out] at hcF1 hbF1
              obtain ⟨aG1, rfl, hcG1⟩ := hbF1.at_ (k := i2) (by rw [Hfl.out]; exact hin)
              have Hfl2 := Lib.hid (farAt_len (next := next) (n := next.length) Hmi.out)
              obtain ⟨aF2, FA2, f4, eF2, hcF2, hbF2⟩ := hFx.at_ (k := i2) (by simpa using hin)
              injection eF2 with eF2
              subst eF2
              rw [fx_farL hin] at hcF2 hbF2
              rw [Hfl2.out] at hcF2 hbF2
              obtain ⟨aG2, rfl, hcG2⟩ := hbF2.at_ (k := j) (by rw [Hfl2.out]; exact hjn)
              have hcl := classTo_len (R := EdgeM next m) (s := s) (v := j) (k := t)
              cases e1 : bx (farAt next m next.length j) i2
              · rw [e1] at hcG1
                have Hno := Lib.hid (show ¬ Loopy (EdgeM next m) j i2 by rw [loopy_far Hmj.out Hmi.out hjn hin, e1]; simp)
                clear e1
                go_wp2
                exact ⟨⟨t + 1, dm2, by omega, by go_num, by rw [classTo_skip htl Hi.out Hno.out]; exact hp, hD2, Hdl2, by rw [classTo_skip htl Hi.out Hno.out]; exact Hd2, hch⟩, by simp [intOf]; omega⟩
              rw [e1] at hcG1
              cases e2 : bx (farAt next m next.length i2) j
              · rw [e2] at hcG2
                have Hno := Lib.hid (show ¬ Loopy (EdgeM next m) j i2 by rw [loopy_far Hmj.out Hmi.out hjn hin, e2]; simp)
                clear e1 e2
                go_wp2
                exact ⟨⟨t + 1, dm2, by omega, by go_num, by rw [classTo_skip htl Hi.out Hno.out]; exact hp, hD2, Hdl2, by rw [classTo_skip htl Hi.out Hno.out]; exact Hd2, hch⟩, by simp [intOf]; omega⟩
              rw [e2] at hcG2
              have Hy := Lib.hid (show Loopy (EdgeM next m) j i2 by rw [loopy_far Hmj.out Hmi.out hjn hin, e1, e2]; simp)
              clear e1 e2
              have hDlt := hD2.lt
              go_wp2_with (at_builtin; refine append_int _ rfl (.tmp 97) (.tmp 99) rfl wq.heap.size u12 _ rfl hp (i2 : Int) rfl (by omega) hxs ?_; intro v7 w7 ho7 hb7 hg7 hl7; have hD7 := BArr.below hD2 hb7 hgq; have p7 := hD7.frozen i2; have p8 := hD7.cell (k := i2) (by rw [Hdl2.out]; exact hin))
              have hD8 := hD7.set_ i2 true
              have hb8 := hb7
              have hch7 := hch.under hb7
              have ho8 : OwnInts (w7.setCell ⟨wf.heap.size + 1, i2, none⟩ (.bool true)) wq.heap.size v7 (classTo (EdgeM next m) s j t ++ [(i2 : Int)]) := ((OI.of ho7).heap fun b hb => Below.heap_setCell _ _ _ _ (by have := (ho7.lt b hb).1; show b ≠ wf.heap.size + 1; omega)).1
              refine ⟨⟨t + 1, _, by omega, by go_num, by rw [classTo_add htl Hi.out Hy.out]; exact ho8, hD8, Lib.hid (by rw [List.length_set]; exact Hdl2.out), Lib.hid (fun y hy => ?_), hch7.store _ _ rfl⟩, by simp [intOf]; omega⟩
              rw [classTo_add htl Hi.out Hy.out, bx_set (by rw [Hdl2.out]; exact hin), List.mem_append, List.mem_singleton]
              by_cases e : y = i2
              · subst e; simp
              · rw [if_neg e, Hd2.out y hy]
                have : ¬ (y : Int) = (i2 : Int) := by omega
                simp [this]
            · obtain rfl : t = s.length := by omega
              rw [classTo_all] at hp Hd2
              have Hrep := Lib.hid (loopsTo_add hlt Hj.out (rep_of_new Hpw.out hlt Hj.out Hyes.out (fun h => by have := (Hdo.out j hjn).2 h; rw [Hed.out] at this; cases this)))
              obtain ⟨PA, pc, eP, _⟩ := hp.ints.form
              have hcl : (classOf (EdgeM next m) s j).length ≤ s.length := by rw [← classTo_all]; exact classTo_len
              have hRx := (hR.chg hch (fun b hb e => by subst e; exact owns_ne hR.own (hD.own (Nat.le_refl _) (by rw [Hdl.out]; omega)) (by decide) hb rfl) (fun k hk b hb e => by subst e; exact owns_ne (hR.row k hk).1 (hD.own (Nat.le_refl _) (by rw [Hdl.out]; omega)) (by decide) hb rfl))
              have hol := loopsTo_len (R := EdgeM next m) (s := s) (k := k)
              have hown := hRx.own
              generalize hcc : classOf (EdgeM next m) s j = cl at *
              have Hcc := Lib.hid hcc
              clear hcc
              rw [eP] at hp
              subst eP
              go_wp2_with (at_builtin; refine append_one elem_rows _ rfl (.tmp 104) (.tmp 106) rfl wf.heap.size u8 _ vs rfl hown (.slice PA cl.length pc) rfl rfl (by omega) (by have := hbx.size; omega) ?_; intro v9 w9 ho9 hg9 hl9)
              have hqs : wq.heap.size ≤ wr.heap.size := hxs
              have hsn := (hRx.mono (Nat.le_refl _) hqs).snoc (C' := w9.heap.size) (OI.of (hp.more (by have := hbr.size; omega))) (fun k2 hk2 b hb e => by
                have e1 := (hRx.row k2 hk2).2 b hb
                have e2 := (hp.lt b e).1
                omega) ho9 hg9 hg9.size (Nat.le_refl _)
              rw [← Hrep.out] at hsn
              have hD9 : BArr w9 (wf.heap.size + 1) dm2 := (hg9.block _ hD2.lt (fun e => owns_ne hown (hD2.own (Nat.le_refl _) (by rw [Hdl2.out]; omega)) (by decide) e.symm rfl)).trans hD2
              refine ⟨⟨k + 1, dm2, _, by omega, by go_num, hsn, hD9, Hdl2, Lib.hid (fun y hy => ?_), hbx.grown hg9 hbx.size fun b hb => (hown.lt b hb).1⟩, by simp [intOf]; omega⟩
              rw [Hd2.out y hy, Hdo.out y hy, DoneTo.next hlt Hj.out, ← Hcc.out, mem_classOf, Int.toNat_natCast]
              refine or_congr Iff.rfl ⟨fun h => h.2, fun h => ⟨?_, h⟩⟩
              have h1 := loopy_marked h
              rw [Hmb.out y hy, decide_eq_true_iff] at h1
              exact h1
        · obtain rfl : k = s.length := by omega
          rw [loopsTo_all] at hR
          have hws := hbf.size
          go_wp2
          go_ret
          exact .mk' ⟨vs, hR.mono hws (Nat.le_refl _)⟩ (Below.up hbf hbr)

set_option maxRecDepth 100000 in
set_option maxHeartbeats 2000000 in
theorem specLoopsOf_any (v : Value) (a : ArenaD) (u : Value) (s : List Int) (w : World) (hv : IsArena w v a) (hu : Ints w u s) :
    Calls Try.prog 42 #[v, u] w (RetRows w (loopsG a s)) := by
  obtain ⟨o, n, rfl, hbw, hB⟩ := arena_open hv
  obtain ⟨ho, hn⟩ := hv.parts
  obtain ⟨A, c, rfl, hlc, hcm⟩ := ho.form
  obtain ⟨A', c', rfl, hlc', hcm'⟩ := hn.form
  obtain ⟨US, uc, rfl, huc, hum⟩ := hu.form
  have hlo : (a.owner.length : Int) ≤ 9223372036854775807 := by omega
  cases hE : arenaOkB a
  · have hres : loopsG a s = [] := by unfold loopsG; rw [hE]; rfl
    rw [hres]; clear hres
    go_enter Try.func42, Try.ntmps42
    have hBz := hB.lt
    have hBc0 := hB.c0
    have hBc1 := hB.c1
    go_wp2_with fail
    refine (specArenaOk_any _ a _ (hv.kept (Kept.of hbw))).mono ?_
    rintro e w1 ⟨rfl, hb1⟩
    clear hBc0 hBc1 hBz
    replace hB := hB.below hb1 hB.lt
    replace hbw := Below.up hbw hb1
    have hb1s := hb1.size
    clear hb1
    have hBz := hB.lt
    have hBc0 := hB.c0
    have hBc1 := hB.c1
    obtain ⟨hown, hbn⟩ := new_rows w1
    go_wp2
    go_ret
    exact .mk' ⟨[], hown.mono hbw.size (Nat.le_refl _)⟩ (Below.up hbw hbn)
  · have hok := arenaOkB_iff.1 hE
    cases hE2 : isSetB s a.owner.length
    · have hres : loopsG a s = [] := by unfold loopsG; rw [hE, hE2]; rfl
      rw [hres]; clear hres
      go_enter Try.func42, Try.ntmps42
      have hBz := hB.lt
      have hBc0 := hB.c0
      have hBc1 := hB.c1
      go_wp2_with fail
      refine (specArenaOk_any _ a _ (hv.kept (Kept.of hbw))).mono ?_
      rintro e w1 ⟨rfl, hb1⟩
      clear hBc0 hBc1 hBz
      replace hB := hB.below hb1 hB.lt
      replace hbw := Below.up hbw hb1
      have hb1s := hb1.size
      clear hb1
      have hBz := hB.lt
      have hBc0 := hB.c0
      have hBc1 := hB.c1
      go_wp2_with fail
      refine (drew_below (l1Set_any _ s (a.owner.length : Int) _ (hu.kept (Kept.of hbw)) (by omega) (by omega))).mono ?_
      rintro e w2 ⟨rfl, hb2⟩
      clear hBc0 hBc1 hBz
      replace hB := hB.below hb2 hB.lt
      replace hbw := Below.up hbw hb2
      have hb2s := hb2.size
      clear hb2
      have hBz := hB.lt
      have hBc0 := hB.c0
      have hBc1 := hB.c1
      obtain ⟨hown, hbn⟩ := new_rows w2
      go_wp2
      go_ret
      exact .mk' ⟨[], hown.mono hbw.size (Nat.le_refl _)⟩ (Below.up hbw hbn)
    · have hset := isSetB_iff.1 hE2
      have hres : loopsG a s = loopsL (EdgeM a.next (marksL a.owner.length s)) s := by unfold loopsG; rw [hE, hE2]; rfl
      rw [hres]; clear hres
      have hle := hok.le
      have Hlen := Lib.hid hok.len
      go_enter Try.func42, Try.ntmps42
      have hBz := hB.lt
      have hBc0 := hB.c0
      have hBc1 := hB.c1
      go_wp2_with fail
      refine (specArenaOk_any _ a _ (hv.kept (Kept.of hbw))).mono ?_
      rintro e w1 ⟨rfl, hb1⟩
      clear hBc0 hBc1 hBz
      replace hB := hB.below hb1 hB.lt
      replace hbw := Below.up hbw hb1
      have hb1s := hb1.size
      clear hb1
      have hBz := hB.lt
      have hBc0 := hB.c0
      have hBc1 := hB.c1
      go_wp2_with fail
      refine (drew_below (l1Set_any _ s (a.owner.length : Int) _ (hu.kept (Kept.of hbw)) (by omega) (by omega))).mono ?_
      rintro e w2 ⟨rfl, hb2⟩
      clear hBc0 hBc1 hBz
      replace hB := hB.below hb2 hB.lt
      replace hbw := Below.up hbw hb2
      have hb2s := hb2.size
      clear hb2
      have hBz := hB.lt
      have hBc0 := hB.c0
      have hBc1 := hB.c1
      go_wp2_with fail
      clear hE hE2
      have hcall := l1Loops_any _ a.next _ s _ (hn.kept (Kept.of hbw)) (hu.kept (Kept.of hbw)) (fun k hk => by rw [Hlen.out] at hk ⊢; exact (hok.set hk).vert) (by rw [Hlen.out]; exact hset) (by rw [Hlen.out]; exact hle)
      rw [show marksL a.next.length s = marksL a.owner.length s by rw [Hlen.out]] at hcall
      refine hcall.mono ?_
      rintro e w9 ⟨u9, rfl, ho9, hb9⟩
      have hw3 := hbw.size
      obtain ⟨vs9, ho9⟩ := ho9
      obtain ⟨A9, c9, e9⟩ := ho9.form
      subst e9
      go_wp2
      go_ret
      exact .mk' ⟨vs9, ho9.mono (by omega) (Nat.le_refl _)⟩ (Below.up hbw hb9)
end Go.Proofs.Ytpnophmanpfejaa
