/- The walks of pressed and Pressed of the program. Condition of pressed: the game is valid. -/
import Derived.Test.YtpnophmanpfejaaPriosWalks
import Derived.Test.YtpnophmanpfejaaPressPlain
import Derived.Test.YtpnophmanpfejaaFlipWalks
import Derived.Maps.OwnOps
import Derived.Maps.Views
namespace Go.Proofs.Ytpnophmanpfejaa
set_option linter.unusedSimpArgs false
set_option linter.unusedVariables false
open Go.RowKit Go.Maps

theorem zero_int64 (w : World) : (zeroValue 2).run Try.prog w = .ok (.int .i64 0) w := by kernel_rfl
theorem key_int64 : Keyed Try.prog 2 := int_keyed Try.underlying2
/-- Block b is a map of at most n entries that reads as D. -/
def IsMapAt (w : World) (b n : Nat) (D : DataW Unit) : Prop := w.ownsMap Try.prog 2 (plainElem Try.prog 2) b n D
theorem IsMapAt.below {w w' : World} {B b n : Nat} {D : DataW Unit} (h : IsMapAt w b n D) (hb : Below B w w') (hlt : b < B) : IsMapAt w' b n D := by
  obtain ⟨es, clock, h1, h2⟩ := h
  exact ⟨es, clock, (hb.block b hlt).trans h1, h2⟩

theorem allOf_any2 (v : Value) (a : ArenaD) (w : World) (hv : IsArena w v a) (hle : a.owner.length ≤ 256) : Calls Try.prog 144 #[v] w (RetInts w (upFrom 0 a.owner.length)) := by
  obtain ⟨o, n, rfl, hbw, hB⟩ := arena_open hv
  have hBc0 := hB.c0
  have hBc1 := hB.c1
  go_enter Try.func144, Try.ntmps144
  go_wp2_with fail
  refine (size_any _ a _ (hv.kept (Kept.of hbw))).mono ?_
  rintro e w1 ⟨rfl, hb1⟩
  have hbw1 := Below.up hbw hb1
  go_wp2_with fail
  refine (implAllOf_any (a.owner.length : Int) _).mono ?_
  rintro e w2 ⟨u2, rfl, ho2, hb2⟩
  rw [allL_nat (by omega)] at ho2
  have hbw2 := Below.up hbw1 hb2
  go_wp2
  go_ret
  exact ⟨_, rfl, ho2.more hbw1.size, hbw2⟩
theorem places_upFrom (n : Nat) : ∀ k, k < (upFrom 0 n).length → ∃ j : Nat, ix (upFrom 0 n) k = (j : Int) ∧ j < n := fun k hk => by
  rw [length_upFrom] at hk
  exact ⟨k, by rw [ix_upFrom hk]; omega, hk⟩
theorem priosOf_rising (g : ParityD) : (priosOf g).Pairwise (· < ·) := (intoAll_spec (l := []) (xs := (upFrom 0 g.prio.length).map fun (x : Int) => ix g.prio x.toNat) List.Pairwise.nil).1
theorem mem_priosOf {g : ParityD} {x : Int} : x ∈ priosOf g ↔ x ∈ g.prio := by
  have h := (intoAll_spec (l := []) (xs := (upFrom 0 g.prio.length).map fun (x : Int) => ix g.prio x.toNat) List.Pairwise.nil).2 x
  show x ∈ intoAll [] ((upFrom 0 g.prio.length).map fun (x : Int) => ix g.prio x.toNat) ↔ _
  rw [h]
  simp only [List.not_mem_nil, or_false, List.mem_map]
  constructor
  · rintro ⟨y, hy, rfl⟩
    obtain ⟨j, hj, rfl⟩ := mem_upFrom.1 hy
    exact mem_ix.2 ⟨j, hj, by simp⟩
  · intro hx
    obtain ⟨k, hk, rfl⟩ := mem_ix.1 hx
    exact ⟨(k : Int), mem_upFrom.2 ⟨k, hk, rfl⟩, by simp⟩
theorem priosOf_len (g : ParityD) : (priosOf g).length ≤ g.prio.length := by
  have := priosL_len g.prio (upFrom 0 g.prio.length)
  rwa [length_upFrom] at this

def lastAt (ps : List Int) : Nat → Int
  | 0 => -1
  | k + 1 => ix ps k
def nowB (ps : List Int) : Nat → Int
  | 0 => 0
  | k + 1 => nowAt ps k
theorem look_put {D : DataW Unit} {ps : List Int} {k : Nat} (hD : IsMap D) (hp : ps.Pairwise (· < ·)) (hk : k < ps.length) {y : Int}
    (h : ∀ j, j < k → D.atKey (.int .i64 (ix ps j)) (.lit (.int .i64 0)) = .lit (.int .i64 (nowAt ps j))) (hy : y = nowAt ps k) :
    ∀ j, j < k + 1 → (D.put (.int .i64 (ix ps k)) (.lit (.int .i64 y))).atKey (.int .i64 (ix ps j)) (.lit (.int .i64 0)) = .lit (.int .i64 (nowAt ps j)) := fun j hj => by
  subst hy
  by_cases e : j = k
  · subst e
    exact atKey_put_same hD (by trivial) _ _
  · rw [atKey_put_other (fun h' => by
      injection h' with _ h'
      have := pair_ix hp (show j < k by omega) hk
      omega)]
    exact h j (by omega)

set_option maxRecDepth 100000 in
set_option maxHeartbeats 8000000 in
theorem pressed_any (v : Value) (g : ParityD) (w : World) (hv : IsParity w v g) (hok : ParityOk g) :
    Calls Try.prog 98 #[v] w (RetPar w (pressP g)) := by
  obtain ⟨o, n, p, rfl, hbw, hB, hR⟩ := parity_boxR' hv
  obtain ⟨hva, hp⟩ := hv.parts
  obtain ⟨PS, pc, rfl, hpc, hpm⟩ := hp.form
  have hmm := fun t w => run_makeMap (P := Try.prog) t w
  have hle := hok.arena.le
  have hple : g.prio.length ≤ 256 := by rw [hok.len]; exact hle
  have Hol := Lib.hid hok.len
  have Hnl := Lib.hid hok.arena.len
  have Hdeg : Hid (∀ k, k < g.arena.next.length → (rx g.arena.next k).length ≤ 1048576) := Lib.hid fun k hk => by
    have := (hok.arena.deg (v := k) (by rw [← hok.arena.len]; exact hk)).2; omega
  have Hpr := Lib.hid hok.prio
  have Hps := Lib.hid (priosOf_rising g)
  have Hpm : Hid (∀ x, x ∈ priosOf g ↔ x ∈ g.prio) := Lib.hid fun x => mem_priosOf
  have hpsl := priosOf_len g
  have Hpb : Hid (∀ k, k < (priosOf g).length → 0 ≤ ix (priosOf g) k ∧ ix (priosOf g) k ≤ 40) := Lib.hid fun k hk => by
    obtain ⟨j, hj, e⟩ := mem_ix.1 (Hpm.out _ |>.1 (mem_ix.2 ⟨k, hk, rfl⟩))
    rw [← e]; exact hok.prio j hj
  have Hnb : Hid (∀ k, k < (priosOf g).length → 0 ≤ nowAt (priosOf g) k ∧ nowAt (priosOf g) k ≤ 40) := Lib.hid fun k hk => by
    have h1 := nowAt_bounds (ps := priosOf g) Hps.out (fun x hx => by obtain ⟨j, hj, e⟩ := mem_ix.1 hx; rw [← e]; exact (Hpb.out j hj).1) hk
    have := Hpb.out k hk
    omega
  have Hres := Lib.hid (show pressP g = ⟨g.arena, pressL (priosOf g) g.prio⟩ from rfl)
  rw [Hres.out]
  clear Hres
  have hpd : priosL g.prio (upFrom 0 g.arena.owner.length) = priosOf g := by unfold priosOf; rw [hok.len]
  have hr : ∀ k, k < (upFrom 0 g.arena.owner.length).length → ∃ j : Nat, ix (upFrom 0 g.arena.owner.length) k = (j : Int) ∧ j < g.prio.length := by rw [hok.len]; exact places_upFrom _
  go_enter Try.func98, Try.ntmps98
  go_wp2_with fail
  clear hmm
  have hM0 : IsMapAt (((w.alloc (.cells #[o, n, .slice PS g.prio.length pc] 32)).alloc (.cells #[.slice none 0 0, .slice none 0 0, .slice none 0 0] 32)).alloc (.map #[] 0)) (w.heap.size + 2) 0 (.map []) := by
    have h := World.ownsMap_made (H := Unit) ((w.alloc (.cells #[o, n, .slice PS g.prio.length pc] 32)).alloc (.cells #[.slice none 0 0, .slice none 0 0, .slice none 0 0] 32)) Try.prog 2 (plainElem Try.prog 2)
    have e : ((w.alloc (.cells #[o, n, .slice PS g.prio.length pc] 32)).alloc (.cells #[.slice none 0 0, .slice none 0 0, .slice none 0 0] 32)).heap.size = w.heap.size + 2 := by simp
    rw [e] at h
    exact h
  have hbw1 := hbw.alloc hbw.size (.map #[] 0)
  have hB1 := hB.alloc (.map #[] 0)
  have hR1 := hR.alloc (.map #[] 0)
  have hz1 : w.heap.size + 2 < (((w.alloc (.cells #[o, n, .slice PS g.prio.length pc] 32)).alloc (.cells #[.slice none 0 0, .slice none 0 0, .slice none 0 0] 32)).alloc (.map #[] 0)).heap.size := by simp
  clear hB hR hbw
  generalize (((w.alloc (.cells #[o, n, .slice PS g.prio.length pc] 32)).alloc (.cells #[.slice none 0 0, .slice none 0 0, .slice none 0 0] 32)).alloc (.map #[] 0)) = w0 at *
  have Hc := Lib.hid (fun W (hW : Kept w W) => allOf_any2 _ g.arena W (hva.kept hW) hle)
  have Hc2 := Lib.hid (fun W u (hW : Kept w W) (hu : Ints W u (upFrom 0 g.arena.owner.length)) => priosIn_any _ g u (upFrom 0 g.arena.owner.length) W (hv.kept hW) hu hr (by rw [length_upFrom]; omega))
  rw [hpd] at Hc2
  clear hpd hr
  have HS := Lib.hid (fun W (hW : Below w0.heap.size w0 W) => (show W.cell? ⟨w.heap.size, 0, none⟩ = some o ∧ W.cell? ⟨w.heap.size, 1, none⟩ = some n ∧ W.cell? ⟨w.heap.size, 2, none⟩ = some (.slice PS g.prio.length pc) from ⟨(hB1.below hW hB1.lt).c0, (hB1.below hW hB1.lt).c1, (hB1.below hW hB1.lt).c2⟩))
  have hR0 : Below w0.heap.size w0 w0.drew := ⟨rfl, rfl, rfl, Nat.le_refl _, fun _ _ => rfl⟩
  go_region_held3 (fun W => W.cell? ⟨w.heap.size, 0, none⟩ = some o ∧ W.cell? ⟨w.heap.size, 1, none⟩ = some n ∧ W.cell? ⟨w.heap.size, 2, none⟩ = some (.slice PS g.prio.length pc))
    (first | exact HS.out _ hR0 | exact HS.out _ hR3 | exact HS.out _ hR4)
    (first | (go_at_call 144; refine (Hc.out _ (Kept.of (Below.up hbw1 hR0))).mono ?_; rintro e w3 ⟨u3, rfl, ho3, hb3⟩; have hR3 := Below.up hR0 hb3) | (go_at_call 77; refine (Hc2.out _ _ (Kept.of (Below.up hbw1 hR3)) ho3.ints).mono ?_; rintro e w4 ⟨u4, rfl, ho4, hb4⟩; have hR4 := Below.up hR3 hb4; obtain ⟨QA, qc, hqf, _⟩ := ho4.ints.form; subst hqf))
  have hz3 : w.heap.size + 2 < w3.heap.size := Nat.lt_of_lt_of_le hz1 hR3.size
  have hM4 := hM0.below hR4 hz1
  have hB4 := hB1.below hR4 hB1.lt
  have hR4' := hR1.below hR4 hR1.lt
  have hbw4 := Below.up hbw1 hR4
  have hz4 : w.heap.size + 2 < w4.heap.size := Nat.lt_of_lt_of_le hz1 hR4.size
  clear hM0 hB1 hR1 hbw1 hz1 HS hR0 hR3 hR4 Hc Hc2 ho3 hb3 hb4
  have Hnn := Lib.hid (nowAt_mod (priosOf g))
  generalize hpsg : priosOf g = ps at *
  clear hpsg
  go_wp2_with fail
  go_loopw [4, 5, 18] (fun last now i wr => ∃ (k : Nat) (D : DataW Unit), k ≤ ps.length ∧ i = .int .i64 k ∧ last = .int .i64 (lastAt ps k) ∧ now = .int .i64 (nowB ps k) ∧ IsMapAt wr (w.heap.size + 2) k D ∧ Hid (IsMap D) ∧ Hid (∀ j, j < k → D.atKey (.int .i64 (ix ps j)) (.lit (.int .i64 0)) = .lit (.int .i64 (nowAt ps j))) ∧ Below (w.heap.size + 2) w4 wr ∧ Chg (fun b => b = w.heap.size + 2) w4 wr) (fun _ _ i _ => ps.length - (intOf i).toNat)
  case atStart => exact ⟨0, _, Nat.zero_le _, rfl, rfl, rfl, hM4, Lib.hid isMap_empty, Lib.hid (fun j hj => by omega), Below.refl _ _, Chg.refl _ _⟩
  case round =>
    obtain ⟨k, D, hk, rfl, rfl, rfl, hm, HD, Hlk, hbr, hch⟩ := hrel
    by_cases hlt : k < ps.length
    · have hu : Ints wr (.slice QA ps.length qc) ps := ((OI.of ho4).chg hch fun b hb => by have := (ho4.lt b hb).1; omega).ints
      obtain ⟨a1, ea1, hc1⟩ := hu.at_ hlt
      cases ea1
      obtain ⟨hx0, hx1⟩ := Hpb.out k hlt
      have hlt2 : (k : Int) < ps.length := by omega
      have Hput := fun y => Lib.hid (look_put (y := y) HD.out Hps.out hlt Hlk.out)
      have Hput2 := fun y => Lib.hid (HD.out.put (.int .i64 (ix ps k)) (.lit (.int .i64 y)))
      cases k with
      | zero =>
        simp only [lastAt, nowB]
        have hc0 : wr.cell? a1 = some (.int .i64 (ix ps 0)) := by rw [← hc1]; congr 1
        have hlt3 : (0 : Int) < ps.length := by omega
        have hwf : (Lit.int .i64 (ix ps 0 % 2)).wf = true := WalkArith.wf_i64 (by omega)
        go_wp2_with (first | (at_mapUpdate; refine wpList_mapUpdate_own _ rfl _ _ _ 110 rfl 2 2 key_int64 Try.underlying110 _ (w.heap.size + 2) 0 _ rfl hm (by unfold maxLen; omega) _ _ _ rfl rfl (keyOf_int_mk Try.underlying2 (WalkArith.wf_i64 (by omega))) _ [] (plainElem_int Try.underlying2 hwf) ?_; intro w5 hm5 hg5))
        exact ⟨⟨1, _, by omega, by go_num, rfl, rfl, hm5, Hput2 _, Lib.hid ((Hput _).out rfl), hbr.grown hg5 (by have := hbr.size; omega) fun j hj => by cases hj; exact Nat.le_refl _, hch.grown hg5 fun j hj => by cases hj; rfl⟩, by simp [intOf]; omega⟩
      | succ k =>
        simp only [lastAt, nowB]
        obtain ⟨hy0, hy1⟩ := Hpb.out k (by omega)
        obtain ⟨hn0, hn1⟩ := Hnb.out k (by omega)
        have hxy := pair_ix Hps.out (show k < k + 1 by omega) hlt
        have hc0 : wr.cell? ⟨a1.block, a1.off + (k + 1), none⟩ = some (.int .i64 (ix ps (k + 1))) := by rw [← hc1]; congr 1
        have hlt3 : (k : Int) + 1 < ps.length := by omega
        by_cases hd : (ix ps (k + 1) - ix ps k) % 2 = 0
        · have hd' : ((ix ps (k + 1) - ix ps k) % 2 != 0) = false := by simpa using hd
          have Hnow : Hid (nowAt ps k = nowAt ps (k + 1)) := Lib.hid (by simp only [nowAt]; rw [if_pos hd])
          have hwf : (Lit.int .i64 (nowAt ps k)).wf = true := WalkArith.wf_i64 (by omega)
          clear hd
          go_wp2_with (first | (at_mapUpdate; refine wpList_mapUpdate_own _ rfl _ _ _ 110 rfl 2 2 key_int64 Try.underlying110 _ (w.heap.size + 2) (k + 1) _ rfl hm (by unfold maxLen; omega) _ _ _ rfl rfl (keyOf_int_mk Try.underlying2 (WalkArith.wf_i64 (by omega))) _ [] (plainElem_int Try.underlying2 hwf) ?_; intro w5 hm5 hg5))
          exact ⟨⟨k + 1 + 1, _, by omega, by go_num, rfl, by rw [Hnow.out], hm5, Hput2 _, Lib.hid ((Hput _).out Hnow.out), hbr.grown hg5 (by have := hbr.size; omega) fun j hj => by cases hj; exact Nat.le_refl _, hch.grown hg5 fun j hj => by cases hj; rfl⟩, by simp [intOf]; omega⟩
        · have hd' : ((ix ps (k + 1) - ix ps k) % 2 != 0) = true := by simpa using hd
          have Hnow : Hid (nowAt ps k + 1 = nowAt ps (k + 1)) := Lib.hid (by simp only [nowAt]; rw [if_neg hd])
          have hwf : (Lit.int .i64 (nowAt ps k + 1)).wf = true := WalkArith.wf_i64 (by omega)
          clear hd
          go_wp2_with (first | (at_mapUpdate; refine wpList_mapUpdate_own _ rfl _ _ _ 110 rfl 2 2 key_int64 Try.underlying110 _ (w.heap.size + 2) (k + 1) _ rfl hm (by unfold maxLen; omega) _ _ _ rfl rfl (keyOf_int_mk Try.underlying2 (WalkArith.wf_i64 (by omega))) _ [] (plainElem_int Try.underlying2 hwf) ?_; intro w5 hm5 hg5))
          exact ⟨⟨k + 1 + 1, _, by omega, by go_num, rfl, by show Value.int .i64 _ = Value.int .i64 (nowAt ps (k + 1)); rw [← Hnow.out], hm5, Hput2 _, Lib.hid ((Hput _).out Hnow.out), hbr.grown hg5 (by have := hbr.size; omega) fun j hj => by cases hj; exact Nat.le_refl _, hch.grown hg5 fun j hj => by cases hj; rfl⟩, by simp [intOf]; omega⟩
    · obtain rfl : k = ps.length := by omega
      have hlt2 : ¬ (ps.length : Int) < ps.length := by omega
      have Hval : Hid (∀ k c, k < g.prio.length → D.atKey (.int .i64 (ix g.prio k)) (.lit (.int .i64 0)) = .lit (.int .i64 c) → c = lev ps (ix g.prio k)) := Lib.hid fun k c hk hc => by
        obtain ⟨h1, h2⟩ := spot_mem Hps.out ((Hpm.out _).2 (mem_ix.2 ⟨k, hk, rfl⟩))
        have h3 := Hlk.out _ h1
        rw [h2, hc] at h3
        injection h3 with h3
        injection h3
      have Hlev : Hid (∀ k, k < g.prio.length → 0 ≤ lev ps (ix g.prio k) ∧ lev ps (ix g.prio k) ≤ 40) := Lib.hid fun k hk => by
        obtain ⟨h1, h2⟩ := spot_mem Hps.out ((Hpm.out _).2 (mem_ix.2 ⟨k, hk, rfl⟩))
        exact Hnb.out _ h1
      clear Hlk Hnb Hpb ho4 hch HD Hnn hM4
      have hBr := hB4.below hbr (by omega)
      have hRr := hR4'.below hbr (by omega)
      have hbwr : Below w.heap.size w wr := hbw4.trans (hbr.mono (by omega))
      have hzr : w.heap.size + 2 < wr.heap.size := Nat.lt_of_lt_of_le hz4 hbr.size
      clear hB4 hR4' hbw4 hz4 hbr
      have hBc0 := hBr.c0
      have hBc1 := hBr.c1
      go_wp2_with fail
      refine (copyArena_any _ g.arena _ (hva.kept (Kept.of hbwr)) (by omega) (by rw [Hnl.out]; omega) Hdeg.out).mono ?_
      rintro e w6 ⟨u6, rfl, hu6, hb6⟩
      obtain ⟨F1, f1, F2, f2, hf⟩ := OA.form hu6
      subst hf
      clear hBc0 hBc1
      replace hBr := hBr.below hb6 hBr.lt
      replace hRr := hRr.below hb6 hRr.lt
      replace hm := IsMapAt.below hm hb6 (by omega)
      have hbw6 := Below.up hbwr hb6
      have hz6 : w.heap.size + 2 < w6.heap.size := Nat.lt_of_lt_of_le hzr hb6.size
      have hBc2 := hBr.c2
      have hBz := hBr.lt
      have hws4 := hbw6.size
      go_wp2
      clear hBc2 hBz
      have hX0 := Arr.new w6 32 [.slice F1 g.arena.owner.length f1, .slice F2 g.arena.next.length f2, .slice none 0 0]
      have hbn := (Below.refl w6.heap.size w6).alloc (Nat.le_refl _) (.cells #[.slice F1 g.arena.owner.length f1, .slice F2 g.arena.next.length f2, .slice none 0 0] 32)
      have hBX := hBr.lt
      have hRX := hRr.lt
      have hown0 := OwnInts.nil (w6.alloc (.cells #[.slice F1 g.arena.owner.length f1, .slice F2 g.arena.next.length f2, .slice none 0 0] 32)) (w6.heap.size + 1)
      obtain ⟨X, hX⟩ : ∃ X, w6.heap.size = X := ⟨_, rfl⟩
      rw [hX] at hX0 hbn hBX hRX hown0 hws4 hz6 ⊢
      have hu66 := hu6.mono (show w.heap.size + 2 ≤ wr.heap.size by omega) (show w6.heap.size ≤ X by omega)
      generalize w6.alloc (.cells #[.slice F1 g.arena.owner.length f1, .slice F2 g.arena.next.length f2, .slice none 0 0] 32) = w7 at *
      clear hX hu6
      have Hall := Lib.hid (show pressL ps (g.prio.take g.prio.length) = pressL ps g.prio by rw [List.take_length])
      go_loopw [47] (fun i wx => ∃ (k : Nat) (pv : Value), k ≤ g.prio.length ∧ i = .int .i64 k ∧ Arr wx X 32 [.slice F1 g.arena.owner.length f1, .slice F2 g.arena.next.length f2, pv] ∧ OwnInts wx (X + 1) pv (pressL ps (g.prio.take k)) ∧ Below X w6 wx) (fun i _ => g.prio.length - (intOf i).toNat)
      case atStart => exact ⟨0, _, Nat.zero_le _, rfl, hX0, hown0, hbn⟩
      case round =>
        obtain ⟨k, pv, hk, rfl, hX1, hown, hbX⟩ := hrel
        have hBo := hBr.below hbX hBX
        have hRo := hRr.below hbX hRX
        have hmo := IsMapAt.below hm hbX hz6
        have hbwr : Below w.heap.size w wr := hbw6.trans (hbX.mono hws4)
        have hwX : X < wr.heap.size := hX1.lt
        by_cases hlt : k < g.prio.length
        · obtain ⟨a3, ea, hc3⟩ := (hp.kept (Kept.of hbwr)).at_ hlt
          subst ea
          have hlt' : (k : Int) < g.prio.length := by omega
          have Hs1 := Lib.hid (pressL_take (ps := ps) hlt)
          obtain ⟨hx0, hx1⟩ := Hpr.out k hlt
          have hl1 : Hid ((pressL ps (g.prio.take k)).length = k) := Lib.hid (by rw [length_pressL, List.length_take]; omega)
          generalize pressL ps (g.prio.take k) = l1 at *
          have q0 := hX1.c2
          have q1 := hBo.c2
          have hovb := hown.lt
          go_wp2_with (first | (at_lookup; refine wpList_lookup_own_int _ rfl _ _ 110 rfl 2 2 .i64 key_int64 Try.underlying110 Try.underlying2 (zero_int64 _) (w.heap.size + 2) ps.length _ rfl hmo _ _ rfl (keyOf_int_mk Try.underlying2 (WalkArith.wf_i64 (by omega))) ?_; intro c hat hwc; have hcv := Hval.out k c hlt hat; subst hcv) | (at_builtin; refine append_int _ rfl (.tmp 52) (.tmp 56) rfl (X + 1) pv l1 rfl hown (lev ps (ix g.prio k)) rfl (by rw [hl1.out]; omega) hwX ?_; intro v7 w8 ho7 hb7 hg7 hd7; obtain ⟨O7, c7, e7, _⟩ := ho7.ints.form; rw [List.length_append, List.length_singleton, hl1.out] at e7; subst e7; have hX7 : Arr w8 X 32 [.slice F1 g.arena.owner.length f1, .slice F2 g.arena.next.length f2, pv] := Arr.kept' hX1 hg7 (fun e => by have := (hovb X e.symm).1; omega); have q5 := hX7.c2; have q6 := hX7.frozen 2))
          have hX8 := hX7.set_ 2 (.slice O7 (k + 1) c7)
          have ho8 : OwnInts (w8.setCell ⟨X, 2, none⟩ (.slice O7 (k + 1) c7)) (X + 1) (.slice O7 (k + 1) c7) _ := OwnInts.heap' ho7 fun b hb => Below.heap_setCell _ _ _ _ (by simp; have := (ho7.lt b hb).1; omega)
          have hb8 : Below X w6 (w8.setCell ⟨X, 2, none⟩ (.slice O7 (k + 1) c7)) := (hbX.grown hg7 (by omega) fun b hb => by have := (hovb b hb).1; omega).setCell (Nat.le_refl _) _
          exact ⟨⟨k + 1, _, by omega, by go_num, hX8, by rw [Hs1.out]; exact ho8, hb8⟩, by simp [intOf]; omega⟩
        · obtain rfl : k = g.prio.length := by omega
          rw [Hall.out] at hown
          obtain ⟨PA, pc2, e1, _⟩ := hown.ints.form
          rw [length_pressL] at e1
          subst e1
          have hua := hu66.under' hbX
          have hXc0 := hX1.c0
          have hXc1 := hX1.c1
          have hXc2 := hX1.c2
          have q0 := hRo.c0
          have q1 := hRo.c1
          have q2 := hRo.c2
          have q3 := hRo.frozen 0
          have q4 := hRo.frozen 1
          have q5 := hRo.frozen 2
          go_wp2
          have hR6 := ((hRo.set_ 0 (.slice F1 g.arena.owner.length f1)).set_ 1 (.slice F2 g.arena.next.length f2)).set_ 2 (.slice PA g.prio.length pc2)
          have hbw6 : Below w.heap.size w (((wr.setCell ⟨w.heap.size + 1, 0, none⟩ (.slice F1 g.arena.owner.length f1)).setCell ⟨w.heap.size + 1, 1, none⟩ (.slice F2 g.arena.next.length f2)).setCell ⟨w.heap.size + 1, 2, none⟩ (.slice PA g.prio.length pc2)) := ((hbwr.setCell (by simp) _).setCell (by simp) _).setCell (by simp) _
          have hopp2 : OP wr (w.heap.size + 2) wr.heap.size (.agg #[.slice F1 g.arena.owner.length f1, .slice F2 g.arena.next.length f2, .slice PA g.prio.length pc2]) ⟨g.arena, pressL ps g.prio⟩ := OP.join (M := X) (g := ⟨g.arena, pressL ps g.prio⟩) (hua.mono (by omega) (Nat.le_refl _)) ((OI.of hown).mono (Nat.le_succ _) (Nat.le_refl _)) (by omega) (Nat.le_of_lt hwX)
          have hcb : ∀ b, w.heap.size + 2 ≤ b → (((wr.setCell ⟨w.heap.size + 1, 0, none⟩ (.slice F1 g.arena.owner.length f1)).setCell ⟨w.heap.size + 1, 1, none⟩ (.slice F2 g.arena.next.length f2)).setCell ⟨w.heap.size + 1, 2, none⟩ (.slice PA g.prio.length pc2)).heap[b]? = wr.heap[b]? := fun b hb => by
            rw [Below.heap_setCell _ _ _ _ (by simp; omega), Below.heap_setCell _ _ _ _ (by simp; omega), Below.heap_setCell _ _ _ _ (by simp; omega)]
          have hsz : (((wr.setCell ⟨w.heap.size + 1, 0, none⟩ (.slice F1 g.arena.owner.length f1)).setCell ⟨w.heap.size + 1, 1, none⟩ (.slice F2 g.arena.next.length f2)).setCell ⟨w.heap.size + 1, 2, none⟩ (.slice PA g.prio.length pc2)).heap.size = wr.heap.size := by simp
          have hop6 := hopp2.heapFrom hcb
          generalize ((wr.setCell ⟨w.heap.size + 1, 0, none⟩ (.slice F1 g.arena.owner.length f1)).setCell ⟨w.heap.size + 1, 1, none⟩ (.slice F2 g.arena.next.length f2)).setCell ⟨w.heap.size + 1, 2, none⟩ (.slice PA g.prio.length pc2) = w8 at *
          have p0 := hR6.c0
          have p1 := hR6.c1
          have p2 := hR6.c2
          refine bodyPost_ret (v := .agg #[.slice F1 g.arena.owner.length f1, .slice F2 g.arena.next.length f2, .slice PA g.prio.length pc2]) (by simp [results, Try.results98, go_sem, p0, p1, p2]) rfl ?_
          exact .mk' (hop6.mono (by omega) (by omega)) hbw6

set_option maxRecDepth 100000 in
set_option maxHeartbeats 8000000 in
theorem Pressed_any (v : Value) (g : ParityD) (w : World) (hv : IsParity w v g) :
    Calls Try.prog 40 #[v] w (RetPar w (pressG g)) := by
  obtain ⟨o, n, p, rfl, hbw, hB, hR⟩ := parity_boxR' hv
  obtain ⟨hva, hp⟩ := hv.parts
  have hws := hbw.size
  have hR2 := hR.lt
  cases hE : parityOkB g
  · have hfix : pressG g = ⟨⟨[], []⟩, []⟩ := by unfold pressG; rw [hE]; rfl
    rw [hfix]; clear hfix
    go_enter Try.func40, Try.ntmps40
    have hBz := hB.lt
    have hBc0 := hB.c0
    have hBc1 := hB.c1
    have hBc2 := hB.c2
    have hRz := hR.lt
    have hRc0 := hR.c0
    have hRc1 := hR.c1
    have hRc2 := hR.c2
    go_wp2_with fail
    refine (ParityOk_any _ g _ (hv.kept (Kept.of hbw))).mono ?_
    rintro e w1 ⟨rfl, hb1⟩
    clear hBc0 hBc1 hBc2 hRc0 hRc1 hRc2 hBz hRz
    replace hB := hB.below hb1 hB.lt
    replace hR := hR.below hb1 hR.lt
    replace hbw := Below.up hbw hb1
    have hb1s := hb1.size
    clear hb1
    have hBz := hB.lt
    have hBc0 := hB.c0
    have hBc1 := hB.c1
    have hBc2 := hB.c2
    have hRz := hR.lt
    have hRc0 := hR.c0
    have hRc1 := hR.c1
    have hRc2 := hR.c2
    have q0 := hR.c0
    have q1 := hR.c1
    have q2 := hR.c2
    have q3 := hR.frozen 0
    have q4 := hR.frozen 1
    have q5 := hR.frozen 2
    go_wp2
    have hR6 := ((hR.set_ 0 (.slice none 0 0)).set_ 1 (.slice none 0 0)).set_ 2 (.slice none 0 0)
    have hbw6 : Below w.heap.size w (((w1.setCell ⟨w.heap.size + 1, 0, none⟩ (.slice none 0 0)).setCell ⟨w.heap.size + 1, 1, none⟩ (.slice none 0 0)).setCell ⟨w.heap.size + 1, 2, none⟩ (.slice none 0 0)) := ((hbw.setCell (by simp) _).setCell (by simp) _).setCell (by simp) _
    generalize ((w1.setCell ⟨w.heap.size + 1, 0, none⟩ (.slice none 0 0)).setCell ⟨w.heap.size + 1, 1, none⟩ (.slice none 0 0)).setCell ⟨w.heap.size + 1, 2, none⟩ (.slice none 0 0) = w6 at *
    have p0 := hR6.c0
    have p1 := hR6.c1
    have p2 := hR6.c2
    refine bodyPost_ret (v := .agg #[.slice none 0 0, .slice none 0 0, .slice none 0 0]) (by simp [results, Try.results40, go_sem, p0, p1, p2]) rfl ?_
    exact .mk' (OP.none' _ _ _) hbw6
  · have hfix : pressG g = pressP g := by unfold pressG; rw [hE]; rfl
    rw [hfix]; clear hfix
    go_enter Try.func40, Try.ntmps40
    have hBz := hB.lt
    have hBc0 := hB.c0
    have hBc1 := hB.c1
    have hBc2 := hB.c2
    have hRz := hR.lt
    have hRc0 := hR.c0
    have hRc1 := hR.c1
    have hRc2 := hR.c2
    go_wp2_with fail
    refine (ParityOk_any _ g _ (hv.kept (Kept.of hbw))).mono ?_
    rintro e w1 ⟨rfl, hb1⟩
    clear hBc0 hBc1 hBc2 hRc0 hRc1 hRc2 hBz hRz
    replace hB := hB.below hb1 hB.lt
    replace hR := hR.below hb1 hR.lt
    replace hbw := Below.up hbw hb1
    have hb1s := hb1.size
    clear hb1
    have hBz := hB.lt
    have hBc0 := hB.c0
    have hBc1 := hB.c1
    have hBc2 := hB.c2
    have hRz := hR.lt
    have hRc0 := hR.c0
    have hRc1 := hR.c1
    have hRc2 := hR.c2
    have hw1 := hbw.size
    have hRw1 := hR.lt
    go_wp2_with fail
    refine (pressed_any _ g _ (hv.kept (Kept.of hbw)) (parityOkB_iff.1 hE)).mono ?_
    rintro e w4 ⟨u4, rfl, hu4, hb4⟩
    obtain ⟨F1, f1, F2, f2, F3, f3, hf⟩ := OP.form hu4
    subst hf
    clear hBc0 hBc1 hBc2 hRc0 hRc1 hRc2 hBz hRz
    replace hB := hB.below hb4 hB.lt
    replace hR := hR.below hb4 hR.lt
    replace hbw := Below.up hbw hb4
    have hb4s := hb4.size
    clear hb4
    have hBz := hB.lt
    have hBc0 := hB.c0
    have hBc1 := hB.c1
    have hBc2 := hB.c2
    have hRz := hR.lt
    have hRc0 := hR.c0
    have hRc1 := hR.c1
    have hRc2 := hR.c2
    have q0 := hR.c0
    have q1 := hR.c1
    have q2 := hR.c2
    have q3 := hR.frozen 0
    have q4 := hR.frozen 1
    have q5 := hR.frozen 2
    generalize (pressP g).arena.owner.length = n1 at *
    generalize (pressP g).arena.next.length = n2 at *
    generalize (pressP g).prio.length = n3 at *
    go_wp2
    have hR6 := ((hR.set_ 0 (.slice F1 n1 f1)).set_ 1 (.slice F2 n2 f2)).set_ 2 (.slice F3 n3 f3)
    have hbw6 : Below w.heap.size w (((w4.setCell ⟨w.heap.size + 1, 0, none⟩ (.slice F1 n1 f1)).setCell ⟨w.heap.size + 1, 1, none⟩ (.slice F2 n2 f2)).setCell ⟨w.heap.size + 1, 2, none⟩ (.slice F3 n3 f3)) := ((hbw.setCell (by simp) _).setCell (by simp) _).setCell (by simp) _
    have hcb : ∀ b, w1.heap.size ≤ b → (((w4.setCell ⟨w.heap.size + 1, 0, none⟩ (.slice F1 n1 f1)).setCell ⟨w.heap.size + 1, 1, none⟩ (.slice F2 n2 f2)).setCell ⟨w.heap.size + 1, 2, none⟩ (.slice F3 n3 f3)).heap[b]? = w4.heap[b]? := fun b hb => by
      rw [Below.heap_setCell _ _ _ _ (by simp; omega), Below.heap_setCell _ _ _ _ (by simp; omega), Below.heap_setCell _ _ _ _ (by simp; omega)]
    have hsz : (((w4.setCell ⟨w.heap.size + 1, 0, none⟩ (.slice F1 n1 f1)).setCell ⟨w.heap.size + 1, 1, none⟩ (.slice F2 n2 f2)).setCell ⟨w.heap.size + 1, 2, none⟩ (.slice F3 n3 f3)).heap.size = w4.heap.size := by simp
    have hop6 := hu4.heapFrom hcb
    generalize ((w4.setCell ⟨w.heap.size + 1, 0, none⟩ (.slice F1 n1 f1)).setCell ⟨w.heap.size + 1, 1, none⟩ (.slice F2 n2 f2)).setCell ⟨w.heap.size + 1, 2, none⟩ (.slice F3 n3 f3) = w6 at *
    have p0 := hR6.c0
    have p1 := hR6.c1
    have p2 := hR6.c2
    refine bodyPost_ret (v := .agg #[.slice F1 n1 f1, .slice F2 n2 f2, .slice F3 n3 f3]) (by simp [results, Try.results40, go_sem, p0, p1, p2]) rfl ?_
    exact .mk' (hop6.mono hw1 (by omega)) hbw6
end Go.Proofs.Ytpnophmanpfejaa
