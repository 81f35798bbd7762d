/- The walks of ReachOf and what it calls, the program's and the reference's. Conditions: the lengths; the arena is valid. Printed by gen_reach.py. -/
import Derived.Test.YtpnophmanpfejaaQueue
import Derived.Test.YtpnophmanpfejaaPkC
import Derived.Test.YtpnophmanpfejaaPkB
import Derived.Deep.LoopGhost
namespace Go.Proofs.Ytpnophmanpfejaa
set_option linter.unusedSimpArgs false
set_option linter.unusedVariables false
open Go.RowKit

theorem OwnBools.form {w : World} {B : Nat} {v : Value} {l : List Bool} (h : OwnBools w B v l) (hl : 0 < l.length) : ∃ g cap, v = .slice (some ⟨g, 0, none⟩) l.length cap ∧ B ≤ g ∧ g < w.heap.size := by
  rcases h.2 with ⟨rfl, h2⟩ | ⟨g, cap, cur, rfl, hB, hg, hnc, hcm, _⟩
  · omega
  · exact ⟨g, cap, rfl, hB, (Array.getElem?_eq_some_iff.1 hg).1⟩
theorem OwnBools.set_ {w : World} {B g n cap : Nat} {l : List Bool} (h : OwnBools w B (.slice (some ⟨g, 0, none⟩) n cap) l) (hn : n = l.length) (k : Nat) (x : Bool) :
    OwnBools (w.setCell ⟨g, k, none⟩ (.bool x)) B (.slice (some ⟨g, 0, none⟩) n cap) (l.set k x) := by
  subst hn
  have := World.ownsRow.stored h k (.bool x)
  unfold OwnBools
  rw [List.length_set, List.map_set]
  exact this.1
theorem OwnBools.frozen {w : World} {B g n cap : Nat} {l : List Bool} (h : OwnBools w B (.slice (some ⟨g, 0, none⟩) n cap) l) (hn : n = l.length) (k : Nat) : w.frozen? ⟨g, k, none⟩ = false := by
  subst hn
  exact World.ownsRow.frozenAt h k
theorem OwnBools.cell {w : World} {B g n cap : Nat} {l : List Bool} (h : OwnBools w B (.slice (some ⟨g, 0, none⟩) n cap) l) {k : Nat} (hk : k < l.length) : w.cell? ⟨g, k, none⟩ = some (.bool (bx l k)) := by
  obtain ⟨ad, e, hc⟩ := h.bools.at_ hk
  injection e with e
  subst e
  rwa [add_head] at hc
theorem Arr.kept' {w w' : World} {g : Nat} {e : TypeId} {xs : List Value} {row : Option Nat} (h : Arr w g e xs) (hg : w.grownBy w' row) (hne : some g ≠ row) : Arr w' g e xs := (hg.block g h.lt hne).trans h
theorem run_eql_bools_nil (W : World) (A : Option Addr) (n c : Nat) : (binOp .eql 81 (.slice A n c) (.slice none 0 0)).run Try.prog W = .ok (.bool A.isNone) W := by
  have h : ∀ d : Nat, (Op.equalIn (d + 1) 81 (.slice A n c) (.slice none 0 0)).run Try.prog W = .ok A.isNone W := fun d => by
    cases A <;> simp [Op.equalIn, run_underlying Try.underlying81]
  have h2 : (Op.equal 81 (.slice A n c) (.slice none 0 0)).run Try.prog W = .ok A.isNone W := h 9999
  simp [binOp, h2]
theorem ArenaOk.vert_next' {a : ArenaD} (h : ArenaOk a) {v : Nat} (hv : v < a.owner.length) {t : Nat} (ht : t < (rx a.next v).length) : ∃ j : Nat, ix (rx a.next v) t = (j : Int) ∧ j < a.owner.length := (h.set hv).vert t ht
theorem new_bools (w : World) : OwnBools (w.alloc (.cells #[] 4)) w.heap.size (.slice (some ⟨w.heap.size, 0, none⟩) 0 0) [] ∧ Below w.heap.size w (w.alloc (.cells #[] 4)) :=
  ⟨World.ownsRow_lit w #[] 0 (Nat.le_refl _) (by simp [maxLen]) (by simp), (Below.refl _ _).alloc (Nat.le_refl _) _⟩


set_option maxHeartbeats 1000000 in
theorem listOf_any (v : Value) (m : List Bool) (w : World) (hv : Bools w v m) (hm : m.length ≤ 1048576) :
    Calls Try.prog 116 #[v] w (RetInts w (markedL m)) := by
  obtain ⟨A, c, rfl, hlc, hcm⟩ := hv.form
  obtain ⟨hown, hbn⟩ := new_ints w
  have Hall := Lib.hid (show markedTo m m.length = markedL m from rfl)
  go_enter Try.func116, Try.ntmps116
  go_wp2
  generalize w.alloc (.cells #[] 2) = w0 at *
  go_loopw [3, 9] (fun v i wr => ∃ k : Nat, k ≤ m.length ∧ i = .int .i64 k ∧ OwnInts wr w.heap.size v (markedTo m k) ∧ Below w.heap.size w wr) (fun _ i _ => m.length - (intOf i).toNat)
  case atStart => exact ⟨0, Nat.zero_le _, rfl, hown, hbn⟩
  case round =>
    obtain ⟨k, hk, rfl, hown, hbw⟩ := hrel
    have hbs := hbw.size
    by_cases hlt : k < m.length
    · obtain ⟨a1, rfl, hc1⟩ := (hv.kept (Kept.of hbw)).at_ hlt
      have hlen := markedTo_len m k
      have Hs := Lib.hid (markedTo_succ m k)
      cases e : bx m k
      · rw [e] at hc1 Hs
        clear e
        go_wp2
        exact ⟨⟨k + 1, by omega, by go_num, by rw [Hs.out]; simpa using hown, hbw⟩, by simp [intOf]; omega⟩
      · rw [e] at hc1 Hs
        clear e
        go_wp2_with (at_builtin; refine append_int _ rfl (.tmp 15) (.tmp 17) rfl w.heap.size u3 _ rfl hown (k : Int) rfl (by omega) hbs ?_; intro v1 w3 ho1 hb1 hg1 hl1)
        exact ⟨⟨k + 1, by omega, by go_num, by rw [Hs.out]; simpa using ho1, hbw.trans hb1⟩, by simp [intOf]; omega⟩
    · obtain rfl : k = m.length := by omega
      rw [Hall.out] at hown
      go_wp2
      go_ret
      exact .mk' hown hbw

set_option maxHeartbeats 1000000 in
theorem l1Marked_any (v : Value) (m : List Bool) (w : World) (hv : Bools w v m) (hm : m.length ≤ 1048576) :
    Calls Try.prog 120 #[v] w (RetInts w (markedL m)) := by
  obtain ⟨A, c, rfl, hlc, hcm⟩ := hv.form
  obtain ⟨hown, hbn⟩ := new_ints w
  have Hall := Lib.hid (show markedTo m m.length = markedL m from rfl)
  go_enter Try.func120, Try.ntmps120
  go_wp2
  generalize w.alloc (.cells #[] 2) = w0 at *
  go_loopw [3, 4] (fun v i wr => ∃ k : Nat, k ≤ m.length ∧ i = .int .i64 k ∧ OwnInts wr w.heap.size v (markedTo m k) ∧ Below w.heap.size w wr) (fun _ i _ => m.length - (intOf i).toNat)
  case atStart => exact ⟨0, Nat.zero_le _, rfl, hown, hbn⟩
  case round =>
    obtain ⟨k, hk, rfl, hown, hbw⟩ := hrel
    have hbs := hbw.size
    by_cases hlt : k < m.length
    · obtain ⟨a1, rfl, hc1⟩ := (hv.kept (Kept.of hbw)).at_ hlt
      have hlen := markedTo_len m k
      have Hs := Lib.hid (markedTo_succ m k)
      have hlt' : (k : Int) < m.length := by omega
      cases e : bx m k
      · rw [e] at hc1 Hs
        clear e
        go_wp2
        exact ⟨⟨k + 1, by omega, by go_num, by rw [Hs.out]; simpa using hown, hbw⟩, by simp [intOf]; omega⟩
      · rw [e] at hc1 Hs
        clear e
        go_wp2_with (at_builtin; refine append_int _ rfl (.tmp 16) (.tmp 18) rfl w.heap.size u3 _ rfl hown (k : Int) rfl (by omega) hbs ?_; intro v1 w3 ho1 hb1 hg1 hl1)
        exact ⟨⟨k + 1, by omega, by go_num, by rw [Hs.out]; simpa using ho1, hbw.trans hb1⟩, by simp [intOf]; omega⟩
    · obtain rfl : k = m.length := by omega
      rw [Hall.out] at hown
      go_wp2
      go_ret
      exact .mk' hown hbw

set_option maxHeartbeats 1000000 in
theorem l1Everywhere_any (n : Nat) (w : World) (hn : n ≤ 1048576) : Calls Try.prog 119 #[.int .i64 (n : Int)] w (RetBools w (List.replicate n true)) := by
  have hmk := make_one elem_bool n (by omega)
  go_enter Try.func119, Try.ntmps119
  go_wp2
  clear hmk
  have hM := BArr.new w n
  have hb2 := (Below.refl w.heap.size w).alloc (Nat.le_refl _) (.cells (zeros (.bool false) n).toArray 4)
  generalize w.alloc (.cells (zeros (.bool false) n).toArray 4) = w0 at *
  go_loopw [4] (fun i wr => ∃ (k : Nat) (m : List Bool), k ≤ n ∧ i = .int .i64 k ∧ BArr wr w.heap.size m ∧ m.length = n ∧ (∀ j, j < k → bx m j = true) ∧ Below w.heap.size w wr) (fun i _ => n - (intOf i).toNat)
  case atStart => exact ⟨0, _, Nat.zero_le _, rfl, hM, by simp, fun j hj => by omega, hb2⟩
  case round =>
    obtain ⟨k, m, hk, rfl, hM, hl, hm, hbw⟩ := hrel
    have Hl := Lib.hid hl
    clear hl
    have Hm := Lib.hid hm
    clear hm
    by_cases hlt : k < n
    · have hc2 := hM.cell (k := k) (by rw [Hl.out]; exact hlt)
      have hf2 := hM.frozen k
      have hset := hM.set_ k true
      have hlt' : (k : Int) < n := by omega
      go_wp2
      refine ⟨⟨k + 1, _, by omega, by go_num, hset, by simpa using Hl.out, fun j hj => ?_, hbw.setCell (by simp) _⟩, by simp [intOf]; omega⟩
      rw [bx_set (by rw [Hl.out]; exact hlt)]
      split
      · rfl
      · exact Hm.out j (by omega)
    · obtain rfl : k = n := by omega
      have hml : m = List.replicate k true := bools_ext (by simpa using Hl.out) fun j hj => by
        rw [List.length_replicate] at hj
        rw [Hm.out j hj]; simp [bx, hj]
      subst hml
      have hown := hM.own (B := w.heap.size) (Nat.le_refl _) (by simp; omega)
      rw [List.length_replicate] at hown
      go_wp2
      go_ret
      exact .mk' hown hbw


set_option maxRecDepth 100000 in
set_option maxHeartbeats 4000000 in
theorem reachIn_nil (v : Value) (a : ArenaD) (u : Value) (s : List Bool) (w : World) (hv : IsArena w v a) (hu : Bools w u s) (hok : ArenaOk a) (hs : s.length = a.owner.length) :
    Calls Try.prog 117 #[v, u, .slice none 0 0] w (RetBools w (reachL a.next (fun _ => true) a.owner.length (fun x => bx s x = true))) := by
  obtain ⟨o, n, rfl, hbw, hB⟩ := arena_open hv
  obtain ⟨ho, hn⟩ := hv.parts
  obtain ⟨A', c', rfl, hlc', hcm'⟩ := hn.form
  obtain ⟨US, uc, rfl, huc, hum⟩ := hu.form
  have hle := hok.le
  have Hlen := Lib.hid hok.len
  have Hs := Lib.hid hs
  clear hs
  have hw0 : (w.alloc (.cells #[o, .slice A' a.next.length c'] 30)).heap.size = w.heap.size + 1 := by simp
  obtain ⟨hn0, hbn⟩ := new_bools (w.alloc (.cells #[o, .slice A' a.next.length c'] 30))
  have hu0 := (hu.kept (Kept.of hbw)).kept (Kept.of hbn)
  have hbW := hbw.trans (hbn.mono hbw.size)
  replace hB := hB.alloc (.cells #[] 4)
  have hs0 : w.heap.size + 1 ≤ ((w.alloc (.cells #[o, .slice A' a.next.length c'] 30)).alloc (.cells #[] 4)).heap.size := by simp
  rw [hw0] at hn0
  clear hw0 hbn
  have hnil := fun (W : World) => show (binOp .eql 81 (.slice none 0 0) (.slice none 0 0)).run Try.prog W = .ok (.bool true) W from run_eql_bools_nil W _ _ _
  go_enter Try.func117, Try.ntmps117
  go_wp2_with (at_builtin; refine append_bools elem_bool _ rfl (.tmp 12) (.tmp 13) rfl (w.heap.size + 1) _ [] rfl hn0 _ s rfl hu0 (by have := Hs.out; simp; omega) hs0 ?_; intro v1 w1 ho1 hb1 hg1 hl1)
  rw [List.nil_append] at ho1
  replace ho1 : OwnBools w1 (w.heap.size + 1) v1 s := ho1
  obtain ⟨og, oc, rfl, hog, hogl⟩ := OwnBools.form ho1 (by have := Hs.out; have := hok.pos; omega)
  replace hbw : Below w.heap.size w w1 := hbW.trans (hb1.mono (Nat.le_succ _))
  replace hB : Arr w1 w.heap.size 30 [o, .slice A' a.next.length c'] := hB.below hb1 (Nat.lt_succ_self _)
  have ho1s := (ho1.lt og rfl)
  clear hbW hn0 hb1 hg1 hl1 hu0 hs0
  refine (listOf_any _ s _ (hu.kept (Kept.of hbw)) (by have := Hs.out; omega)).mono ?_
  rintro e w2 ⟨uq, rfl, hQ, hb2⟩
  obtain ⟨A, c, rfl, hqc, hqm⟩ := hQ.ints.form
  have hO2 := ho1.below hb2 (Nat.le_refl _)
  have hq2 := (OwnQ.of_own hQ).more (B' := w.heap.size + 1) (by omega)
  have hB2 := hB.below hb2 hB.lt
  have hbw2 : Below w.heap.size w w2 := Below.up hbw hb2
  have hlook : Look a.next (fun _ => true) a.owner.length (fun x => bx s x = true) (fun x => bx s x = true) (Reached a.next (fun _ => true) (fun x => bx s x = true)) s (markedL s) := ⟨Hs.out, fun _ h => h, fun x h => ⟨x, h, .refl _⟩, fun x hx => .inl (mem_markedL.2 ⟨x, by
      have h1 : bx s x = true := hx.elim id id
      by_cases hlt : x < s.length
      · exact hlt
      · simp [bx, hlt] at h1, rfl, hx.elim id id⟩), fun k hk => by
      obtain ⟨j, h1, h2, h3⟩ := mem_markedL.1 (mem_ix.2 ⟨k, hk, rfl⟩)
      exact ⟨j, h2, by have := Hs.out; omega, .inl h3⟩⟩
  have hql : (markedL s).length ≤ s.length := markedTo_len s s.length
  have htd0 : toDo s (markedL s) ≤ 1024 := by
    have := toDo_le (out := s) (q := markedL s)
    have := Hs.out
    omega
  have Hlook := Lib.hid hlook
  have Htd0 := Lib.hid htd0
  clear hlook htd0 ho1 ho1s hQ hb2 hB hbw hql
  go_wp2

  go_loopg [8] 1024 (fun g q wx => ∃ (A : Option Addr) (n c : Nat) (ql : List Int) (out : List Bool), q = .slice A n c ∧ Hid (n = ql.length) ∧ OwnQ wx (w.heap.size + 1) (.slice A n c) ql ∧ OwnBools wx (w.heap.size + 1) (.slice (some ⟨og, 0, none⟩) s.length oc) out ∧ out.length = a.owner.length ∧ Hid (Look a.next (fun _ => true) a.owner.length (fun x => bx s x = true) (fun x => bx s x = true) (Reached a.next (fun _ => true) (fun x => bx s x = true)) out ql) ∧ Hid (toDo out ql ≤ g) ∧ g ≤ 1024 ∧ Arr wx w.heap.size 30 [o, .slice A' a.next.length c'] ∧ Below w.heap.size w wx)
  case atStart => exact ⟨A, _, c, _, s, rfl, Lib.hid rfl, hq2, hO2, Hs.out, Hlook, Htd0, Nat.le_refl _, hB2, hbw2⟩
  case round =>
    obtain ⟨A, n, c, ql, out, rfl, Hn, hq, hO, hOl, Hlk, HM0, hgk, hX, hbw⟩ := hrel
    have HOl := Lib.hid hOl
    clear hOl
    obtain ⟨wo, rfl⟩ : ∃ wo : World, wo = wr := ⟨_, rfl⟩
    have hbs := hbw.size
    have hoglt := (hO.lt og rfl).2
    cases ql with
    | nil =>
      have hn0 : n = 0 := Hn.out
      subst hn0
      have hres := Hlk.out.is_reachL
      subst hres
      go_wp2
      go_ret
      refine .mk' ?_ hbw
      have := hO.more (B' := w.heap.size) (by omega)
      exact this
    | cons x ql =>
      obtain ⟨k, hkx, hkn, hkS⟩ := Hlk.out.qv 0 (by simp)
      have hkx' : x = (k : Int) := hkx
      subst hkx'
      obtain ⟨A2, c2, hpop, hq2⟩ := hq.pop Hn.out
      have Hat := Lib.hid (Look.pop Hlk.out hkS (q' := ql) (fun y hy => by rcases List.mem_cons.1 hy with e | e; exact .inr e; exact .inl e) (fun j hj => ⟨j + 1, by simpa using hj, by simp [ix]⟩))
      have hn1 : 0 < n := by have := Hn.out; simp only [List.length_cons] at this; omega
      have hqi := hq.ints
      obtain ⟨aq, rfl, hcq⟩ : ∃ aq, A = some aq ∧ wo.cell? (aq.add 0) = some (.int .i64 (k : Int)) := by
        have hl0 : (0 : Nat) < ((k : Int) :: ql).length := by simp
        have hq' : Ints wo (.slice A ((k : Int) :: ql).length c) ((k : Int) :: ql) := by rw [← Hn.out]; exact hqi
        exact hq'.at_ hl0
      have ha0 : aq.add 0 = aq := by unfold Addr.add; simp
      rw [ha0] at hcq
      clear hqi ha0 hkx
      have hXc1 := hX.c1
      obtain ⟨a2, R, r, ea, hc2, hrow⟩ := (hn.kept (Kept.refl w)).at_ (k := k) (by rw [Hlen.out]; exact hkn)
      subst ea
      have hc2' := (Kept.of hbw).cell hc2
      obtain ⟨R', r', he, hrl, hrm⟩ := hrow.form
      simp only [Value.slice.injEq, true_and] at he
      obtain ⟨rfl, rfl⟩ := he
      have hkl : (k : Int) < a.next.length := by rw [Hlen.out]; omega
      have hvn := fun t ht => hok.vert_next' hkn (t := t) ht
      have hT : ∀ x y, (bx s x = true ∨ Reached a.next (fun _ => true) (fun x => bx s x = true) x) → StepIn a.next (fun _ => true) x y → Reached a.next (fun _ => true) (fun x => bx s x = true) y := fun x y hx hs => Reached.step (hx.elim (fun h => ⟨x, h, .refl _⟩) id) hs
      clear hc2
      go_wp2
      go_loopw [8, 31] (fun q i wr => ∃ (t : Nat) (A : Option Addr) (n c : Nat) (ql : List Int) (out : List Bool), t ≤ (rx a.next k).length ∧ i = .int .i64 t ∧ q = .slice A n c ∧ Hid (n = ql.length) ∧ OwnQ wr (w.heap.size + 1) (.slice A n c) ql ∧ OwnBools wr (w.heap.size + 1) (.slice (some ⟨og, 0, none⟩) s.length oc) out ∧ out.length = a.owner.length ∧ Hid (LookAt a.next (fun _ => true) a.owner.length (fun x => bx s x = true) (fun x => bx s x = true) (Reached a.next (fun _ => true) (fun x => bx s x = true)) k t out ql) ∧ Hid (toDo out ql + 1 ≤ gk) ∧ Arr wr w.heap.size 30 [o, .slice (some a2) a.next.length c'] ∧ Below w.heap.size w wr) (fun _ i _ => (rx a.next k).length - (intOf i).toNat)
      case atStart => exact ⟨0, A2, _, c2, _, out, Nat.zero_le _, rfl, rfl, Lib.hid rfl, hq2, hO, HOl.out, Hat, Lib.hid (by have := HM0.out; have := Hn.out; unfold toDo at *; simp only [List.length_cons] at *; omega), hX, hbw⟩
      case round =>
        obtain ⟨t, A, n, c, ql, out, ht, rfl, rfl, Hn, hq, hO, hOl, hlk, HM, hX, hbr⟩ := hrel
        have HOl := Lib.hid hOl
        clear hOl
        have hbs := hbr.size
        have hoglt := (hO.lt og rfl).2
        have hXc1 := hX.c1
        by_cases htl : t < (rx a.next k).length
        · obtain ⟨a4, rfl, hc4⟩ := (hrow.kept (Kept.of hbr)).at_ htl
          obtain ⟨j, hj, hjn⟩ := hvn t htl
          rw [hj] at hc4
          have Hj := Lib.hid hj
          clear hj
          have hjs : j < s.length := by rw [Hs.out]; exact hjn
          have hjs' : (j : Int) < s.length := by omega
          skip
          skip
          have hcO0 := hO.cell (k := j) (by rw [HOl.out]; exact hjn)
          cases e : bx out j
          · rw [e] at hcO0
            have hfO := hO.frozen (by rw [HOl.out, Hs.out]) j
            have hset := hO.set_ (by rw [HOl.out, Hs.out]) j true
            have Htd := Lib.hid (toDo_take (out := out) (q := ql) (u := j) (by rw [HOl.out]; exact hjn) e)
            have Hlk2 := Lib.hid (LookAt.take hlk.out htl Hj.out hjn rfl hT)
            have hq1 : OwnQ (wr.setCell ⟨og, j, none⟩ (.bool true)) (w.heap.size + 1) (.slice A n c) ql := hq.heap fun b hb => Below.heap_setCell _ _ _ _ (by
              have := hq.ne_bools hO hb
              simp only [Value.ownBlock, ne_eq, Option.some.injEq] at this
              simp; omega)
            have hbs1 : w.heap.size + 1 ≤ (wr.setCell ⟨og, j, none⟩ (.bool true)).heap.size := by simp; omega
            have hn40 : n ≤ 1099511627776 := by have h1 := HM.out; have h2 := Hn.out; unfold toDo at h1; omega
            clear e
            go_wp2_with (at_builtin; refine append_q (wr.setCell ⟨og, j, none⟩ (.bool true)) rfl (.tmp 53) (.tmp 55) rfl (w.heap.size + 1) (.slice A n c) ql n Hn.out rfl hq1 (j : Int) wr.heap.size (by simp) rfl hn40 hbs1 ?_; intro A3 c3 w3 hq3 hg3)
            refine ⟨⟨t + 1, A3, n + 1, c3, ql ++ [(j : Int)], out.set j true, by omega, by go_num, rfl, Lib.hid (by rw [List.length_append, Hn.out]; rfl), hq3, ?_, by rw [List.length_set]; exact HOl.out, Hlk2, Lib.hid (by have := Htd.out; have := HM.out; omega), ?_, ?_⟩, by simp [intOf]; omega⟩
            · exact hset.heap fun b hb => hg3.block b (hset.lt b hb).2 fun e => (hq1.ne_bools hset e.symm) hb
            · exact (hX.far (p := ⟨og, j, none⟩) (by simp; omega) _).kept' hg3 fun e => by have := (hq1.lt _ e.symm).1; omega
            · exact (hbr.setCell (by simp; omega) _).grown hg3 (by omega) fun b hb => by have := (hq1.lt b hb).1; omega
          · rw [e] at hcO0
            have He := Lib.hid e
            have Hlk2 := Lib.hid (LookAt.skip hlk.out Hj.out (.inr He.out))
            clear e
            go_wp2
            exact ⟨⟨t + 1, A, n, c, ql, out, by omega, by go_num, rfl, Hn, hq, hO, HOl.out, Hlk2, HM, hX, hbr⟩, by simp [intOf]; omega⟩
        · obtain rfl : t = (rx a.next k).length := by omega
          have Hlk3 := Lib.hid (LookAt.done hlk.out rfl)
          go_wp2
          go_roundg (gk - 1)
          case measure => have := HM.out; omega
          case rel => exact ⟨A, n, c, ql, out, rfl, Hn, hq, hO, HOl.out, Hlk3, Lib.hid (by have := HM.out; omega), by omega, hX, hbr⟩

set_option maxRecDepth 100000 in
set_option maxHeartbeats 4000000 in
theorem reachIn_in (v : Value) (a : ArenaD) (u : Value) (s : List Bool) (z : Value) (m : List Bool) (w : World) (hv : IsArena w v a) (hu : Bools w u s) (hz : Bools w z m) (hm : m.length = a.owner.length) (hok : ArenaOk a) (hs : s.length = a.owner.length) :
    Calls Try.prog 117 #[v, u, z] w (RetBools w (reachL a.next (bx m) a.owner.length (fun x => bx s x = true))) := by
  obtain ⟨o, n, rfl, hbw, hB⟩ := arena_open hv
  obtain ⟨ho, hn⟩ := hv.parts
  obtain ⟨A', c', rfl, hlc', hcm'⟩ := hn.form
  obtain ⟨US, uc, rfl, huc, hum⟩ := hu.form
  obtain ⟨ZA, zc, rfl, hzc, hzm⟩ := hz.form
  obtain ⟨za, rfl⟩ : ∃ za, ZA = some za := by
    obtain ⟨za, e, _⟩ := hz.at_ (k := 0) (by rw [hm]; exact hok.pos)
    exact ⟨za, e⟩
  have Hm := Lib.hid hm
  clear hm
  have hle := hok.le
  have Hlen := Lib.hid hok.len
  have Hs := Lib.hid hs
  clear hs
  have hw0 : (w.alloc (.cells #[o, .slice A' a.next.length c'] 30)).heap.size = w.heap.size + 1 := by simp
  obtain ⟨hn0, hbn⟩ := new_bools (w.alloc (.cells #[o, .slice A' a.next.length c'] 30))
  have hu0 := (hu.kept (Kept.of hbw)).kept (Kept.of hbn)
  have hbW := hbw.trans (hbn.mono hbw.size)
  replace hB := hB.alloc (.cells #[] 4)
  have hs0 : w.heap.size + 1 ≤ ((w.alloc (.cells #[o, .slice A' a.next.length c'] 30)).alloc (.cells #[] 4)).heap.size := by simp
  rw [hw0] at hn0
  clear hw0 hbn
  have hnil := fun (W : World) => show (binOp .eql 81 (.slice (some za) m.length zc) (.slice none 0 0)).run Try.prog W = .ok (.bool false) W from run_eql_bools_nil W _ _ _
  go_enter Try.func117, Try.ntmps117
  go_wp2_with (at_builtin; refine append_bools elem_bool _ rfl (.tmp 12) (.tmp 13) rfl (w.heap.size + 1) _ [] rfl hn0 _ s rfl hu0 (by have := Hs.out; simp; omega) hs0 ?_; intro v1 w1 ho1 hb1 hg1 hl1)
  rw [List.nil_append] at ho1
  replace ho1 : OwnBools w1 (w.heap.size + 1) v1 s := ho1
  obtain ⟨og, oc, rfl, hog, hogl⟩ := OwnBools.form ho1 (by have := Hs.out; have := hok.pos; omega)
  replace hbw : Below w.heap.size w w1 := hbW.trans (hb1.mono (Nat.le_succ _))
  replace hB : Arr w1 w.heap.size 30 [o, .slice A' a.next.length c'] := hB.below hb1 (Nat.lt_succ_self _)
  have ho1s := (ho1.lt og rfl)
  clear hbW hn0 hb1 hg1 hl1 hu0 hs0
  refine (listOf_any _ s _ (hu.kept (Kept.of hbw)) (by have := Hs.out; omega)).mono ?_
  rintro e w2 ⟨uq, rfl, hQ, hb2⟩
  obtain ⟨A, c, rfl, hqc, hqm⟩ := hQ.ints.form
  have hO2 := ho1.below hb2 (Nat.le_refl _)
  have hq2 := (OwnQ.of_own hQ).more (B' := w.heap.size + 1) (by omega)
  have hB2 := hB.below hb2 hB.lt
  have hbw2 : Below w.heap.size w w2 := Below.up hbw hb2
  have hlook : Look a.next (bx m) a.owner.length (fun x => bx s x = true) (fun x => bx s x = true) (Reached a.next (bx m) (fun x => bx s x = true)) s (markedL s) := ⟨Hs.out, fun _ h => h, fun x h => ⟨x, h, .refl _⟩, fun x hx => .inl (mem_markedL.2 ⟨x, by
      have h1 : bx s x = true := hx.elim id id
      by_cases hlt : x < s.length
      · exact hlt
      · simp [bx, hlt] at h1, rfl, hx.elim id id⟩), fun k hk => by
      obtain ⟨j, h1, h2, h3⟩ := mem_markedL.1 (mem_ix.2 ⟨k, hk, rfl⟩)
      exact ⟨j, h2, by have := Hs.out; omega, .inl h3⟩⟩
  have hql : (markedL s).length ≤ s.length := markedTo_len s s.length
  have htd0 : toDo s (markedL s) ≤ 1024 := by
    have := toDo_le (out := s) (q := markedL s)
    have := Hs.out
    omega
  have Hlook := Lib.hid hlook
  have Htd0 := Lib.hid htd0
  clear hlook htd0 ho1 ho1s hQ hb2 hB hbw hql
  go_wp2

  go_loopg [8] 1024 (fun g q wx => ∃ (A : Option Addr) (n c : Nat) (ql : List Int) (out : List Bool), q = .slice A n c ∧ Hid (n = ql.length) ∧ OwnQ wx (w.heap.size + 1) (.slice A n c) ql ∧ OwnBools wx (w.heap.size + 1) (.slice (some ⟨og, 0, none⟩) s.length oc) out ∧ out.length = a.owner.length ∧ Hid (Look a.next (bx m) a.owner.length (fun x => bx s x = true) (fun x => bx s x = true) (Reached a.next (bx m) (fun x => bx s x = true)) out ql) ∧ Hid (toDo out ql ≤ g) ∧ g ≤ 1024 ∧ Arr wx w.heap.size 30 [o, .slice A' a.next.length c'] ∧ Below w.heap.size w wx)
  case atStart => exact ⟨A, _, c, _, s, rfl, Lib.hid rfl, hq2, hO2, Hs.out, Hlook, Htd0, Nat.le_refl _, hB2, hbw2⟩
  case round =>
    obtain ⟨A, n, c, ql, out, rfl, Hn, hq, hO, hOl, Hlk, HM0, hgk, hX, hbw⟩ := hrel
    have HOl := Lib.hid hOl
    clear hOl
    obtain ⟨wo, rfl⟩ : ∃ wo : World, wo = wr := ⟨_, rfl⟩
    have hbs := hbw.size
    have hoglt := (hO.lt og rfl).2
    cases ql with
    | nil =>
      have hn0 : n = 0 := Hn.out
      subst hn0
      have hres := Hlk.out.is_reachL
      subst hres
      go_wp2
      go_ret
      refine .mk' ?_ hbw
      have := hO.more (B' := w.heap.size) (by omega)
      exact this
    | cons x ql =>
      obtain ⟨k, hkx, hkn, hkS⟩ := Hlk.out.qv 0 (by simp)
      have hkx' : x = (k : Int) := hkx
      subst hkx'
      obtain ⟨A2, c2, hpop, hq2⟩ := hq.pop Hn.out
      have Hat := Lib.hid (Look.pop Hlk.out hkS (q' := ql) (fun y hy => by rcases List.mem_cons.1 hy with e | e; exact .inr e; exact .inl e) (fun j hj => ⟨j + 1, by simpa using hj, by simp [ix]⟩))
      have hn1 : 0 < n := by have := Hn.out; simp only [List.length_cons] at this; omega
      have hqi := hq.ints
      obtain ⟨aq, rfl, hcq⟩ : ∃ aq, A = some aq ∧ wo.cell? (aq.add 0) = some (.int .i64 (k : Int)) := by
        have hl0 : (0 : Nat) < ((k : Int) :: ql).length := by simp
        have hq' : Ints wo (.slice A ((k : Int) :: ql).length c) ((k : Int) :: ql) := by rw [← Hn.out]; exact hqi
        exact hq'.at_ hl0
      have ha0 : aq.add 0 = aq := by unfold Addr.add; simp
      rw [ha0] at hcq
      clear hqi ha0 hkx
      have hXc1 := hX.c1
      obtain ⟨a2, R, r, ea, hc2, hrow⟩ := (hn.kept (Kept.refl w)).at_ (k := k) (by rw [Hlen.out]; exact hkn)
      subst ea
      have hc2' := (Kept.of hbw).cell hc2
      obtain ⟨R', r', he, hrl, hrm⟩ := hrow.form
      simp only [Value.slice.injEq, true_and] at he
      obtain ⟨rfl, rfl⟩ := he
      have hkl : (k : Int) < a.next.length := by rw [Hlen.out]; omega
      have hvn := fun t ht => hok.vert_next' hkn (t := t) ht
      have hT : ∀ x y, (bx s x = true ∨ Reached a.next (bx m) (fun x => bx s x = true) x) → StepIn a.next (bx m) x y → Reached a.next (bx m) (fun x => bx s x = true) y := fun x y hx hs => Reached.step (hx.elim (fun h => ⟨x, h, .refl _⟩) id) hs
      clear hc2
      go_wp2
      go_loopw [8, 31] (fun q i wr => ∃ (t : Nat) (A : Option Addr) (n c : Nat) (ql : List Int) (out : List Bool), t ≤ (rx a.next k).length ∧ i = .int .i64 t ∧ q = .slice A n c ∧ Hid (n = ql.length) ∧ OwnQ wr (w.heap.size + 1) (.slice A n c) ql ∧ OwnBools wr (w.heap.size + 1) (.slice (some ⟨og, 0, none⟩) s.length oc) out ∧ out.length = a.owner.length ∧ Hid (LookAt a.next (bx m) a.owner.length (fun x => bx s x = true) (fun x => bx s x = true) (Reached a.next (bx m) (fun x => bx s x = true)) k t out ql) ∧ Hid (toDo out ql + 1 ≤ gk) ∧ Arr wr w.heap.size 30 [o, .slice (some a2) a.next.length c'] ∧ Below w.heap.size w wr) (fun _ i _ => (rx a.next k).length - (intOf i).toNat)
      case atStart => exact ⟨0, A2, _, c2, _, out, Nat.zero_le _, rfl, rfl, Lib.hid rfl, hq2, hO, HOl.out, Hat, Lib.hid (by have := HM0.out; have := Hn.out; unfold toDo at *; simp only [List.length_cons] at *; omega), hX, hbw⟩
      case round =>
        obtain ⟨t, A, n, c, ql, out, ht, rfl, rfl, Hn, hq, hO, hOl, hlk, HM, hX, hbr⟩ := hrel
        have HOl := Lib.hid hOl
        clear hOl
        have hbs := hbr.size
        have hoglt := (hO.lt og rfl).2
        have hXc1 := hX.c1
        by_cases htl : t < (rx a.next k).length
        · obtain ⟨a4, rfl, hc4⟩ := (hrow.kept (Kept.of hbr)).at_ htl
          obtain ⟨j, hj, hjn⟩ := hvn t htl
          rw [hj] at hc4
          have Hj := Lib.hid hj
          clear hj
          have hjs : j < s.length := by rw [Hs.out]; exact hjn
          have hjs' : (j : Int) < s.length := by omega
          have hjm : (j : Int) < m.length := by rw [Hm.out]; omega
          skip
          have hcO0 := hO.cell (k := j) (by rw [HOl.out]; exact hjn)
          cases e : bx out j
          · rw [e] at hcO0
            obtain ⟨z1, ez, hcz⟩ := (hz.kept (Kept.of hbr)).at_ (k := j) (by rw [Hm.out]; exact hjn)
            cases ez
            cases em : bx m j
            · rw [em] at hcz
              have Hem := Lib.hid em
              clear em
              have Hlk2 := Lib.hid (LookAt.skip hlk.out Hj.out (.inl Hem.out))
              clear e
              go_wp2
              exact ⟨⟨t + 1, A, n, c, ql, out, by omega, by go_num, rfl, Hn, hq, hO, HOl.out, Hlk2, HM, hX, hbr⟩, by simp [intOf]; omega⟩
            · rw [em] at hcz
              have Hem := Lib.hid em
              clear em
              have hfO := hO.frozen (by rw [HOl.out, Hs.out]) j
              have hset := hO.set_ (by rw [HOl.out, Hs.out]) j true
              have Htd := Lib.hid (toDo_take (out := out) (q := ql) (u := j) (by rw [HOl.out]; exact hjn) e)
              have Hlk2 := Lib.hid (LookAt.take hlk.out htl Hj.out hjn Hem.out hT)
              have hq1 : OwnQ (wr.setCell ⟨og, j, none⟩ (.bool true)) (w.heap.size + 1) (.slice A n c) ql := hq.heap fun b hb => Below.heap_setCell _ _ _ _ (by
                have := hq.ne_bools hO hb
                simp only [Value.ownBlock, ne_eq, Option.some.injEq] at this
                simp; omega)
              have hbs1 : w.heap.size + 1 ≤ (wr.setCell ⟨og, j, none⟩ (.bool true)).heap.size := by simp; omega
              have hn40 : n ≤ 1099511627776 := by have h1 := HM.out; have h2 := Hn.out; unfold toDo at h1; omega
              clear e
              go_wp2_with (at_builtin; refine append_q (wr.setCell ⟨og, j, none⟩ (.bool true)) rfl (.tmp 53) (.tmp 55) rfl (w.heap.size + 1) (.slice A n c) ql n Hn.out rfl hq1 (j : Int) wr.heap.size (by simp) rfl hn40 hbs1 ?_; intro A3 c3 w3 hq3 hg3)
              refine ⟨⟨t + 1, A3, n + 1, c3, ql ++ [(j : Int)], out.set j true, by omega, by go_num, rfl, Lib.hid (by rw [List.length_append, Hn.out]; rfl), hq3, ?_, by rw [List.length_set]; exact HOl.out, Hlk2, Lib.hid (by have := Htd.out; have := HM.out; omega), ?_, ?_⟩, by simp [intOf]; omega⟩
              · exact hset.heap fun b hb => hg3.block b (hset.lt b hb).2 fun e => (hq1.ne_bools hset e.symm) hb
              · exact (hX.far (p := ⟨og, j, none⟩) (by simp; omega) _).kept' hg3 fun e => by have := (hq1.lt _ e.symm).1; omega
              · exact (hbr.setCell (by simp; omega) _).grown hg3 (by omega) fun b hb => by have := (hq1.lt b hb).1; omega
          · rw [e] at hcO0
            have He := Lib.hid e
            have Hlk2 := Lib.hid (LookAt.skip hlk.out Hj.out (.inr He.out))
            clear e
            go_wp2
            exact ⟨⟨t + 1, A, n, c, ql, out, by omega, by go_num, rfl, Hn, hq, hO, HOl.out, Hlk2, HM, hX, hbr⟩, by simp [intOf]; omega⟩
        · obtain rfl : t = (rx a.next k).length := by omega
          have Hlk3 := Lib.hid (LookAt.done hlk.out rfl)
          go_wp2
          go_roundg (gk - 1)
          case measure => have := HM.out; omega
          case rel => exact ⟨A, n, c, ql, out, rfl, Hn, hq, hO, HOl.out, Hlk3, Lib.hid (by have := HM.out; omega), by omega, hX, hbr⟩

set_option maxRecDepth 100000 in
set_option maxHeartbeats 4000000 in
theorem l1Beyond_any (v : Value) (next : List (List Int)) (z : Value) (m : List Bool) (u : Value) (l : List Int) (w : World) (hn : Rows w v next) (hz : Bools w z m) (hu : Ints w u l) (hm : m.length = next.length) (hvn : ∀ k, k < next.length → Vert (rx next k) next.length) (hl : Vert l next.length) (hn1 : next.length ≤ 256) (hl1 : l.length ≤ 256) :
    Calls Try.prog 88 #[v, z, u] w (RetBools w (beyondL next (bx m) next.length (fun x => (x : Int) ∈ l))) := by
  obtain ⟨A', c', rfl, hlc', hcm'⟩ := hn.form
  obtain ⟨ZA, zc, rfl, hzc, hzm⟩ := hz.form
  have Hm := Lib.hid hm
  have Hvn := Lib.hid hvn
  clear hm hvn
  have hmk := make_one elem_bool next.length (by omega)
  go_enter Try.func88, Try.ntmps88
  go_wp2_with fail
  clear hmk
  have hM := BArr.new w next.length
  have hb0 := (Below.refl w.heap.size w).alloc (Nat.le_refl _) (.cells (zeros (.bool false) next.length).toArray 4)
  generalize w.alloc (.cells (zeros (.bool false) next.length).toArray 4) = w0 at *
  refine (l1Copy_any _ l _ (hu.kept (Kept.of hb0)) (by omega)).mono ?_
  rintro e w2 ⟨uq, rfl, hQ, hb2⟩
  obtain ⟨A, c, rfl, hqc, hqm⟩ := hQ.ints.form
  have hO0 : OwnBools w0 w.heap.size (.slice (some ⟨w.heap.size, 0, none⟩) next.length next.length) (List.replicate next.length false) := by
    have := hM.own (B := w.heap.size) (Nat.le_refl _) (by simp; omega)
    rwa [List.length_replicate] at this
  have hO2 := hO0.below hb2 (Nat.le_refl _)
  have hq2 := (OwnQ.of_own hQ).more (B' := w.heap.size) hb0.size
  have hbw2 : Below w.heap.size w w2 := Below.up hb0 hb2
  have hbf : ∀ x, bx (List.replicate next.length false) x = false := fun x => by
    unfold bx
    by_cases h : x < next.length <;> simp [h]
  have hlook : Look next (bx m) next.length (fun _ => False) (fun x => (x : Int) ∈ l) (Beyond next (bx m) (fun x => (x : Int) ∈ l)) (List.replicate next.length false) l := ⟨by simp, fun x h => h.elim, fun x h => (by rw [hbf] at h; cases h), fun x hx => .inl (hx.elim id fun h => (by rw [hbf] at h; cases h)), fun k hk => by
      obtain ⟨j, h1, h2⟩ := hl k hk
      exact ⟨j, h1, h2, .inl (h1 ▸ mem_ix.2 ⟨k, hk, rfl⟩)⟩⟩
  have htd0 : toDo (List.replicate next.length false) l ≤ 1024 := by
    have := toDo_le (out := List.replicate next.length false) (q := l)
    rw [List.length_replicate] at this
    omega
  have Hlook := Lib.hid hlook
  have Htd0 := Lib.hid htd0
  have Hl2 := Lib.hid (show (List.replicate next.length false).length = next.length by simp)
  clear hlook htd0 hQ hb2 hM hO0 hbf
  go_wp2
  go_loopg [8] 1024 (fun g q wx => ∃ (A : Option Addr) (n c : Nat) (ql : List Int) (out : List Bool), q = .slice A n c ∧ Hid (n = ql.length) ∧ OwnQ wx w.heap.size (.slice A n c) ql ∧ OwnBools wx w.heap.size (.slice (some ⟨w.heap.size, 0, none⟩) next.length next.length) out ∧ Hid (out.length = next.length) ∧ Hid (Look next (bx m) next.length (fun _ => False) (fun x => (x : Int) ∈ l) (Beyond next (bx m) (fun x => (x : Int) ∈ l)) out ql) ∧ Hid (toDo out ql ≤ g) ∧ g ≤ 1024 ∧ Below w.heap.size w wx)
  case atStart => exact ⟨A, _, c, _, _, rfl, Lib.hid rfl, hq2, hO2, Hl2, Hlook, Htd0, Nat.le_refl _, hbw2⟩
  case round =>
    obtain ⟨A, n, c, ql, out, rfl, Hn, hq, hO, HOl, Hlk, HM0, hgk, hbw⟩ := hrel
    obtain ⟨wo, rfl⟩ : ∃ wo : World, wo = wr := ⟨_, rfl⟩
    have hbs := hbw.size
    have hoglt := (hO.lt w.heap.size rfl).2
    rcases List.eq_nil_or_concat ql with hql | ⟨L, x, hql⟩
    · subst hql
      have hn0 : n = 0 := Hn.out
      subst hn0
      have hres := Hlk.out.is_beyondL
      subst hres
      go_wp2
      go_ret
      exact .mk' hO hbw
    · rw [List.concat_eq_append] at hql
      subst hql
      obtain ⟨n', hn'⟩ : ∃ n', n = n' + 1 := ⟨L.length, by rw [Hn.out]; simp⟩
      subst hn'
      have HL := Lib.hid (show n' = L.length by have := Hn.out; simpa using this)
      have hn1024 : n' ≤ 1024 := by have h1 := HM0.out; have h2 := HL.out; unfold toDo at h1; simp only [List.length_append, List.length_singleton] at h1; omega
      have hn1025 : (n' : Int) < (n' : Int) + 1 := by omega
      obtain ⟨k, hkx, hkn, hkS⟩ := Hlk.out.qv n' (by rw [HL.out]; simp)
      have hqi := hq.ints
      have hcp : 0 < c := by
        obtain ⟨_, _, e1, e2, _⟩ := hqi.form
        simp only [Value.slice.injEq] at e1
        obtain ⟨_, _, rfl⟩ := e1
        simp at e2; omega
      obtain ⟨hcut, hq2⟩ := hq.cut Hn.out n' (Nat.le_succ _) hcp
      have htk : (L ++ [x]).take n' = L := by rw [HL.out]; simp
      rw [htk] at hq2
      have hix : ix (L ++ [x]) n' = x := by rw [HL.out]; simp [ix]
      have hkx' : x = (k : Int) := by rw [← hix]; exact hkx
      have hl0 : n' < (L ++ [x]).length := by rw [HL.out]; simp
      obtain ⟨aq, rfl, hcq⟩ : ∃ aq, A = some aq ∧ wo.cell? (aq.add n') = some (.int .i64 (k : Int)) := by
        have hq' : Ints wo (.slice A (L ++ [x]).length c) (L ++ [x]) := by rw [← Hn.out]; exact hqi
        have := hq'.at_ hl0
        rwa [hkx] at this
      have Hat := Lib.hid (Look.pop Hlk.out hkS (q' := L) (fun y hy => by rcases List.mem_append.1 hy with e | e; exact .inl e; exact .inr (by simpa [hkx'] using e)) (fun j hj => ⟨j, by simp; omega, by simp [ix, List.getElem?_append_left hj]⟩))
      clear hqi hix hkx hl0 htk hcp hkx'
      obtain ⟨a2, R, r, ea, hc2, hrow⟩ := (hn.kept (Kept.refl w)).at_ hkn
      subst ea
      have hc2' := (Kept.of hbw).cell hc2
      have Hc2 := Lib.hid hc2
      obtain ⟨R', r', he, hrl, hrm⟩ := hrow.form
      simp only [Value.slice.injEq, true_and] at he
      obtain ⟨rfl, rfl⟩ := he
      have hkl : (k : Int) < next.length := by omega
      have hvn := Hvn.out k hkn
      have hT : ∀ (x y : Nat), ((x : Int) ∈ l ∨ Beyond next (bx m) (fun x => (x : Int) ∈ l) x) → StepIn next (bx m) x y → Beyond next (bx m) (fun x => (x : Int) ∈ l) y := fun x y hx hs => Beyond.step hx hs
      clear hc2
      go_wp2
      go_loopw [8, 10] (fun q i wr => ∃ (t : Nat) (A : Option Addr) (n c : Nat) (ql : List Int) (out : List Bool), t ≤ (rx next k).length ∧ i = .int .i64 t ∧ q = .slice A n c ∧ Hid (n = ql.length) ∧ OwnQ wr w.heap.size (.slice A n c) ql ∧ OwnBools wr w.heap.size (.slice (some ⟨w.heap.size, 0, none⟩) next.length next.length) out ∧ Hid (out.length = next.length) ∧ Hid (LookAt next (bx m) next.length (fun _ => False) (fun x => (x : Int) ∈ l) (Beyond next (bx m) (fun x => (x : Int) ∈ l)) k t out ql) ∧ Hid (toDo out ql + 1 ≤ gk) ∧ Below w.heap.size w wr) (fun _ i _ => (rx next k).length - (intOf i).toNat)
      case atStart => exact ⟨0, some aq, _, c, _, out, Nat.zero_le _, rfl, rfl, HL, hq2, hO, HOl, Hat, Lib.hid (by have := HM0.out; unfold toDo at *; simp only [List.length_append, List.length_singleton] at this; omega), hbw⟩
      case round =>
        obtain ⟨t, A, n, c, ql, out, ht, rfl, rfl, Hn, hq, hO, HOl, hlk, HM, hbr⟩ := hrel
        have hbs := hbr.size
        have hoglt := (hO.lt w.heap.size rfl).2
        have hc2r := (Kept.of hbr).cell Hc2.out
        by_cases htl : t < (rx next k).length
        · obtain ⟨a4, rfl, hc4⟩ := (hrow.kept (Kept.of hbr)).at_ htl
          obtain ⟨j, hj, hjn⟩ := hvn t htl
          rw [hj] at hc4
          have Hj := Lib.hid hj
          clear hj
          have htl' : (t : Int) < (rx next k).length := by omega
          have hjs' : (j : Int) < next.length := by omega
          have hjm : (j : Int) < m.length := by rw [Hm.out]; omega
          obtain ⟨z1, ez, hcz⟩ := (hz.kept (Kept.of hbr)).at_ (k := j) (by rw [Hm.out]; exact hjn)
          subst ez
          have hcO0 := hO.cell (k := j) (by rw [HOl.out]; exact hjn)
          cases em : bx m j
          · rw [em] at hcz
            have Hem := Lib.hid em
            have e := Hem
            clear em
            have Hlk2 := Lib.hid (LookAt.skip hlk.out Hj.out (.inl Hem.out))
            clear e
            go_wp2
            exact ⟨⟨t + 1, A, n, c, ql, out, by omega, by go_num, rfl, Hn, hq, hO, HOl.out, Hlk2, HM, hbr⟩, by simp [intOf]; omega⟩
          · rw [em] at hcz
            have Hem := Lib.hid em
            clear em
            cases e : bx out j
            · rw [e] at hcO0
              have hfO := hO.frozen (by exact HOl.out.symm) j
              have hset := hO.set_ (by exact HOl.out.symm) j true
              have Htd := Lib.hid (toDo_take (out := out) (q := ql) (u := j) (by rw [HOl.out]; exact hjn) e)
              have Hlk2 := Lib.hid (LookAt.take hlk.out htl Hj.out hjn Hem.out hT)
              have hq1 : OwnQ (wr.setCell ⟨w.heap.size, j, none⟩ (.bool true)) w.heap.size (.slice A n c) ql := hq.heap fun b hb => Below.heap_setCell _ _ _ _ (by
                have := hq.ne_bools hO hb
                simp only [Value.ownBlock, ne_eq, Option.some.injEq] at this
                simp; omega)
              have hbs1 : w.heap.size ≤ (wr.setCell ⟨w.heap.size, j, none⟩ (.bool true)).heap.size := by simp; omega
              have hn40 : n ≤ 1099511627776 := by have h1 := HM.out; have h2 := Hn.out; unfold toDo at h1; omega
              clear e
              go_wp2_with (at_builtin; refine append_q (wr.setCell ⟨w.heap.size, j, none⟩ (.bool true)) rfl (.tmp 61) (.tmp 63) rfl w.heap.size (.slice A n c) ql n Hn.out rfl hq1 (j : Int) wr.heap.size (by simp) rfl hn40 hbs1 ?_; intro A3 c3 w3 hq3 hg3)
              refine ⟨⟨t + 1, A3, n + 1, c3, ql ++ [(j : Int)], out.set j true, by omega, by go_num, rfl, Lib.hid (by rw [List.length_append, Hn.out]; rfl), hq3, ?_, by rw [List.length_set]; exact HOl.out, Hlk2, Lib.hid (by have := Htd.out; have := HM.out; omega), ?_⟩, by simp [intOf]; omega⟩
              · exact hset.heap fun b hb => hg3.block b (hset.lt b hb).2 fun e => (hq1.ne_bools hset e.symm) hb
              · exact (hbr.setCell (by simp) _).grown hg3 (by omega) fun b hb => by have := (hq1.lt b hb).1; omega
            · rw [e] at hcO0
              have He := Lib.hid e
              have Hlk2 := Lib.hid (LookAt.skip hlk.out Hj.out (.inr He.out))
              clear e
              go_wp2
              exact ⟨⟨t + 1, A, n, c, ql, out, by omega, by go_num, rfl, Hn, hq, hO, HOl.out, Hlk2, HM, hbr⟩, by simp [intOf]; omega⟩
        · obtain rfl : t = (rx next k).length := by omega
          have Hlk3 := Lib.hid (LookAt.done hlk.out rfl)
          go_wp2
          go_roundg (gk - 1)
          case measure => have := HM.out; omega
          case rel => exact ⟨A, n, c, ql, out, rfl, Hn, hq, hO, HOl, Hlk3, Lib.hid (by have := HM.out; omega), by omega, hbr⟩

end Go.Proofs.Ytpnophmanpfejaa
