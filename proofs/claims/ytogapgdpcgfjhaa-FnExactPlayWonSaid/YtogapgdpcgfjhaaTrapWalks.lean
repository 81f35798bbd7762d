/- The walks of EscapesIn, TrapIn and what they call. Conditions: those of the callers. -/
import Derived.Test.YtogapgdpcgfjhaaTrapPlain
import Derived.Test.YtogapgdpcgfjhaaMarkWalks
import Derived.Test.YtogapgdpcgfjhaaSetWalks2
import Derived.Deep.RegionHeld3
namespace Go.Proofs.Ytogapgdpcgfjhaa
set_option linter.unusedSimpArgs false
set_option linter.unusedVariables false
open Go.RowKit

theorem arena_open {w : World} {v : Value} {a : ArenaD} (hv : IsArena w v a) : ∃ o n, v = .agg #[o, n] ∧ Below w.heap.size w (w.alloc (.cells #[o, n] 30)) ∧ Arr (w.alloc (.cells #[o, n] 30)) w.heap.size 30 [o, n] := by
  obtain ⟨o, n, h, h1, h2, _⟩ := arena_box hv
  exact ⟨o, n, h, h1, h2⟩
theorem filter_whole (l : List Int) (f : Int → Bool) : (l.take l.length).filter f = l.filter f := by rw [List.take_length]

set_option maxHeartbeats 2000000 in
theorem escapesIn_any (v : Value) (a : ArenaD) (who : Int) (u : Value) (s : List Int) (w : World) (hv : IsArena w v a) (hu : Ints w u s) (hok : ArenaOk a) (hs : IsSet s a.owner.length) :
    Calls Try.prog 80 #[v, .int .i64 who, u] w (RetInts w (escL a who s)) := by
  obtain ⟨o, n, rfl, hbw, hB⟩ := arena_open hv
  obtain ⟨ho, hn⟩ := hv.parts
  obtain ⟨A, c, rfl, hlc, hcm⟩ := ho.form
  obtain ⟨A', c', rfl, hlc', hcm'⟩ := hn.form
  obtain ⟨A2, c2, rfl, hlc2, hcm2⟩ := hu.form
  have hle := hok.le
  have hsl := hs.length_le
  have Hlen := Lib.hid hok.len
  go_enter Try.func80, Try.ntmps80
  have hBz := hB.lt
  have hBc0 := hB.c0
  have hBc1 := hB.c1
  go_wp2_with fail
  refine (markOf_any _ a _ s _ (hv.kept (Kept.of hbw)) (hu.kept (Kept.of hbw)) hs.vert (by omega)).mono ?_
  rintro e w1 ⟨um, rfl, hM, hb1⟩
  obtain ⟨M, m, rfl, hml, hmm⟩ := hM.bools.form
  replace hM := OB.of hM
  clear hBc0 hBc1 hBz
  replace hB := hB.below hb1 hB.lt
  replace hbw := Below.up hbw hb1
  have hb1s := hb1.size
  clear hb1
  have hBz := hB.lt
  have hBc0 := hB.c0
  have hBc1 := hB.c1
  obtain ⟨hown, hbn⟩ := new_ints w1
  have Hall := Lib.hid (filter_whole s fun v => escB a who (marksL a.owner.length s) v.toNat)
  go_wp2
  generalize w1.alloc (.cells #[] 2) = w2 at *
  go_loopw [8, 21] (fun v i wr => ∃ k : Nat, k ≤ s.length ∧ i = .int .i64 k ∧ OwnInts wr w1.heap.size v ((s.take k).filter fun v => escB a who (marksL a.owner.length s) v.toNat) ∧ Below w1.heap.size w1 wr) (fun _ i _ => s.length - (intOf i).toNat)
  case atStart => exact ⟨0, Nat.zero_le _, rfl, hown, hbn⟩
  case round =>
    obtain ⟨k, hk, rfl, hown, hbr⟩ := hrel
    have hbs := hbr.size
    have hw1 := hbw.size
    clear hBc0 hBc1 hBz
    replace hB := hB.below hbr hB.lt
    replace hM := hM.below hbr
    replace hbw := Below.up hbw hbr
    have hbrs := hbr.size
    have hBz := hB.lt
    have hBc0 := hB.c0
    have hBc1 := hB.c1
    by_cases hlt : k < s.length
    · obtain ⟨a1, rfl, hc1⟩ := ((hu.kept (Kept.of hbw))).at_ hlt
      obtain ⟨j, hj, hjn⟩ := hs.vert k hlt
      obtain ⟨a2, R, r, rfl, hc2, hrow⟩ := ((hn.kept (Kept.of hbw))).at_ (k := j) (by rw [Hlen.out]; exact hjn)
      obtain ⟨a3, rfl, hc3⟩ := ((ho.kept (Kept.of hbw))).at_ hjn
      obtain ⟨R', r', he, hrl, hrm⟩ := hrow.form
      simp only [Value.slice.injEq, true_and] at he
      obtain ⟨rfl, rfl⟩ := he
      have hlen : ((s.take k).filter fun v => escB a who (marksL a.owner.length s) v.toNat).length ≤ s.length := length_filter_take
      have Hs := Lib.hid (filter_take hlt fun v => escB a who (marksL a.owner.length s) v.toNat)
      rw [hj] at hc1 Hs
      have hjl : (j : Int) < a.owner.length := by omega
      have hjl2 : (j : Int) < a.next.length := by rw [Hlen.out]; omega
      have hvn := hok.vert_next hjn
      clear hj
      go_wp2
      go_loop [11, 12, 31] (fun x y i => ∃ t : Nat, t ≤ (rx a.next j).length ∧ i = .int .i64 t ∧ x = .bool (((rx a.next j).take t).any fun u => bx (marksL a.owner.length s) u.toNat) ∧ y = .bool (((rx a.next j).take t).all fun u => bx (marksL a.owner.length s) u.toNat)) (fun _ _ i => (rx a.next j).length - (intOf i).toNat)
      case atStart => exact ⟨0, Nat.zero_le _, rfl, rfl, rfl⟩
      case round =>
        obtain ⟨t, ht, rfl, rfl, rfl⟩ := hrel
        by_cases htl : t < (rx a.next j).length
        · obtain ⟨a4, rfl, hc4⟩ := hrow.at_ htl
          obtain ⟨i, hi, hin⟩ := hvn t htl
          obtain ⟨a5, rfl, hc5⟩ := hM.bools.at_ (k := i) (by simpa using hin)
          have Hs1 := Lib.hid (any_take htl fun u => bx (marksL a.owner.length s) u.toNat)
          have Hs2 := Lib.hid (all_take htl fun u => bx (marksL a.owner.length s) u.toNat)
          rw [hi] at hc4 Hs1 Hs2
          have hil : (i : Int) < a.owner.length := by omega
          clear hi
          cases h1 : ((rx a.next j).take t).any fun u => bx (marksL a.owner.length s) u.toNat
          all_goals
            cases h2 : ((rx a.next j).take t).all fun u => bx (marksL a.owner.length s) u.toNat
            all_goals
              rw [h1] at Hs1
              rw [h2] at Hs2
              clear h1 h2
              go_wp2
              exact ⟨⟨t + 1, by omega, by go_num, by rw [Hs1.out]; simp, by rw [Hs2.out]; simp⟩, by simp [intOf]; omega⟩
        · obtain rfl : t = (rx a.next j).length := by omega
          have Ha := Lib.hid (any_whole (rx a.next j) fun u => bx (marksL a.owner.length s) u.toNat)
          have Hb := Lib.hid (all_whole (rx a.next j) fun u => bx (marksL a.owner.length s) u.toNat)
          rw [Ha.out, Hb.out]
          by_cases e : ix a.owner j = who
          · have hd : (ix a.owner j == who) = true := by simpa using e
            have hd2 : (ix a.owner j != who) = false := by simpa using e
            cases h2 : (rx a.next j).all fun u => bx (marksL a.owner.length s) u.toNat
            · have he : escB a who (marksL a.owner.length s) j = true := by unfold escB; rw [if_pos e, h2]; rfl
              have He := Lib.hid he
              clear h2 he e
              go_wp2_with (at_builtin; refine append_int _ rfl (.tmp 74) (.tmp 76) rfl w1.heap.size u8 _ rfl hown (j : Int) rfl (by omega) hbs ?_; intro v1 w3 ho1 hb1 hg1 hl1)
              exact ⟨⟨k + 1, by omega, by go_num, by rw [Hs.out, Int.toNat_natCast, He.out]; exact ho1, hbr.trans hb1⟩, by simp [intOf]; omega⟩
            · have he : escB a who (marksL a.owner.length s) j = false := by unfold escB; rw [if_pos e, h2]; rfl
              have He := Lib.hid he
              clear h2 he e
              go_wp2
              exact ⟨⟨k + 1, by omega, by go_num, by rw [Hs.out, Int.toNat_natCast, He.out]; simpa using hown, hbr⟩, by simp [intOf]; omega⟩
          · have hd : (ix a.owner j == who) = false := by simpa using e
            have hd2 : (ix a.owner j != who) = true := by simpa using e
            cases h2 : (rx a.next j).any fun u => bx (marksL a.owner.length s) u.toNat
            · have he : escB a who (marksL a.owner.length s) j = true := by unfold escB; rw [if_neg e, h2]; rfl
              have He := Lib.hid he
              clear h2 he e
              go_wp2_with (at_builtin; refine append_int _ rfl (.tmp 74) (.tmp 76) rfl w1.heap.size u8 _ rfl hown (j : Int) rfl (by omega) hbs ?_; intro v1 w3 ho1 hb1 hg1 hl1)
              exact ⟨⟨k + 1, by omega, by go_num, by rw [Hs.out, Int.toNat_natCast, He.out]; exact ho1, hbr.trans hb1⟩, by simp [intOf]; omega⟩
            · have he : escB a who (marksL a.owner.length s) j = false := by unfold escB; rw [if_neg e, h2]; rfl
              have He := Lib.hid he
              clear h2 he e
              go_wp2
              exact ⟨⟨k + 1, by omega, by go_num, by rw [Hs.out, Int.toNat_natCast, He.out]; simpa using hown, hbr⟩, by simp [intOf]; omega⟩
    · obtain rfl : k = s.length := by omega
      go_wp2
      go_ret
      exact .mk' (by unfold escL; rw [← Hall.out]; exact hown.more (by omega)) hbw
end Go.Proofs.Ytogapgdpcgfjhaa
