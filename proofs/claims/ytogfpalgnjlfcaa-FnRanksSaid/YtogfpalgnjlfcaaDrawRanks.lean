/- The walks of l3Draw and DrawRanksIn: an arena, a player and two sets. Printed by gen_draw4.py. -/
import Derived.Test.YtogfpalgnjlfcaaDrawReach
import Derived.Test.YtogfpalgnjlfcaaDrawPress
namespace Go.Proofs.Ytogfpalgnjlfcaa
set_option linter.unusedSimpArgs false
set_option linter.unusedVariables false
open Go.RowKit

set_option maxRecDepth 100000 in
set_option maxHeartbeats 16000000 in
theorem l3Draw_any (C : Nat) (v : Value) (n : Nat) (w : World) (hc : Cur w C v n) :
    Calls Try.prog 67 #[.pointer (some ⟨C, 0, none⟩)] w fun e w' => ∃ ua who ui ug, e = .returned (.tuple #[ua, .int .i64 who, ui, ug]) ∧ ∃ a li lg, OA w' w.heap.size w'.heap.size ua a ∧ BigA a ∧ OwnInts w' w.heap.size ui li ∧ OwnInts w' w.heap.size ug lg ∧ li.length ≤ 300 ∧ lg.length ≤ 300 ∧ -1 ≤ who ∧ who ≤ 2 ∧ Drawn w w' C v n := by
  have hR0 := Arr.new w 30 [.slice none 0 0, .slice none 0 0]
  have hbn := (Below.refl w.heap.size w).alloc (Nat.le_refl _) (.cells #[.slice none 0 0, .slice none 0 0] 30)
  have hCl := hc.lt
  have hR0l : w.heap.size + 1 ≤ (w.alloc (.cells #[.slice none 0 0, .slice none 0 0] 30)).heap.size := by simp
  obtain ⟨R, hR⟩ : ∃ R, w.heap.size = R := ⟨_, rfl⟩
  go_enter Try.func67, Try.ntmps67
  go_wp2_with fail
  rw [hR] at hR0 hR0l hCl
  have hdw := Drawn.below (.refl hc) hbn
  generalize w.alloc (.cells #[.slice none 0 0, .slice none 0 0] 30) = w0 at *
  refine (l1DrawAny_any C v n _ hdw.1).mono ?_
  rintro e w1 ⟨ua, a, rfl, hoa, hbig, hd1⟩
  obtain ⟨A, ac, A', ac', rfl⟩ := hoa.form
  have hal := hbig.owner
  have hR1 : Arr w1 R 30 [.slice none 0 0, .slice none 0 0] := (hd1.2.block R hR0.lt (by omega)).trans hR0
  have hX0 := Arr.new w1 30 [.slice A a.owner.length ac, (.slice A' a.next.length ac')]
  have hbX := (Below.refl w1.heap.size w1).alloc (Nat.le_refl _) (.cells #[.slice A a.owner.length ac, (.slice A' a.next.length ac')] 30)
  have hR2 := hR1.below hbX hR1.lt
  have ho2 := (hoa.below hbX).mono hR0l (Nat.le_refl _)
  have hd2 := (hdw.trans hd1).below hbX
  have hs1 := hd1.2.size
  obtain ⟨X, hX⟩ : ∃ X, w1.heap.size = X := ⟨_, rfl⟩
  have hRX : R < X := by omega
  have q0 := hX0.c0
  clear hoa hR1 hbX hd1 hdw hR0 hbn
  go_wp2_with fail
  have hX2 := hX0
  clear hX0 q0
  rw [hX] at hX2 ho2
  clear hX
  generalize w1.alloc (.cells #[.slice A a.owner.length ac, (.slice A' a.next.length ac')] 30) = w2 at *
  refine (specAllOf_any (a.owner.length : Int) _).mono ?_
  rintro e w3 ⟨ui, rfl, hix, hbe⟩
  have hX3 := hX2.below hbe hX2.lt
  have hR3 := hR2.below hbe hR2.lt
  have ho3 := ho2.below hbe
  have hd3 := hd2.below hbe
  obtain ⟨li, hle⟩ : ∃ li, li = allL (a.owner.length : Int) := ⟨_, rfl⟩
  have hli : li.length ≤ 300 := by rw [hle]; exact Nat.le_trans (allL_len _) (by omega)
  have hi3 : OwnInts w3 (X + 1) ui li := by rw [hle]; exact hix.more (by have := hX2.lt; omega)
  have hCR : C < R := hCl
  clear hle hix hbe hX2 hR2 ho2 hd2
  go_wp2_with fail
  refine (l1Once_any C v n 3 _ hd3.1).mono ?_
  rintro e w4 ⟨b1, rfl, hdd⟩
  have hd4 := hd3.trans hdd
  have hX4 : Arr w4 X 30 [.slice A a.owner.length ac, (.slice A' a.next.length ac')] := (hdd.2.block X hX3.lt (by omega)).trans hX3
  have hR4 : Arr w4 R 30 [.slice none 0 0, .slice none 0 0] := (hdd.2.block R hR3.lt (by omega)).trans hR3
  have ho4 := ho3.chgC hdd.2 (by omega)
  have hi4 := ((OI.of hi3).chg hdd.2 fun b hb e => by have := (hi3.lt b hb).1; omega).1
  clear hX3 hR3 ho3 hi3
  clear hdd
  cases b1
  · skip
    go_wp2_with fail
    refine (l1DrawSet_any C v n a.owner.length _ hd4.1 (by omega)).mono ?_
    rintro e w5 ⟨ug, lg, rfl, hgx, hlg', _, hdd⟩
    have hlg : lg.length ≤ 300 := by omega
    have hd5 := hd4.trans hdd
    have hg5 : OwnInts w5 (X + 1) ug lg := hgx.more (by have := hX4.lt; omega)
    have hX5 : Arr w5 X 30 [.slice A a.owner.length ac, (.slice A' a.next.length ac')] := (hdd.2.block X hX4.lt (by omega)).trans hX4
    have hR5 : Arr w5 R 30 [.slice none 0 0, .slice none 0 0] := (hdd.2.block R hR4.lt (by omega)).trans hR4
    have ho5 := ho4.chgC hdd.2 (by omega)
    have hi5 := ((OI.of hi4).chg hdd.2 fun b hb e => by have := (hi4.lt b hb).1; omega).1
    clear hX4 hR4 ho4 hi4
    clear hdd hgx hlg'
    go_wp2_with fail
    refine (l1Once_any C v n 2 _ hd5.1).mono ?_
    rintro e w6 ⟨b2, rfl, hdd⟩
    have hd6 := hd5.trans hdd
    have hX6 : Arr w6 X 30 [.slice A a.owner.length ac, (.slice A' a.next.length ac')] := (hdd.2.block X hX5.lt (by omega)).trans hX5
    have hR6 : Arr w6 R 30 [.slice none 0 0, .slice none 0 0] := (hdd.2.block R hR5.lt (by omega)).trans hR5
    have ho6 := ho5.chgC hdd.2 (by omega)
    have hi6 := ((OI.of hi5).chg hdd.2 fun b hb e => by have := (hi5.lt b hb).1; omega).1
    have hg6 := ((OI.of hg5).chg hdd.2 fun b hb e => by have := (hg5.lt b hb).1; omega).1
    clear hX5 hR5 ho5 hi5 hg5
    clear hdd
    cases b2
    · skip
      go_wp2_with fail
      refine (l1Below_any C v n 2 _ hd6.1).mono ?_
      rintro e w7 ⟨who, rfl, hw0', _, hw1', hdd⟩
      have hw2' := hw1' (by omega)
      have hw0 : -1 ≤ who := by omega
      have hw1 : who ≤ 2 := by omega
      have hd7 := hd6.trans hdd
      have hX7 : Arr w7 X 30 [.slice A a.owner.length ac, (.slice A' a.next.length ac')] := (hdd.2.block X hX6.lt (by omega)).trans hX6
      have hR7 : Arr w7 R 30 [.slice none 0 0, .slice none 0 0] := (hdd.2.block R hR6.lt (by omega)).trans hR6
      have ho7 := ho6.chgC hdd.2 (by omega)
      have hi7 := ((OI.of hi6).chg hdd.2 fun b hb e => by have := (hi6.lt b hb).1; omega).1
      have hg7 := ((OI.of hg6).chg hdd.2 fun b hb e => by have := (hg6.lt b hb).1; omega).1
      clear hX6 hR6 ho6 hi6 hg6
      clear hdd hw0' hw1' hw2'
      go_wp2_with fail
      refine (l1Once_any C v n 20 _ hd7.1).mono ?_
      rintro e w8 ⟨b3, rfl, hdd⟩
      have hd8 := hd7.trans hdd
      have hX8 : Arr w8 X 30 [.slice A a.owner.length ac, (.slice A' a.next.length ac')] := (hdd.2.block X hX7.lt (by omega)).trans hX7
      have hR8 : Arr w8 R 30 [.slice none 0 0, .slice none 0 0] := (hdd.2.block R hR7.lt (by omega)).trans hR7
      have ho8 := ho7.chgC hdd.2 (by omega)
      have hi8 := ((OI.of hi7).chg hdd.2 fun b hb e => by have := (hi7.lt b hb).1; omega).1
      have hg8 := ((OI.of hg7).chg hdd.2 fun b hb e => by have := (hg7.lt b hb).1; omega).1
      clear hX7 hR7 ho7 hi7 hg7
      clear hdd
      cases b3
      · skip
        have q0 := hX8.c0
        have q1 := hX8.c1
        have p8 := hR8.c0
        have p9 := hR8.c1
        have p2 := hR8.frozen 0
        have p3 := hR8.frozen 1
        have hRl := hR8.lt
        go_wp2
        have hR9 := (hR8.set_ 0 (.slice A a.owner.length ac)).set_ 1 (.slice A' a.next.length ac')
        have hd9 := (hd8.setCell hc (p := ⟨R, 0, none⟩) (by show w.heap.size ≤ R; omega) (.slice A a.owner.length ac)).setCell hc (p := ⟨R, 1, none⟩) (by show w.heap.size ≤ R; omega) (.slice A' a.next.length ac')
        have hcb : ∀ b, R + 1 ≤ b → ((w8.setCell ⟨R, 0, none⟩ (.slice A a.owner.length ac)).setCell ⟨R, 1, none⟩ (.slice A' a.next.length ac')).heap[b]? = w8.heap[b]? := fun b hb => by
          rw [Below.heap_setCell _ _ _ _ (by simp; omega), Below.heap_setCell _ _ _ _ (by simp; omega)]
        have hXl := hX8.lt
        have hsz : ((w8.setCell ⟨R, 0, none⟩ (.slice A a.owner.length ac)).setCell ⟨R, 1, none⟩ (.slice A' a.next.length ac')).heap.size = w8.heap.size := by simp
        have hoa := ho8.heapFrom (fun b hb => hcb b (by omega))
        have hi9 := (hi8.heap (fun b hb => hcb b (by have := (hi8.lt b hb).1; omega)))
        have hg9 := (hg8.heap (fun b hb => hcb b (by have := (hg8.lt b hb).1; omega)))
        generalize ((w8.setCell ⟨R, 0, none⟩ (.slice A a.owner.length ac)).setCell ⟨R, 1, none⟩ (.slice A' a.next.length ac')) = wZ at *
        have p0 := hR9.c0
        have p1 := hR9.c1
        refine bodyPost_ret (v := .tuple #[.agg #[.slice A a.owner.length ac, (.slice A' a.next.length ac')], .int .i64 who, ui, ug]) (by simp [results, Try.results67, go_sem, p0, p1]) rfl ?_
        first | exact ⟨_, _, _, _, rfl, a, li, lg, hoa.mono (by omega) (by omega), hbig, hi9.more (by omega), hg9.more (by omega), hli, hlg, hw0, hw1, hd9⟩ | exact ⟨_, _, _, _, a, li, lg, rfl, hoa.mono (by omega) (by omega), hbig, hi9.more (by omega), hg9.more (by omega), hli, hlg, hw0, hw1, hd9⟩
      · clear hw0 hw1
        go_wp2_with fail
        refine (l1From_any C v n (-1) 2 _ hd8.1 (by omega) (by omega)).mono ?_
        rintro e w9 ⟨who, rfl, hw0, hw1', hw2', hdd⟩
        have hw1 : who ≤ 2 := by omega
        have hd9 := hd8.trans hdd
        have hX9 : Arr w9 X 30 [.slice A a.owner.length ac, (.slice A' a.next.length ac')] := (hdd.2.block X hX8.lt (by omega)).trans hX8
        have hR9 : Arr w9 R 30 [.slice none 0 0, .slice none 0 0] := (hdd.2.block R hR8.lt (by omega)).trans hR8
        have ho9 := ho8.chgC hdd.2 (by omega)
        have hi9 := ((OI.of hi8).chg hdd.2 fun b hb e => by have := (hi8.lt b hb).1; omega).1
        have hg9 := ((OI.of hg8).chg hdd.2 fun b hb e => by have := (hg8.lt b hb).1; omega).1
        clear hX8 hR8 ho8 hi8 hg8
        have q0 := hX9.c0
        have q1 := hX9.c1
        have p8 := hR9.c0
        have p9 := hR9.c1
        have p2 := hR9.frozen 0
        have p3 := hR9.frozen 1
        have hRl := hR9.lt
        go_wp2
        have hR9 := (hR9.set_ 0 (.slice A a.owner.length ac)).set_ 1 (.slice A' a.next.length ac')
        have hd9 := (hd9.setCell hc (p := ⟨R, 0, none⟩) (by show w.heap.size ≤ R; omega) (.slice A a.owner.length ac)).setCell hc (p := ⟨R, 1, none⟩) (by show w.heap.size ≤ R; omega) (.slice A' a.next.length ac')
        have hcb : ∀ b, R + 1 ≤ b → ((w9.setCell ⟨R, 0, none⟩ (.slice A a.owner.length ac)).setCell ⟨R, 1, none⟩ (.slice A' a.next.length ac')).heap[b]? = w9.heap[b]? := fun b hb => by
          rw [Below.heap_setCell _ _ _ _ (by simp; omega), Below.heap_setCell _ _ _ _ (by simp; omega)]
        have hXl := hX9.lt
        have hsz : ((w9.setCell ⟨R, 0, none⟩ (.slice A a.owner.length ac)).setCell ⟨R, 1, none⟩ (.slice A' a.next.length ac')).heap.size = w9.heap.size := by simp
        have hoa := ho9.heapFrom (fun b hb => hcb b (by omega))
        have hi9 := (hi9.heap (fun b hb => hcb b (by have := (hi9.lt b hb).1; omega)))
        have hg9 := (hg9.heap (fun b hb => hcb b (by have := (hg9.lt b hb).1; omega)))
        generalize ((w9.setCell ⟨R, 0, none⟩ (.slice A a.owner.length ac)).setCell ⟨R, 1, none⟩ (.slice A' a.next.length ac')) = wZ at *
        have p0 := hR9.c0
        have p1 := hR9.c1
        refine bodyPost_ret (v := .tuple #[.agg #[.slice A a.owner.length ac, (.slice A' a.next.length ac')], .int .i64 who, ui, ug]) (by simp [results, Try.results67, go_sem, p0, p1]) rfl ?_
        first | exact ⟨_, _, _, _, rfl, a, li, lg, hoa.mono (by omega) (by omega), hbig, hi9.more (by omega), hg9.more (by omega), hli, hlg, hw0, hw1, hd9⟩ | exact ⟨_, _, _, _, a, li, lg, rfl, hoa.mono (by omega) (by omega), hbig, hi9.more (by omega), hg9.more (by omega), hli, hlg, hw0, hw1, hd9⟩
    · by_cases hn0 : 0 < a.owner.length
      · have hn1 : (0 : Int) < a.owner.length := by omega
        clear hlg hg6
        go_wp2_with fail
        refine (l1Below_any C v n (a.owner.length : Int) _ hd6.1).mono ?_
        rintro e w7 ⟨y, rfl, _, _, _, hdd⟩
        have hd7 := hd6.trans hdd
        have hX7 : Arr w7 X 30 [.slice A a.owner.length ac, (.slice A' a.next.length ac')] := (hdd.2.block X hX6.lt (by omega)).trans hX6
        have hR7 : Arr w7 R 30 [.slice none 0 0, .slice none 0 0] := (hdd.2.block R hR6.lt (by omega)).trans hR6
        have ho7 := ho6.chgC hdd.2 (by omega)
        have hi7 := ((OI.of hi6).chg hdd.2 fun b hb e => by have := (hi6.lt b hb).1; omega).1
        clear hX6 hR6 ho6 hi6
        clear hdd
        have hbA := (Below.refl w7.heap.size w7).alloc (Nat.le_refl _) (.cells #[.int .i64 y] 2)
        have hX8 := hX7.below hbA hX7.lt
        have hR8 := hR7.below hbA hR7.lt
        have ho8 := ho7.below hbA
        have hi8 := hi7.below hbA (Nat.le_refl _)
        have hd8 := hd7.below hbA
        have hg8 : OwnInts (w7.alloc (.cells #[.int .i64 y] 2)) (X + 1) (.slice (some ⟨w7.heap.size, 0, none⟩) 1 1) [y] := by
          have h := (ione_new w7 y).own (B := X + 1) (by have := hX7.lt; omega) (by simp)
          simpa using h
        have hlg : [y].length ≤ 300 := by simp
        clear hX7 hR7 ho7 hi7 hd7 hbA
        go_wp2_with fail
        generalize w7.alloc (.cells #[.int .i64 y] 2) = w8 at *
        obtain ⟨ug, hug⟩ : ∃ ug : Value, ug = .slice (some ⟨w7.heap.size, 0, none⟩) 1 1 := ⟨_, rfl⟩
        rw [← hug] at hg8
        rw [← hug]
        clear hug
        obtain ⟨lg, hlge⟩ : ∃ lg : List Int, lg = [y] := ⟨_, rfl⟩
        rw [← hlge] at hg8 hlg
        clear hlge
        refine (l1Below_any C v n 2 _ hd8.1).mono ?_
        rintro e w9 ⟨who, rfl, hw0', _, hw1', hdd⟩
        have hw2' := hw1' (by omega)
        have hw0 : -1 ≤ who := by omega
        have hw1 : who ≤ 2 := by omega
        have hd9 := hd8.trans hdd
        have hX9 : Arr w9 X 30 [.slice A a.owner.length ac, (.slice A' a.next.length ac')] := (hdd.2.block X hX8.lt (by omega)).trans hX8
        have hR9 : Arr w9 R 30 [.slice none 0 0, .slice none 0 0] := (hdd.2.block R hR8.lt (by omega)).trans hR8
        have ho9 := ho8.chgC hdd.2 (by omega)
        have hi9 := ((OI.of hi8).chg hdd.2 fun b hb e => by have := (hi8.lt b hb).1; omega).1
        have hg9 := ((OI.of hg8).chg hdd.2 fun b hb e => by have := (hg8.lt b hb).1; omega).1
        clear hX8 hR8 ho8 hi8 hg8
        clear hdd hw0' hw1' hw2'
        go_wp2_with fail
        refine (l1Once_any C v n 20 _ hd9.1).mono ?_
        rintro e w10 ⟨b3, rfl, hdd⟩
        have hd10 := hd9.trans hdd
        have hX10 : Arr w10 X 30 [.slice A a.owner.length ac, (.slice A' a.next.length ac')] := (hdd.2.block X hX9.lt (by omega)).trans hX9
        have hR10 : Arr w10 R 30 [.slice none 0 0, .slice none 0 0] := (hdd.2.block R hR9.lt (by omega)).trans hR9
        have ho10 := ho9.chgC hdd.2 (by omega)
        have hi10 := ((OI.of hi9).chg hdd.2 fun b hb e => by have := (hi9.lt b hb).1; omega).1
        have hg10 := ((OI.of hg9).chg hdd.2 fun b hb e => by have := (hg9.lt b hb).1; omega).1
        clear hX9 hR9 ho9 hi9 hg9
        clear hdd
        cases b3
        · skip
          have q0 := hX10.c0
          have q1 := hX10.c1
          have p8 := hR10.c0
          have p9 := hR10.c1
          have p2 := hR10.frozen 0
          have p3 := hR10.frozen 1
          have hRl := hR10.lt
          go_wp2
          have hR9 := (hR10.set_ 0 (.slice A a.owner.length ac)).set_ 1 (.slice A' a.next.length ac')
          have hd9 := (hd10.setCell hc (p := ⟨R, 0, none⟩) (by show w.heap.size ≤ R; omega) (.slice A a.owner.length ac)).setCell hc (p := ⟨R, 1, none⟩) (by show w.heap.size ≤ R; omega) (.slice A' a.next.length ac')
          have hcb : ∀ b, R + 1 ≤ b → ((w10.setCell ⟨R, 0, none⟩ (.slice A a.owner.length ac)).setCell ⟨R, 1, none⟩ (.slice A' a.next.length ac')).heap[b]? = w10.heap[b]? := fun b hb => by
            rw [Below.heap_setCell _ _ _ _ (by simp; omega), Below.heap_setCell _ _ _ _ (by simp; omega)]
          have hXl := hX10.lt
          have hsz : ((w10.setCell ⟨R, 0, none⟩ (.slice A a.owner.length ac)).setCell ⟨R, 1, none⟩ (.slice A' a.next.length ac')).heap.size = w10.heap.size := by simp
          have hoa := ho10.heapFrom (fun b hb => hcb b (by omega))
          have hi9 := (hi10.heap (fun b hb => hcb b (by have := (hi10.lt b hb).1; omega)))
          have hg9 := (hg10.heap (fun b hb => hcb b (by have := (hg10.lt b hb).1; omega)))
          generalize ((w10.setCell ⟨R, 0, none⟩ (.slice A a.owner.length ac)).setCell ⟨R, 1, none⟩ (.slice A' a.next.length ac')) = wZ at *
          have p0 := hR9.c0
          have p1 := hR9.c1
          refine bodyPost_ret (v := .tuple #[.agg #[.slice A a.owner.length ac, (.slice A' a.next.length ac')], .int .i64 who, ui, ug]) (by simp [results, Try.results67, go_sem, p0, p1]) rfl ?_
          first | exact ⟨_, _, _, _, rfl, a, li, lg, hoa.mono (by omega) (by omega), hbig, hi9.more (by omega), hg9.more (by omega), hli, hlg, hw0, hw1, hd9⟩ | exact ⟨_, _, _, _, a, li, lg, rfl, hoa.mono (by omega) (by omega), hbig, hi9.more (by omega), hg9.more (by omega), hli, hlg, hw0, hw1, hd9⟩
        · clear hw0 hw1
          go_wp2_with fail
          refine (l1From_any C v n (-1) 2 _ hd10.1 (by omega) (by omega)).mono ?_
          rintro e w11 ⟨who, rfl, hw0, hw1', hw2', hdd⟩
          have hw1 : who ≤ 2 := by omega
          have hd11 := hd10.trans hdd
          have hX11 : Arr w11 X 30 [.slice A a.owner.length ac, (.slice A' a.next.length ac')] := (hdd.2.block X hX10.lt (by omega)).trans hX10
          have hR11 : Arr w11 R 30 [.slice none 0 0, .slice none 0 0] := (hdd.2.block R hR10.lt (by omega)).trans hR10
          have ho11 := ho10.chgC hdd.2 (by omega)
          have hi11 := ((OI.of hi10).chg hdd.2 fun b hb e => by have := (hi10.lt b hb).1; omega).1
          have hg11 := ((OI.of hg10).chg hdd.2 fun b hb e => by have := (hg10.lt b hb).1; omega).1
          clear hX10 hR10 ho10 hi10 hg10
          have q0 := hX11.c0
          have q1 := hX11.c1
          have p8 := hR11.c0
          have p9 := hR11.c1
          have p2 := hR11.frozen 0
          have p3 := hR11.frozen 1
          have hRl := hR11.lt
          go_wp2
          have hR9 := (hR11.set_ 0 (.slice A a.owner.length ac)).set_ 1 (.slice A' a.next.length ac')
          have hd9 := (hd11.setCell hc (p := ⟨R, 0, none⟩) (by show w.heap.size ≤ R; omega) (.slice A a.owner.length ac)).setCell hc (p := ⟨R, 1, none⟩) (by show w.heap.size ≤ R; omega) (.slice A' a.next.length ac')
          have hcb : ∀ b, R + 1 ≤ b → ((w11.setCell ⟨R, 0, none⟩ (.slice A a.owner.length ac)).setCell ⟨R, 1, none⟩ (.slice A' a.next.length ac')).heap[b]? = w11.heap[b]? := fun b hb => by
            rw [Below.heap_setCell _ _ _ _ (by simp; omega), Below.heap_setCell _ _ _ _ (by simp; omega)]
          have hXl := hX11.lt
          have hsz : ((w11.setCell ⟨R, 0, none⟩ (.slice A a.owner.length ac)).setCell ⟨R, 1, none⟩ (.slice A' a.next.length ac')).heap.size = w11.heap.size := by simp
          have hoa := ho11.heapFrom (fun b hb => hcb b (by omega))
          have hi9 := (hi11.heap (fun b hb => hcb b (by have := (hi11.lt b hb).1; omega)))
          have hg9 := (hg11.heap (fun b hb => hcb b (by have := (hg11.lt b hb).1; omega)))
          generalize ((w11.setCell ⟨R, 0, none⟩ (.slice A a.owner.length ac)).setCell ⟨R, 1, none⟩ (.slice A' a.next.length ac')) = wZ at *
          have p0 := hR9.c0
          have p1 := hR9.c1
          refine bodyPost_ret (v := .tuple #[.agg #[.slice A a.owner.length ac, (.slice A' a.next.length ac')], .int .i64 who, ui, ug]) (by simp [results, Try.results67, go_sem, p0, p1]) rfl ?_
          first | exact ⟨_, _, _, _, rfl, a, li, lg, hoa.mono (by omega) (by omega), hbig, hi9.more (by omega), hg9.more (by omega), hli, hlg, hw0, hw1, hd9⟩ | exact ⟨_, _, _, _, a, li, lg, rfl, hoa.mono (by omega) (by omega), hbig, hi9.more (by omega), hg9.more (by omega), hli, hlg, hw0, hw1, hd9⟩
      · have hn1 : ¬ (0 : Int) < a.owner.length := by omega
        go_wp2_with fail
        refine (l1Below_any C v n 2 _ hd6.1).mono ?_
        rintro e w7 ⟨who, rfl, hw0', _, hw1', hdd⟩
        have hw2' := hw1' (by omega)
        have hw0 : -1 ≤ who := by omega
        have hw1 : who ≤ 2 := by omega
        have hd7 := hd6.trans hdd
        have hX7 : Arr w7 X 30 [.slice A a.owner.length ac, (.slice A' a.next.length ac')] := (hdd.2.block X hX6.lt (by omega)).trans hX6
        have hR7 : Arr w7 R 30 [.slice none 0 0, .slice none 0 0] := (hdd.2.block R hR6.lt (by omega)).trans hR6
        have ho7 := ho6.chgC hdd.2 (by omega)
        have hi7 := ((OI.of hi6).chg hdd.2 fun b hb e => by have := (hi6.lt b hb).1; omega).1
        have hg7 := ((OI.of hg6).chg hdd.2 fun b hb e => by have := (hg6.lt b hb).1; omega).1
        clear hX6 hR6 ho6 hi6 hg6
        clear hdd hw0' hw1' hw2'
        go_wp2_with fail
        refine (l1Once_any C v n 20 _ hd7.1).mono ?_
        rintro e w8 ⟨b3, rfl, hdd⟩
        have hd8 := hd7.trans hdd
        have hX8 : Arr w8 X 30 [.slice A a.owner.length ac, (.slice A' a.next.length ac')] := (hdd.2.block X hX7.lt (by omega)).trans hX7
        have hR8 : Arr w8 R 30 [.slice none 0 0, .slice none 0 0] := (hdd.2.block R hR7.lt (by omega)).trans hR7
        have ho8 := ho7.chgC hdd.2 (by omega)
        have hi8 := ((OI.of hi7).chg hdd.2 fun b hb e => by have := (hi7.lt b hb).1; omega).1
        have hg8 := ((OI.of hg7).chg hdd.2 fun b hb e => by have := (hg7.lt b hb).1; omega).1
        clear hX7 hR7 ho7 hi7 hg7
        clear hdd
        cases b3
        · skip
          have q0 := hX8.c0
          have q1 := hX8.c1
          have p8 := hR8.c0
          have p9 := hR8.c1
          have p2 := hR8.frozen 0
          have p3 := hR8.frozen 1
          have hRl := hR8.lt
          go_wp2
          have hR9 := (hR8.set_ 0 (.slice A a.owner.length ac)).set_ 1 (.slice A' a.next.length ac')
          have hd9 := (hd8.setCell hc (p := ⟨R, 0, none⟩) (by show w.heap.size ≤ R; omega) (.slice A a.owner.length ac)).setCell hc (p := ⟨R, 1, none⟩) (by show w.heap.size ≤ R; omega) (.slice A' a.next.length ac')
          have hcb : ∀ b, R + 1 ≤ b → ((w8.setCell ⟨R, 0, none⟩ (.slice A a.owner.length ac)).setCell ⟨R, 1, none⟩ (.slice A' a.next.length ac')).heap[b]? = w8.heap[b]? := fun b hb => by
            rw [Below.heap_setCell _ _ _ _ (by simp; omega), Below.heap_setCell _ _ _ _ (by simp; omega)]
          have hXl := hX8.lt
          have hsz : ((w8.setCell ⟨R, 0, none⟩ (.slice A a.owner.length ac)).setCell ⟨R, 1, none⟩ (.slice A' a.next.length ac')).heap.size = w8.heap.size := by simp
          have hoa := ho8.heapFrom (fun b hb => hcb b (by omega))
          have hi9 := (hi8.heap (fun b hb => hcb b (by have := (hi8.lt b hb).1; omega)))
          have hg9 := (hg8.heap (fun b hb => hcb b (by have := (hg8.lt b hb).1; omega)))
          generalize ((w8.setCell ⟨R, 0, none⟩ (.slice A a.owner.length ac)).setCell ⟨R, 1, none⟩ (.slice A' a.next.length ac')) = wZ at *
          have p0 := hR9.c0
          have p1 := hR9.c1
          refine bodyPost_ret (v := .tuple #[.agg #[.slice A a.owner.length ac, (.slice A' a.next.length ac')], .int .i64 who, ui, ug]) (by simp [results, Try.results67, go_sem, p0, p1]) rfl ?_
          first | exact ⟨_, _, _, _, rfl, a, li, lg, hoa.mono (by omega) (by omega), hbig, hi9.more (by omega), hg9.more (by omega), hli, hlg, hw0, hw1, hd9⟩ | exact ⟨_, _, _, _, a, li, lg, rfl, hoa.mono (by omega) (by omega), hbig, hi9.more (by omega), hg9.more (by omega), hli, hlg, hw0, hw1, hd9⟩
        · clear hw0 hw1
          go_wp2_with fail
          refine (l1From_any C v n (-1) 2 _ hd8.1 (by omega) (by omega)).mono ?_
          rintro e w9 ⟨who, rfl, hw0, hw1', hw2', hdd⟩
          have hw1 : who ≤ 2 := by omega
          have hd9 := hd8.trans hdd
          have hX9 : Arr w9 X 30 [.slice A a.owner.length ac, (.slice A' a.next.length ac')] := (hdd.2.block X hX8.lt (by omega)).trans hX8
          have hR9 : Arr w9 R 30 [.slice none 0 0, .slice none 0 0] := (hdd.2.block R hR8.lt (by omega)).trans hR8
          have ho9 := ho8.chgC hdd.2 (by omega)
          have hi9 := ((OI.of hi8).chg hdd.2 fun b hb e => by have := (hi8.lt b hb).1; omega).1
          have hg9 := ((OI.of hg8).chg hdd.2 fun b hb e => by have := (hg8.lt b hb).1; omega).1
          clear hX8 hR8 ho8 hi8 hg8
          have q0 := hX9.c0
          have q1 := hX9.c1
          have p8 := hR9.c0
          have p9 := hR9.c1
          have p2 := hR9.frozen 0
          have p3 := hR9.frozen 1
          have hRl := hR9.lt
          go_wp2
          have hR9 := (hR9.set_ 0 (.slice A a.owner.length ac)).set_ 1 (.slice A' a.next.length ac')
          have hd9 := (hd9.setCell hc (p := ⟨R, 0, none⟩) (by show w.heap.size ≤ R; omega) (.slice A a.owner.length ac)).setCell hc (p := ⟨R, 1, none⟩) (by show w.heap.size ≤ R; omega) (.slice A' a.next.length ac')
          have hcb : ∀ b, R + 1 ≤ b → ((w9.setCell ⟨R, 0, none⟩ (.slice A a.owner.length ac)).setCell ⟨R, 1, none⟩ (.slice A' a.next.length ac')).heap[b]? = w9.heap[b]? := fun b hb => by
            rw [Below.heap_setCell _ _ _ _ (by simp; omega), Below.heap_setCell _ _ _ _ (by simp; omega)]
          have hXl := hX9.lt
          have hsz : ((w9.setCell ⟨R, 0, none⟩ (.slice A a.owner.length ac)).setCell ⟨R, 1, none⟩ (.slice A' a.next.length ac')).heap.size = w9.heap.size := by simp
          have hoa := ho9.heapFrom (fun b hb => hcb b (by omega))
          have hi9 := (hi9.heap (fun b hb => hcb b (by have := (hi9.lt b hb).1; omega)))
          have hg9 := (hg9.heap (fun b hb => hcb b (by have := (hg9.lt b hb).1; omega)))
          generalize ((w9.setCell ⟨R, 0, none⟩ (.slice A a.owner.length ac)).setCell ⟨R, 1, none⟩ (.slice A' a.next.length ac')) = wZ at *
          have p0 := hR9.c0
          have p1 := hR9.c1
          refine bodyPost_ret (v := .tuple #[.agg #[.slice A a.owner.length ac, (.slice A' a.next.length ac')], .int .i64 who, ui, ug]) (by simp [results, Try.results67, go_sem, p0, p1]) rfl ?_
          first | exact ⟨_, _, _, _, rfl, a, li, lg, hoa.mono (by omega) (by omega), hbig, hi9.more (by omega), hg9.more (by omega), hli, hlg, hw0, hw1, hd9⟩ | exact ⟨_, _, _, _, a, li, lg, rfl, hoa.mono (by omega) (by omega), hbig, hi9.more (by omega), hg9.more (by omega), hli, hlg, hw0, hw1, hd9⟩
  · clear hi4 hli
    go_wp2_with fail
    refine (l1DrawSet_any C v n a.owner.length _ hd4.1 (by omega)).mono ?_
    rintro e w5 ⟨ui, li, rfl, hix, hli', _, hdd⟩
    have hli : li.length ≤ 300 := by omega
    have hd5 := hd4.trans hdd
    have hi5 : OwnInts w5 (X + 1) ui li := hix.more (by have := hX4.lt; omega)
    have hX5 : Arr w5 X 30 [.slice A a.owner.length ac, (.slice A' a.next.length ac')] := (hdd.2.block X hX4.lt (by omega)).trans hX4
    have hR5 : Arr w5 R 30 [.slice none 0 0, .slice none 0 0] := (hdd.2.block R hR4.lt (by omega)).trans hR4
    have ho5 := ho4.chgC hdd.2 (by omega)
    clear hX4 hR4 ho4
    clear hdd hix hli'
    go_wp2_with fail
    refine (l1DrawSet_any C v n a.owner.length _ hd5.1 (by omega)).mono ?_
    rintro e w6 ⟨ug, lg, rfl, hgx, hlg', _, hdd⟩
    have hlg : lg.length ≤ 300 := by omega
    have hd6 := hd5.trans hdd
    have hg6 : OwnInts w6 (X + 1) ug lg := hgx.more (by have := hX5.lt; omega)
    have hX6 : Arr w6 X 30 [.slice A a.owner.length ac, (.slice A' a.next.length ac')] := (hdd.2.block X hX5.lt (by omega)).trans hX5
    have hR6 : Arr w6 R 30 [.slice none 0 0, .slice none 0 0] := (hdd.2.block R hR5.lt (by omega)).trans hR5
    have ho6 := ho5.chgC hdd.2 (by omega)
    have hi6 := ((OI.of hi5).chg hdd.2 fun b hb e => by have := (hi5.lt b hb).1; omega).1
    clear hX5 hR5 ho5 hi5
    clear hdd hgx hlg'
    go_wp2_with fail
    refine (l1Once_any C v n 2 _ hd6.1).mono ?_
    rintro e w7 ⟨b2, rfl, hdd⟩
    have hd7 := hd6.trans hdd
    have hX7 : Arr w7 X 30 [.slice A a.owner.length ac, (.slice A' a.next.length ac')] := (hdd.2.block X hX6.lt (by omega)).trans hX6
    have hR7 : Arr w7 R 30 [.slice none 0 0, .slice none 0 0] := (hdd.2.block R hR6.lt (by omega)).trans hR6
    have ho7 := ho6.chgC hdd.2 (by omega)
    have hi7 := ((OI.of hi6).chg hdd.2 fun b hb e => by have := (hi6.lt b hb).1; omega).1
    have hg7 := ((OI.of hg6).chg hdd.2 fun b hb e => by have := (hg6.lt b hb).1; omega).1
    clear hX6 hR6 ho6 hi6 hg6
    clear hdd
    cases b2
    · skip
      go_wp2_with fail
      refine (l1Below_any C v n 2 _ hd7.1).mono ?_
      rintro e w8 ⟨who, rfl, hw0', _, hw1', hdd⟩
      have hw2' := hw1' (by omega)
      have hw0 : -1 ≤ who := by omega
      have hw1 : who ≤ 2 := by omega
      have hd8 := hd7.trans hdd
      have hX8 : Arr w8 X 30 [.slice A a.owner.length ac, (.slice A' a.next.length ac')] := (hdd.2.block X hX7.lt (by omega)).trans hX7
      have hR8 : Arr w8 R 30 [.slice none 0 0, .slice none 0 0] := (hdd.2.block R hR7.lt (by omega)).trans hR7
      have ho8 := ho7.chgC hdd.2 (by omega)
      have hi8 := ((OI.of hi7).chg hdd.2 fun b hb e => by have := (hi7.lt b hb).1; omega).1
      have hg8 := ((OI.of hg7).chg hdd.2 fun b hb e => by have := (hg7.lt b hb).1; omega).1
      clear hX7 hR7 ho7 hi7 hg7
      clear hdd hw0' hw1' hw2'
      go_wp2_with fail
      refine (l1Once_any C v n 20 _ hd8.1).mono ?_
      rintro e w9 ⟨b3, rfl, hdd⟩
      have hd9 := hd8.trans hdd
      have hX9 : Arr w9 X 30 [.slice A a.owner.length ac, (.slice A' a.next.length ac')] := (hdd.2.block X hX8.lt (by omega)).trans hX8
      have hR9 : Arr w9 R 30 [.slice none 0 0, .slice none 0 0] := (hdd.2.block R hR8.lt (by omega)).trans hR8
      have ho9 := ho8.chgC hdd.2 (by omega)
      have hi9 := ((OI.of hi8).chg hdd.2 fun b hb e => by have := (hi8.lt b hb).1; omega).1
      have hg9 := ((OI.of hg8).chg hdd.2 fun b hb e => by have := (hg8.lt b hb).1; omega).1
      clear hX8 hR8 ho8 hi8 hg8
      clear hdd
      cases b3
      · skip
        have q0 := hX9.c0
        have q1 := hX9.c1
        have p8 := hR9.c0
        have p9 := hR9.c1
        have p2 := hR9.frozen 0
        have p3 := hR9.frozen 1
        have hRl := hR9.lt
        go_wp2
        have hR9 := (hR9.set_ 0 (.slice A a.owner.length ac)).set_ 1 (.slice A' a.next.length ac')
        have hd9 := (hd9.setCell hc (p := ⟨R, 0, none⟩) (by show w.heap.size ≤ R; omega) (.slice A a.owner.length ac)).setCell hc (p := ⟨R, 1, none⟩) (by show w.heap.size ≤ R; omega) (.slice A' a.next.length ac')
        have hcb : ∀ b, R + 1 ≤ b → ((w9.setCell ⟨R, 0, none⟩ (.slice A a.owner.length ac)).setCell ⟨R, 1, none⟩ (.slice A' a.next.length ac')).heap[b]? = w9.heap[b]? := fun b hb => by
          rw [Below.heap_setCell _ _ _ _ (by simp; omega), Below.heap_setCell _ _ _ _ (by simp; omega)]
        have hXl := hX9.lt
        have hsz : ((w9.setCell ⟨R, 0, none⟩ (.slice A a.owner.length ac)).setCell ⟨R, 1, none⟩ (.slice A' a.next.length ac')).heap.size = w9.heap.size := by simp
        have hoa := ho9.heapFrom (fun b hb => hcb b (by omega))
        have hi9 := (hi9.heap (fun b hb => hcb b (by have := (hi9.lt b hb).1; omega)))
        have hg9 := (hg9.heap (fun b hb => hcb b (by have := (hg9.lt b hb).1; omega)))
        generalize ((w9.setCell ⟨R, 0, none⟩ (.slice A a.owner.length ac)).setCell ⟨R, 1, none⟩ (.slice A' a.next.length ac')) = wZ at *
        have p0 := hR9.c0
        have p1 := hR9.c1
        refine bodyPost_ret (v := .tuple #[.agg #[.slice A a.owner.length ac, (.slice A' a.next.length ac')], .int .i64 who, ui, ug]) (by simp [results, Try.results67, go_sem, p0, p1]) rfl ?_
        first | exact ⟨_, _, _, _, rfl, a, li, lg, hoa.mono (by omega) (by omega), hbig, hi9.more (by omega), hg9.more (by omega), hli, hlg, hw0, hw1, hd9⟩ | exact ⟨_, _, _, _, a, li, lg, rfl, hoa.mono (by omega) (by omega), hbig, hi9.more (by omega), hg9.more (by omega), hli, hlg, hw0, hw1, hd9⟩
      · clear hw0 hw1
        go_wp2_with fail
        refine (l1From_any C v n (-1) 2 _ hd9.1 (by omega) (by omega)).mono ?_
        rintro e w10 ⟨who, rfl, hw0, hw1', hw2', hdd⟩
        have hw1 : who ≤ 2 := by omega
        have hd10 := hd9.trans hdd
        have hX10 : Arr w10 X 30 [.slice A a.owner.length ac, (.slice A' a.next.length ac')] := (hdd.2.block X hX9.lt (by omega)).trans hX9
        have hR10 : Arr w10 R 30 [.slice none 0 0, .slice none 0 0] := (hdd.2.block R hR9.lt (by omega)).trans hR9
        have ho10 := ho9.chgC hdd.2 (by omega)
        have hi10 := ((OI.of hi9).chg hdd.2 fun b hb e => by have := (hi9.lt b hb).1; omega).1
        have hg10 := ((OI.of hg9).chg hdd.2 fun b hb e => by have := (hg9.lt b hb).1; omega).1
        clear hX9 hR9 ho9 hi9 hg9
        have q0 := hX10.c0
        have q1 := hX10.c1
        have p8 := hR10.c0
        have p9 := hR10.c1
        have p2 := hR10.frozen 0
        have p3 := hR10.frozen 1
        have hRl := hR10.lt
        go_wp2
        have hR9 := (hR10.set_ 0 (.slice A a.owner.length ac)).set_ 1 (.slice A' a.next.length ac')
        have hd9 := (hd10.setCell hc (p := ⟨R, 0, none⟩) (by show w.heap.size ≤ R; omega) (.slice A a.owner.length ac)).setCell hc (p := ⟨R, 1, none⟩) (by show w.heap.size ≤ R; omega) (.slice A' a.next.length ac')
        have hcb : ∀ b, R + 1 ≤ b → ((w10.setCell ⟨R, 0, none⟩ (.slice A a.owner.length ac)).setCell ⟨R, 1, none⟩ (.slice A' a.next.length ac')).heap[b]? = w10.heap[b]? := fun b hb => by
          rw [Below.heap_setCell _ _ _ _ (by simp; omega), Below.heap_setCell _ _ _ _ (by simp; omega)]
        have hXl := hX10.lt
        have hsz : ((w10.setCell ⟨R, 0, none⟩ (.slice A a.owner.length ac)).setCell ⟨R, 1, none⟩ (.slice A' a.next.length ac')).heap.size = w10.heap.size := by simp
        have hoa := ho10.heapFrom (fun b hb => hcb b (by omega))
        have hi9 := (hi10.heap (fun b hb => hcb b (by have := (hi10.lt b hb).1; omega)))
        have hg9 := (hg10.heap (fun b hb => hcb b (by have := (hg10.lt b hb).1; omega)))
        generalize ((w10.setCell ⟨R, 0, none⟩ (.slice A a.owner.length ac)).setCell ⟨R, 1, none⟩ (.slice A' a.next.length ac')) = wZ at *
        have p0 := hR9.c0
        have p1 := hR9.c1
        refine bodyPost_ret (v := .tuple #[.agg #[.slice A a.owner.length ac, (.slice A' a.next.length ac')], .int .i64 who, ui, ug]) (by simp [results, Try.results67, go_sem, p0, p1]) rfl ?_
        first | exact ⟨_, _, _, _, rfl, a, li, lg, hoa.mono (by omega) (by omega), hbig, hi9.more (by omega), hg9.more (by omega), hli, hlg, hw0, hw1, hd9⟩ | exact ⟨_, _, _, _, a, li, lg, rfl, hoa.mono (by omega) (by omega), hbig, hi9.more (by omega), hg9.more (by omega), hli, hlg, hw0, hw1, hd9⟩
    · by_cases hn0 : 0 < a.owner.length
      · have hn1 : (0 : Int) < a.owner.length := by omega
        clear hlg hg7
        go_wp2_with fail
        refine (l1Below_any C v n (a.owner.length : Int) _ hd7.1).mono ?_
        rintro e w8 ⟨y, rfl, _, _, _, hdd⟩
        have hd8 := hd7.trans hdd
        have hX8 : Arr w8 X 30 [.slice A a.owner.length ac, (.slice A' a.next.length ac')] := (hdd.2.block X hX7.lt (by omega)).trans hX7
        have hR8 : Arr w8 R 30 [.slice none 0 0, .slice none 0 0] := (hdd.2.block R hR7.lt (by omega)).trans hR7
        have ho8 := ho7.chgC hdd.2 (by omega)
        have hi8 := ((OI.of hi7).chg hdd.2 fun b hb e => by have := (hi7.lt b hb).1; omega).1
        clear hX7 hR7 ho7 hi7
        clear hdd
        have hbA := (Below.refl w8.heap.size w8).alloc (Nat.le_refl _) (.cells #[.int .i64 y] 2)
        have hX9 := hX8.below hbA hX8.lt
        have hR9 := hR8.below hbA hR8.lt
        have ho9 := ho8.below hbA
        have hi9 := hi8.below hbA (Nat.le_refl _)
        have hd9 := hd8.below hbA
        have hg9 : OwnInts (w8.alloc (.cells #[.int .i64 y] 2)) (X + 1) (.slice (some ⟨w8.heap.size, 0, none⟩) 1 1) [y] := by
          have h := (ione_new w8 y).own (B := X + 1) (by have := hX8.lt; omega) (by simp)
          simpa using h
        have hlg : [y].length ≤ 300 := by simp
        clear hX8 hR8 ho8 hi8 hd8 hbA
        go_wp2_with fail
        generalize w8.alloc (.cells #[.int .i64 y] 2) = w9 at *
        obtain ⟨ug, hug⟩ : ∃ ug : Value, ug = .slice (some ⟨w8.heap.size, 0, none⟩) 1 1 := ⟨_, rfl⟩
        rw [← hug] at hg9
        rw [← hug]
        clear hug
        obtain ⟨lg, hlge⟩ : ∃ lg : List Int, lg = [y] := ⟨_, rfl⟩
        rw [← hlge] at hg9 hlg
        clear hlge
        refine (l1Below_any C v n 2 _ hd9.1).mono ?_
        rintro e w10 ⟨who, rfl, hw0', _, hw1', hdd⟩
        have hw2' := hw1' (by omega)
        have hw0 : -1 ≤ who := by omega
        have hw1 : who ≤ 2 := by omega
        have hd10 := hd9.trans hdd
        have hX10 : Arr w10 X 30 [.slice A a.owner.length ac, (.slice A' a.next.length ac')] := (hdd.2.block X hX9.lt (by omega)).trans hX9
        have hR10 : Arr w10 R 30 [.slice none 0 0, .slice none 0 0] := (hdd.2.block R hR9.lt (by omega)).trans hR9
        have ho10 := ho9.chgC hdd.2 (by omega)
        have hi10 := ((OI.of hi9).chg hdd.2 fun b hb e => by have := (hi9.lt b hb).1; omega).1
        have hg10 := ((OI.of hg9).chg hdd.2 fun b hb e => by have := (hg9.lt b hb).1; omega).1
        clear hX9 hR9 ho9 hi9 hg9
        clear hdd hw0' hw1' hw2'
        go_wp2_with fail
        refine (l1Once_any C v n 20 _ hd10.1).mono ?_
        rintro e w11 ⟨b3, rfl, hdd⟩
        have hd11 := hd10.trans hdd
        have hX11 : Arr w11 X 30 [.slice A a.owner.length ac, (.slice A' a.next.length ac')] := (hdd.2.block X hX10.lt (by omega)).trans hX10
        have hR11 : Arr w11 R 30 [.slice none 0 0, .slice none 0 0] := (hdd.2.block R hR10.lt (by omega)).trans hR10
        have ho11 := ho10.chgC hdd.2 (by omega)
        have hi11 := ((OI.of hi10).chg hdd.2 fun b hb e => by have := (hi10.lt b hb).1; omega).1
        have hg11 := ((OI.of hg10).chg hdd.2 fun b hb e => by have := (hg10.lt b hb).1; omega).1
        clear hX10 hR10 ho10 hi10 hg10
        clear hdd
        cases b3
        · skip
          have q0 := hX11.c0
          have q1 := hX11.c1
          have p8 := hR11.c0
          have p9 := hR11.c1
          have p2 := hR11.frozen 0
          have p3 := hR11.frozen 1
          have hRl := hR11.lt
          go_wp2
          have hR9 := (hR11.set_ 0 (.slice A a.owner.length ac)).set_ 1 (.slice A' a.next.length ac')
          have hd9 := (hd11.setCell hc (p := ⟨R, 0, none⟩) (by show w.heap.size ≤ R; omega) (.slice A a.owner.length ac)).setCell hc (p := ⟨R, 1, none⟩) (by show w.heap.size ≤ R; omega) (.slice A' a.next.length ac')
          have hcb : ∀ b, R + 1 ≤ b → ((w11.setCell ⟨R, 0, none⟩ (.slice A a.owner.length ac)).setCell ⟨R, 1, none⟩ (.slice A' a.next.length ac')).heap[b]? = w11.heap[b]? := fun b hb => by
            rw [Below.heap_setCell _ _ _ _ (by simp; omega), Below.heap_setCell _ _ _ _ (by simp; omega)]
          have hXl := hX11.lt
          have hsz : ((w11.setCell ⟨R, 0, none⟩ (.slice A a.owner.length ac)).setCell ⟨R, 1, none⟩ (.slice A' a.next.length ac')).heap.size = w11.heap.size := by simp
          have hoa := ho11.heapFrom (fun b hb => hcb b (by omega))
          have hi9 := (hi11.heap (fun b hb => hcb b (by have := (hi11.lt b hb).1; omega)))
          have hg9 := (hg11.heap (fun b hb => hcb b (by have := (hg11.lt b hb).1; omega)))
          generalize ((w11.setCell ⟨R, 0, none⟩ (.slice A a.owner.length ac)).setCell ⟨R, 1, none⟩ (.slice A' a.next.length ac')) = wZ at *
          have p0 := hR9.c0
          have p1 := hR9.c1
          refine bodyPost_ret (v := .tuple #[.agg #[.slice A a.owner.length ac, (.slice A' a.next.length ac')], .int .i64 who, ui, ug]) (by simp [results, Try.results67, go_sem, p0, p1]) rfl ?_
          first | exact ⟨_, _, _, _, rfl, a, li, lg, hoa.mono (by omega) (by omega), hbig, hi9.more (by omega), hg9.more (by omega), hli, hlg, hw0, hw1, hd9⟩ | exact ⟨_, _, _, _, a, li, lg, rfl, hoa.mono (by omega) (by omega), hbig, hi9.more (by omega), hg9.more (by omega), hli, hlg, hw0, hw1, hd9⟩
        · clear hw0 hw1
          go_wp2_with fail
          refine (l1From_any C v n (-1) 2 _ hd11.1 (by omega) (by omega)).mono ?_
          rintro e w12 ⟨who, rfl, hw0, hw1', hw2', hdd⟩
          have hw1 : who ≤ 2 := by omega
          have hd12 := hd11.trans hdd
          have hX12 : Arr w12 X 30 [.slice A a.owner.length ac, (.slice A' a.next.length ac')] := (hdd.2.block X hX11.lt (by omega)).trans hX11
          have hR12 : Arr w12 R 30 [.slice none 0 0, .slice none 0 0] := (hdd.2.block R hR11.lt (by omega)).trans hR11
          have ho12 := ho11.chgC hdd.2 (by omega)
          have hi12 := ((OI.of hi11).chg hdd.2 fun b hb e => by have := (hi11.lt b hb).1; omega).1
          have hg12 := ((OI.of hg11).chg hdd.2 fun b hb e => by have := (hg11.lt b hb).1; omega).1
          clear hX11 hR11 ho11 hi11 hg11
          have q0 := hX12.c0
          have q1 := hX12.c1
          have p8 := hR12.c0
          have p9 := hR12.c1
          have p2 := hR12.frozen 0
          have p3 := hR12.frozen 1
          have hRl := hR12.lt
          go_wp2
          have hR9 := (hR12.set_ 0 (.slice A a.owner.length ac)).set_ 1 (.slice A' a.next.length ac')
          have hd9 := (hd12.setCell hc (p := ⟨R, 0, none⟩) (by show w.heap.size ≤ R; omega) (.slice A a.owner.length ac)).setCell hc (p := ⟨R, 1, none⟩) (by show w.heap.size ≤ R; omega) (.slice A' a.next.length ac')
          have hcb : ∀ b, R + 1 ≤ b → ((w12.setCell ⟨R, 0, none⟩ (.slice A a.owner.length ac)).setCell ⟨R, 1, none⟩ (.slice A' a.next.length ac')).heap[b]? = w12.heap[b]? := fun b hb => by
            rw [Below.heap_setCell _ _ _ _ (by simp; omega), Below.heap_setCell _ _ _ _ (by simp; omega)]
          have hXl := hX12.lt
          have hsz : ((w12.setCell ⟨R, 0, none⟩ (.slice A a.owner.length ac)).setCell ⟨R, 1, none⟩ (.slice A' a.next.length ac')).heap.size = w12.heap.size := by simp
          have hoa := ho12.heapFrom (fun b hb => hcb b (by omega))
          have hi9 := (hi12.heap (fun b hb => hcb b (by have := (hi12.lt b hb).1; omega)))
          have hg9 := (hg12.heap (fun b hb => hcb b (by have := (hg12.lt b hb).1; omega)))
          generalize ((w12.setCell ⟨R, 0, none⟩ (.slice A a.owner.length ac)).setCell ⟨R, 1, none⟩ (.slice A' a.next.length ac')) = wZ at *
          have p0 := hR9.c0
          have p1 := hR9.c1
          refine bodyPost_ret (v := .tuple #[.agg #[.slice A a.owner.length ac, (.slice A' a.next.length ac')], .int .i64 who, ui, ug]) (by simp [results, Try.results67, go_sem, p0, p1]) rfl ?_
          first | exact ⟨_, _, _, _, rfl, a, li, lg, hoa.mono (by omega) (by omega), hbig, hi9.more (by omega), hg9.more (by omega), hli, hlg, hw0, hw1, hd9⟩ | exact ⟨_, _, _, _, a, li, lg, rfl, hoa.mono (by omega) (by omega), hbig, hi9.more (by omega), hg9.more (by omega), hli, hlg, hw0, hw1, hd9⟩
      · have hn1 : ¬ (0 : Int) < a.owner.length := by omega
        go_wp2_with fail
        refine (l1Below_any C v n 2 _ hd7.1).mono ?_
        rintro e w8 ⟨who, rfl, hw0', _, hw1', hdd⟩
        have hw2' := hw1' (by omega)
        have hw0 : -1 ≤ who := by omega
        have hw1 : who ≤ 2 := by omega
        have hd8 := hd7.trans hdd
        have hX8 : Arr w8 X 30 [.slice A a.owner.length ac, (.slice A' a.next.length ac')] := (hdd.2.block X hX7.lt (by omega)).trans hX7
        have hR8 : Arr w8 R 30 [.slice none 0 0, .slice none 0 0] := (hdd.2.block R hR7.lt (by omega)).trans hR7
        have ho8 := ho7.chgC hdd.2 (by omega)
        have hi8 := ((OI.of hi7).chg hdd.2 fun b hb e => by have := (hi7.lt b hb).1; omega).1
        have hg8 := ((OI.of hg7).chg hdd.2 fun b hb e => by have := (hg7.lt b hb).1; omega).1
        clear hX7 hR7 ho7 hi7 hg7
        clear hdd hw0' hw1' hw2'
        go_wp2_with fail
        refine (l1Once_any C v n 20 _ hd8.1).mono ?_
        rintro e w9 ⟨b3, rfl, hdd⟩
        have hd9 := hd8.trans hdd
        have hX9 : Arr w9 X 30 [.slice A a.owner.length ac, (.slice A' a.next.length ac')] := (hdd.2.block X hX8.lt (by omega)).trans hX8
        have hR9 : Arr w9 R 30 [.slice none 0 0, .slice none 0 0] := (hdd.2.block R hR8.lt (by omega)).trans hR8
        have ho9 := ho8.chgC hdd.2 (by omega)
        have hi9 := ((OI.of hi8).chg hdd.2 fun b hb e => by have := (hi8.lt b hb).1; omega).1
        have hg9 := ((OI.of hg8).chg hdd.2 fun b hb e => by have := (hg8.lt b hb).1; omega).1
        clear hX8 hR8 ho8 hi8 hg8
        clear hdd
        cases b3
        · skip
          have q0 := hX9.c0
          have q1 := hX9.c1
          have p8 := hR9.c0
          have p9 := hR9.c1
          have p2 := hR9.frozen 0
          have p3 := hR9.frozen 1
          have hRl := hR9.lt
          go_wp2
          have hR9 := (hR9.set_ 0 (.slice A a.owner.length ac)).set_ 1 (.slice A' a.next.length ac')
          have hd9 := (hd9.setCell hc (p := ⟨R, 0, none⟩) (by show w.heap.size ≤ R; omega) (.slice A a.owner.length ac)).setCell hc (p := ⟨R, 1, none⟩) (by show w.heap.size ≤ R; omega) (.slice A' a.next.length ac')
          have hcb : ∀ b, R + 1 ≤ b → ((w9.setCell ⟨R, 0, none⟩ (.slice A a.owner.length ac)).setCell ⟨R, 1, none⟩ (.slice A' a.next.length ac')).heap[b]? = w9.heap[b]? := fun b hb => by
            rw [Below.heap_setCell _ _ _ _ (by simp; omega), Below.heap_setCell _ _ _ _ (by simp; omega)]
          have hXl := hX9.lt
          have hsz : ((w9.setCell ⟨R, 0, none⟩ (.slice A a.owner.length ac)).setCell ⟨R, 1, none⟩ (.slice A' a.next.length ac')).heap.size = w9.heap.size := by simp
          have hoa := ho9.heapFrom (fun b hb => hcb b (by omega))
          have hi9 := (hi9.heap (fun b hb => hcb b (by have := (hi9.lt b hb).1; omega)))
          have hg9 := (hg9.heap (fun b hb => hcb b (by have := (hg9.lt b hb).1; omega)))
          generalize ((w9.setCell ⟨R, 0, none⟩ (.slice A a.owner.length ac)).setCell ⟨R, 1, none⟩ (.slice A' a.next.length ac')) = wZ at *
          have p0 := hR9.c0
          have p1 := hR9.c1
          refine bodyPost_ret (v := .tuple #[.agg #[.slice A a.owner.length ac, (.slice A' a.next.length ac')], .int .i64 who, ui, ug]) (by simp [results, Try.results67, go_sem, p0, p1]) rfl ?_
          first | exact ⟨_, _, _, _, rfl, a, li, lg, hoa.mono (by omega) (by omega), hbig, hi9.more (by omega), hg9.more (by omega), hli, hlg, hw0, hw1, hd9⟩ | exact ⟨_, _, _, _, a, li, lg, rfl, hoa.mono (by omega) (by omega), hbig, hi9.more (by omega), hg9.more (by omega), hli, hlg, hw0, hw1, hd9⟩
        · clear hw0 hw1
          go_wp2_with fail
          refine (l1From_any C v n (-1) 2 _ hd9.1 (by omega) (by omega)).mono ?_
          rintro e w10 ⟨who, rfl, hw0, hw1', hw2', hdd⟩
          have hw1 : who ≤ 2 := by omega
          have hd10 := hd9.trans hdd
          have hX10 : Arr w10 X 30 [.slice A a.owner.length ac, (.slice A' a.next.length ac')] := (hdd.2.block X hX9.lt (by omega)).trans hX9
          have hR10 : Arr w10 R 30 [.slice none 0 0, .slice none 0 0] := (hdd.2.block R hR9.lt (by omega)).trans hR9
          have ho10 := ho9.chgC hdd.2 (by omega)
          have hi10 := ((OI.of hi9).chg hdd.2 fun b hb e => by have := (hi9.lt b hb).1; omega).1
          have hg10 := ((OI.of hg9).chg hdd.2 fun b hb e => by have := (hg9.lt b hb).1; omega).1
          clear hX9 hR9 ho9 hi9 hg9
          have q0 := hX10.c0
          have q1 := hX10.c1
          have p8 := hR10.c0
          have p9 := hR10.c1
          have p2 := hR10.frozen 0
          have p3 := hR10.frozen 1
          have hRl := hR10.lt
          go_wp2
          have hR9 := (hR10.set_ 0 (.slice A a.owner.length ac)).set_ 1 (.slice A' a.next.length ac')
          have hd9 := (hd10.setCell hc (p := ⟨R, 0, none⟩) (by show w.heap.size ≤ R; omega) (.slice A a.owner.length ac)).setCell hc (p := ⟨R, 1, none⟩) (by show w.heap.size ≤ R; omega) (.slice A' a.next.length ac')
          have hcb : ∀ b, R + 1 ≤ b → ((w10.setCell ⟨R, 0, none⟩ (.slice A a.owner.length ac)).setCell ⟨R, 1, none⟩ (.slice A' a.next.length ac')).heap[b]? = w10.heap[b]? := fun b hb => by
            rw [Below.heap_setCell _ _ _ _ (by simp; omega), Below.heap_setCell _ _ _ _ (by simp; omega)]
          have hXl := hX10.lt
          have hsz : ((w10.setCell ⟨R, 0, none⟩ (.slice A a.owner.length ac)).setCell ⟨R, 1, none⟩ (.slice A' a.next.length ac')).heap.size = w10.heap.size := by simp
          have hoa := ho10.heapFrom (fun b hb => hcb b (by omega))
          have hi9 := (hi10.heap (fun b hb => hcb b (by have := (hi10.lt b hb).1; omega)))
          have hg9 := (hg10.heap (fun b hb => hcb b (by have := (hg10.lt b hb).1; omega)))
          generalize ((w10.setCell ⟨R, 0, none⟩ (.slice A a.owner.length ac)).setCell ⟨R, 1, none⟩ (.slice A' a.next.length ac')) = wZ at *
          have p0 := hR9.c0
          have p1 := hR9.c1
          refine bodyPost_ret (v := .tuple #[.agg #[.slice A a.owner.length ac, (.slice A' a.next.length ac')], .int .i64 who, ui, ug]) (by simp [results, Try.results67, go_sem, p0, p1]) rfl ?_
          first | exact ⟨_, _, _, _, rfl, a, li, lg, hoa.mono (by omega) (by omega), hbig, hi9.more (by omega), hg9.more (by omega), hli, hlg, hw0, hw1, hd9⟩ | exact ⟨_, _, _, _, a, li, lg, rfl, hoa.mono (by omega) (by omega), hbig, hi9.more (by omega), hg9.more (by omega), hli, hlg, hw0, hw1, hd9⟩
set_option maxRecDepth 100000 in
set_option maxHeartbeats 8000000 in
theorem DrawRanksIn_any (v : Value) (n : Nat) (w : World) (hb : Bytes w v n) (hn : n ≤ 4096) :
    Calls Try.prog 30 #[v] w fun e w' => ∃ ua who ui ug, e = .returned (.tuple #[ua, .int .i64 who, ui, ug]) ∧ ∃ a li lg, IsArena w' ua a ∧ BigA a ∧ Ints w' ui li ∧ Ints w' ug lg ∧ li.length ≤ 300 ∧ lg.length ≤ 300 ∧ -1 ≤ who ∧ who ≤ 2 ∧ Below w.heap.size w w' := by
  obtain ⟨BA, bc, rfl, hbl, hbm⟩ := hb.form
  have hR0 := Arr.new w 30 [.slice none 0 0, .slice none 0 0]
  have hbn := (Below.refl w.heap.size w).alloc (Nat.le_refl _) (.cells #[.slice none 0 0, .slice none 0 0] 30)
  have hb0 := hb.kept (Kept.of hbn)
  have hRs : w.heap.size < (w.alloc (.cells #[.slice none 0 0, .slice none 0 0] 30)).heap.size := by simp
  go_enter Try.func30, Try.ntmps30
  go_wp2_with fail
  generalize w.alloc (.cells #[.slice none 0 0, .slice none 0 0] 30) = w0 at *
  refine (l1New_any _ n _ hb0 hn).mono ?_
  rintro e w1 ⟨C, rfl, hc, hC, hb1⟩
  have hR1 := hR0.below hb1 hRs
  have hCl := hc.lt
  go_wp2_with fail
  refine (l3Draw_any C _ n _ hc).mono ?_
  rintro e w2 ⟨ua, who, ui, ug, rfl, a, li, lg, ha, hbig, hi, hg, h1, h2, h3, h4, hd⟩
  obtain ⟨A, ac, A', ac', rfl⟩ := ha.form
  have hR2 : Arr w2 w.heap.size 30 [.slice none 0 0, .slice none 0 0] := (hd.2.block w.heap.size hR1.lt (by omega)).trans hR1
  have hbe : Below w.heap.size w w2 := Below.drawn (C := C) (hbn.trans (hb1.mono (by omega))) (by omega) hd.2
  obtain ⟨R, hR⟩ : ∃ R, w.heap.size = R := ⟨_, rfl⟩
  have hR3 := hR2
  rw [hR] at hR3
  have hRC : R < w1.heap.size := by omega
  have p8 := hR3.c0
  have p9 := hR3.c1
  have p2 := hR3.frozen 0
  have p3 := hR3.frozen 1
  go_wp2
  have hR9 := (hR3.set_ 0 (.slice A a.owner.length ac)).set_ 1 (.slice A' a.next.length ac')
  have hcb : ∀ b, R + 1 ≤ b → ((w2.setCell ⟨R, 0, none⟩ (.slice A a.owner.length ac)).setCell ⟨R, 1, none⟩ (.slice A' a.next.length ac')).heap[b]? = w2.heap[b]? := fun b hb => by
    rw [Below.heap_setCell _ _ _ _ (by simp; omega), Below.heap_setCell _ _ _ _ (by simp; omega)]
  have hoa := (ha.heapFrom (fun b hb => hcb b (by omega))).arena
  have hi9 := (hi.heap (fun b hb => hcb b (by have := (hi.lt b hb).1; omega))).ints
  have hg9 := (hg.heap (fun b hb => hcb b (by have := (hg.lt b hb).1; omega))).ints
  have hbz : Below w.heap.size w ((w2.setCell ⟨R, 0, none⟩ (.slice A a.owner.length ac)).setCell ⟨R, 1, none⟩ (.slice A' a.next.length ac')) := (hbe.setCell (p := ⟨R, 0, none⟩) (by show _ ≤ R; omega) _).setCell (p := ⟨R, 1, none⟩) (by show _ ≤ R; omega) _
  clear hcb
  generalize ((w2.setCell ⟨R, 0, none⟩ (.slice A a.owner.length ac)).setCell ⟨R, 1, none⟩ (.slice A' a.next.length ac')) = wZ at *
  have p0 := hR9.c0
  have p1 := hR9.c1
  refine bodyPost_ret (v := .tuple #[.agg #[.slice A a.owner.length ac, (.slice A' a.next.length ac')], .int .i64 who, ui, ug]) (by simp [results, Try.results30, go_sem, p0, p1]) rfl ?_
  first | exact ⟨_, _, _, _, rfl, a, li, lg, hoa, hbig, hi9, hg9, h1, h2, h3, h4, hbz⟩ | exact ⟨_, _, _, _, a, li, lg, rfl, hoa, hbig, hi9, hg9, h1, h2, h3, h4, hbz⟩
end Go.Proofs.Ytogfpalgnjlfcaa
