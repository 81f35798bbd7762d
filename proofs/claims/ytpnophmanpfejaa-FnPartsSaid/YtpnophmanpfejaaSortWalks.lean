/- The walks of BothOf, of the program and of the reference. -/
import Derived.Test.YtpnophmanpfejaaSort
import Derived.Test.YtpnophmanpfejaaSortPlain
import Derived.Test.YtpnophmanpfejaaSetWalks3
import Derived.Test.YtpnophmanpfejaaPkB
import Derived.Test.YtpnophmanpfejaaQueue
import Derived.Deep.Slices
namespace Go.Proofs.Ytpnophmanpfejaa
set_option linter.unusedSimpArgs false
set_option linter.unusedVariables false
open Go.RowKit

theorem OwnInts.some_ {w : World} {v v' : Value} (h : v'.ownBlock = v.ownBlock ∨ v'.ownBlock = some w.heap.size) (hv : v.ownBlock ≠ none) : v'.ownBlock ≠ none := by
  rcases h with h | h
  · rw [h]; exact hv
  · rw [h]; simp
set_option maxHeartbeats 800000 in
theorem bothOf_any (v u : Value) (a b : List Int) (w : World) (hv : Ints w v a) (hu : Ints w u b) (hr : Rising a) (hla : a.length ≤ 1048576) (hlb : b.length ≤ 1048576) :
    Calls Try.prog 108 #[v, u] w (RetInts w (bothL a b)) := by
  obtain ⟨A, c, rfl, hlc, hcm⟩ := hv.form
  obtain ⟨A2, c2, rfl, hlc2, hcm2⟩ := hu.form
  obtain ⟨hown, hbn⟩ := new_ints w
  have hv1 := hv.kept (Kept.of hbn)
  have hu1 := hu.kept (Kept.of hbn)
  have hs : w.heap.size ≤ (w.alloc (.cells #[] 2)).heap.size := by simp
  have hll : (lessL b a).length ≤ b.length := List.length_filter_le _ _
  go_enter Try.func108, Try.ntmps108
  go_wp2_with (first
    | (at_builtin; refine append_ints _ rfl (.tmp 6) (.tmp 7) rfl w.heap.size _ [] rfl hown _ a rfl hv1 (by simp; omega) hs ?_; intro v1 w1 ho1 hb1 hg1 hl1)
    | (go_at_call 109; refine (lessOf_any _ _ b a _ (hu.kept (Kept.of (hbn.trans hb1))) (hv.kept (Kept.of (hbn.trans hb1))) hr (by omega) (by omega)).mono ?_; rintro e w2 ⟨v2, rfl, ho2, hb2⟩)
    | (at_builtin; refine append_ints _ rfl (.tmp 8) (.tmp 11) rfl w.heap.size v1 ([] ++ a) rfl (ho1.below hb2 (Nat.le_refl _)) _ (lessL b a) rfl ho2.ints (by simp; omega) (by have := hb1.size; have := hb2.size; omega) ?_; intro v3 w3 ho3 hb3 hg3 hl3)
    | (go_at_call 130; refine (Sort_any _ _ _ _ ho3 (OwnInts.some_ hl3 (OwnInts.some_ hl1 (show (Value.slice (some ⟨w.heap.size, 0, none⟩) 0 0).ownBlock ≠ none from (by simp [Value.ownBlock])))) (by simp; omega)).mono ?_; rintro e w4 ⟨rfl, ho4, hg4⟩))
  go_ret
  refine .mk' (by simpa [bothL] using ho4) ?_
  exact (hbn.trans (hb1.trans ((hb2.mono (by have := hb1.size; omega)).trans hb3))).trans ((Below.refl _ _).grown hg4 (by have := hb1.size; have := hb2.size; have := hb3.size; omega) fun k hk => (ho3.lt k hk).1)

/-- 's[:k]' of a slice that reads. -/
theorem ints_to {w : World} {n c : Nat} {A : Option Addr} {l : List Int} (h : Ints w (.slice A n c) l) (hn : n = l.length) (k : Nat) (hk : k ≤ n) :
    ∃ A', (∀ W, (Instr.slice 22 (.slice A n c) none (some (.int .i64 (k : Int))) none).run Try.prog W = .ok (.slice A' k c) W) ∧ ∀ W, Ints W (.slice A n c) l → Ints W (.slice A' k c) (l.take k) := by
  have hnc : n ≤ c := by
    obtain ⟨A1, c1, e, h1, h2, _⟩ := h
    simp only [Value.slice.injEq] at e
    omega
  refine ⟨if c = 0 then A else A.map (·.add (0 * 1)), fun W => ?_, fun W hW => ?_⟩
  · rw [run_slice_h W 22 _ n c under_ints .i64 (k : Int) (by omega) (by omega), size_int64]
    simp [sliced, Result.andThen]
  · obtain ⟨A1, c1, e, h1, h2, h3⟩ := hW
    simp only [Value.slice.injEq] at e
    obtain ⟨rfl, e2, rfl⟩ := e
    refine ⟨_, c, by rw [List.length_take, Nat.min_eq_left (by omega)], by rw [List.length_take]; omega, h2, fun j hj => ?_⟩
    have hj' : j < k := by rw [List.length_take] at hj; omega
    obtain ⟨ad, rfl, hc⟩ := h3 j (by omega)
    refine ⟨ad.add (0 * 1), by rw [if_neg (by omega)]; rfl, ?_⟩
    rw [Go.Deep.add_add, show 0 * 1 + j = j by omega, hc]
    simp [ix, List.getElem?_take, hj']
/-- 's[k:]' of a slice that reads. -/
theorem ints_from {w : World} {n c : Nat} {A : Option Addr} {l : List Int} (h : Ints w (.slice A n c) l) (hn : n = l.length) (k : Nat) (hk : k ≤ n) :
    ∃ A' c', (∀ W, (Instr.slice 22 (.slice A n c) (some (.int .i64 (k : Int))) none none).run Try.prog W = .ok (.slice A' (n - k) c') W) ∧ ∀ W, Ints W (.slice A n c) l → Ints W (.slice A' (n - k) c') (l.drop k) := by
  have hnc : n ≤ c := by
    obtain ⟨A1, c1, e, h1, h2, _⟩ := h
    simp only [Value.slice.injEq] at e
    omega
  refine ⟨if c = k then A else A.map (·.add (k * 1)), c - k, fun W => ?_, fun W hW => ?_⟩
  · rw [run_slice_l W 22 _ n c under_ints .i64 (k : Int) (by omega) (by omega), size_int64]
    simp [sliced, Result.andThen]
  · obtain ⟨A1, c1, e, h1, h2, h3⟩ := hW
    simp only [Value.slice.injEq] at e
    obtain ⟨rfl, e2, rfl⟩ := e
    refine ⟨_, c - k, by rw [List.length_drop, hn], by rw [List.length_drop]; omega, by omega, fun j hj => ?_⟩
    rw [List.length_drop] at hj
    obtain ⟨ad, rfl, hc⟩ := h3 (k + j) (by omega)
    refine ⟨ad.add (k * 1), by rw [if_neg (by omega)]; rfl, ?_⟩
    rw [Go.Deep.add_add, show k * 1 + j = k + j by omega, hc]
    simp [ix]

set_option maxHeartbeats 1000000 in
theorem l1Into_any (B : Nat) (v : Value) (l : List Int) (x : Int) (w : World) (hown : OwnInts w B v l) (hB : B ≤ w.heap.size) (hl : l.length ≤ 1048576) :
    Calls Try.prog 129 #[v, .int .i64 x] w fun e w' => ∃ u, e = .returned u ∧ OwnInts w' B u (intoL l x) ∧ Below w.heap.size w w' := by
  have hv := hown.ints
  obtain ⟨A, c, rfl, hlc, hcm⟩ := hv.form
  have hsp := spot_le l x
  obtain ⟨A1, hto, hI1⟩ := ints_to hv rfl (spot l x) hsp
  obtain ⟨A2, c2, hfr, hI2⟩ := ints_from hv rfl (spot l x) hsp
  have HL := Lib.hid (show intoL l x = if spot l x < l.length ∧ ix l (spot l x) = x then l else l.take (spot l x) ++ [x] ++ l.drop (spot l x) from rfl)
  generalize hR : intoL l x = R at *
  clear hR
  go_enter Try.func129, Try.ntmps129
  go_wp2
  go_loopw [5] (fun i wr => ∃ k : Nat, k ≤ spot l x ∧ i = .int .i64 k ∧ wr = w) (fun i _ => l.length - (intOf i).toNat)
  case atStart => exact ⟨0, Nat.zero_le _, rfl, rfl⟩
  case round =>
    obtain ⟨k, hk, rfl, hw⟩ := hrel
    subst hw
    by_cases hlt : k < spot l x
    · have hx := spot_lt hlt
      obtain ⟨a1, rfl, hc⟩ := SlF.at_ hv (show k < l.length by omega)
      go_wp2
      exact ⟨⟨k + 1, by omega, by go_num, by trivial⟩, by simp [intOf]; omega⟩
    · obtain rfl : k = spot l x := by omega
      clear hlt hk
      by_cases hlen : spot l x < l.length
      · have hge := spot_ge hlen
        generalize spot l x = k at *
        obtain ⟨a1, rfl, hc⟩ := SlF.at_ hv hlen
        by_cases hx : ix l k = x
        · go_wp2
          go_ret
          rw [HL.out, if_pos ⟨hlen, hx⟩]
          exact ⟨_, rfl, hown, Below.refl _ _⟩
        · go_wp2_with (first
            | (go_at_call 140; refine (l1Copy_any _ _ _ (hI1 _ hv) (by simp; omega)).mono ?_; rintro e w1 ⟨v1, rfl, ho1, hb1⟩)
            | (at_builtin; refine append_int _ rfl (.tmp 37) (.tmp 39) rfl wr.heap.size v1 (l.take k) rfl ho1 _ rfl (by simp; omega) hb1.size ?_; intro v2 w2 ho2 hb2 hg2 hl2)
            | (at_builtin; refine append_ints _ rfl (.tmp 41) (.tmp 44) rfl wr.heap.size v2 (l.take k ++ [x]) rfl ho2 _ (l.drop k) rfl (hI2 _ (hv.kept (Kept.of (hb1.trans hb2)))) (by simp; omega) (by have := hb1.size; have := hb2.size; omega) ?_; intro v3 w3 ho3 hb3 hg3 hl3))
          go_ret
          rw [HL.out, if_neg (by rintro ⟨h1, h2⟩; first | exact hx h2 | exact hlen h1)]
          exact ⟨_, rfl, ho3.more hB, hb1.trans (hb2.trans hb3)⟩
      · generalize spot l x = k at *
        · go_wp2_with (first
            | (go_at_call 140; refine (l1Copy_any _ _ _ (hI1 _ hv) (by simp; omega)).mono ?_; rintro e w1 ⟨v1, rfl, ho1, hb1⟩)
            | (at_builtin; refine append_int _ rfl (.tmp 37) (.tmp 39) rfl wr.heap.size v1 (l.take k) rfl ho1 _ rfl (by simp; omega) hb1.size ?_; intro v2 w2 ho2 hb2 hg2 hl2)
            | (at_builtin; refine append_ints _ rfl (.tmp 41) (.tmp 44) rfl wr.heap.size v2 (l.take k ++ [x]) rfl ho2 _ (l.drop k) rfl (hI2 _ (hv.kept (Kept.of (hb1.trans hb2)))) (by simp; omega) (by have := hb1.size; have := hb2.size; omega) ?_; intro v3 w3 ho3 hb3 hg3 hl3))
          go_ret
          rw [HL.out, if_neg (by rintro ⟨h1, h2⟩; first | exact hx h2 | exact hlen h1)]
          exact ⟨_, rfl, ho3.more hB, hb1.trans (hb2.trans hb3)⟩


theorem len256 {s : List Int} (h : isSetB s 256 = true) : s.length ≤ 256 := by
  rcases IsSet.length (isSetB_iff.1 h) with rfl | h2
  · simp
  · omega
theorem bothOkB_iff {a b : List Int} : bothOkB a b = true ↔ isSetB a 256 = true ∧ isSetB b 256 = true := by
  rcases both_cases (a := a) (b := b) with ⟨h1, h2, h⟩ | ⟨h1, h2, h⟩ | ⟨h1, h⟩ <;> simp [h, h1, *]
theorem BothOf_bulk (a b : List Int) : (BothOf a b).length ≤ 1048576 := by
  by_cases h : bothOkB a b = true
  · have := BothOf_len a b
    have := len256 (bothOkB_iff.1 h).1
    have := len256 (bothOkB_iff.1 h).2
    omega
  · have e : BothOf a b = [] := if_neg h
    rw [e]; simp
theorem implBothOf_any (v : Value) (a : List Int) (u : Value) (b : List Int) (w : World) (hv : Ints w v a) (hu : Ints w u b) : Calls Try.prog 52 #[v, u] w (RetInts w (BothOf a b)) := by
  rcases both_cases (a := a) (b := b) with ⟨h1, h2, h⟩ | ⟨h1, h2, h⟩ | ⟨h1, h⟩
  · have hl : BothOf a b = bothL a b := if_pos h
    have hr : Rising a := (isSetB_iff.1 h1).rising
    have hl1 : a.length ≤ 256 := len256 h1
    have hl2 : b.length ≤ 256 := len256 h2
    rw [hl]
    clear hl h
    go_enter Try.func52, Try.ntmps52
    go_wp2_with fail
    refine (isSet_any v a 256 _ hv).mono ?_
    rintro e w' ⟨rfl, hw⟩
    subst w'
    go_wp2_with fail
    refine (isSet_any u b 256 _ hu).mono ?_
    rintro e w' ⟨rfl, hw⟩
    subst w'
    go_wp2_with fail
    refine (bothOf_any v u a b _ hv hu hr (by omega) (by omega)).mono ?_
    rintro e w' ⟨r, rfl, ho, hb⟩
    go_wp2
    go_ret
    exact .mk' ho hb
  · have hl : BothOf a b = [] := if_neg (by rw [h]; simp)
    rw [hl]
    clear hl h
    go_enter Try.func52, Try.ntmps52
    go_wp2_with fail
    refine (isSet_any v a 256 _ hv).mono ?_
    rintro e w' ⟨rfl, hw⟩
    subst w'
    go_wp2_with fail
    refine (isSet_any u b 256 _ hu).mono ?_
    rintro e w' ⟨rfl, hw⟩
    subst w'
    go_wp2
    go_ret
    exact .mk' (OwnInts.nil _ _) (Below.refl _ _)
  · have hl : BothOf a b = [] := if_neg (by rw [h]; simp)
    rw [hl]
    clear hl h
    go_enter Try.func52, Try.ntmps52
    go_wp2_with fail
    refine (isSet_any v a 256 _ hv).mono ?_
    rintro e w' ⟨rfl, hw⟩
    subst w'
    go_wp2
    go_ret
    exact .mk' (OwnInts.nil _ _) (Below.refl _ _)
end Go.Proofs.Ytpnophmanpfejaa
