/- The walks of RegionOf, and its law. -/
import Derived.Test.YtmkmghjmfaoobaaPkA
import Derived.Test.YtmkmghjmfaoobaaPkB
namespace Go.Proofs.Ytmkmghjmfaoobaa
set_option linter.unusedSimpArgs false
set_option linter.unusedVariables false
open Go.RowKit

/-- The places below k at which l holds x. -/
def placesTo (l : List Int) (x : Int) (k : Nat) : List Int := (upFrom 0 k).filter fun v => decide (ix l v.toNat = x)
def places (l : List Int) (x : Int) : List Int := placesTo l x l.length
theorem placesTo_succ (l : List Int) (x : Int) (k : Nat) : placesTo l x (k + 1) = placesTo l x k ++ if ix l k = x then [(k : Int)] else [] := by
  unfold placesTo
  rw [upFrom_snoc, List.filter_append]
  congr 1
  by_cases h : ix l k = x <;> simp [h]
theorem placesTo_len (l : List Int) (x : Int) (k : Nat) : (placesTo l x k).length ≤ k := by
  have := List.length_filter_le (fun v => decide (ix l v.toNat = x)) (upFrom 0 k)
  rw [length_upFrom] at this
  exact this
/-- The vertices that who wins. -/
def regionOf (a : TwoD) (who : Int) : List Int := if a.fst.length ≤ 256 then places a.fst who else []
theorem regionOf_len (a : TwoD) (who : Int) : (regionOf a who).length ≤ 256 := by
  unfold regionOf
  split
  · have := placesTo_len a.fst who a.fst.length; unfold places; omega
  · simp

set_option maxHeartbeats 1000000 in
theorem implRegionOf_any (v : Value) (a : TwoD) (who : Int) (w : World) (hv : IsTwo w v a) :
    Calls Try.prog 61 #[v, .int .i64 who] w (RetInts w (regionOf a who)) := by
  obtain ⟨o, n, rfl, ho, hn⟩ := hv
  obtain ⟨A, c, rfl, hlc, hcm⟩ := ho.form
  have hb : Below w.heap.size w (w.alloc (.cells #[.slice A a.fst.length c, n] 51)) := (Below.refl _ _).alloc (Nat.le_refl _) _
  have hb1 := hb
  have hX := Arr.new w 51 [.slice A a.fst.length c, n]
  obtain ⟨hown, hb2⟩ := new_ints (w.alloc (.cells #[.slice A a.fst.length c, n] 51))
  replace hX := hX.below hb2 hX.lt
  replace hb := hb.trans (hb2.mono (by simp))
  have hown0 := hown.more (B' := w.heap.size) (by simp)
  by_cases h : a.fst.length ≤ 256
  · have hres : regionOf a who = places a.fst who := if_pos h
    rw [hres]
    clear hres
    go_enter Try.func61, Try.ntmps61
    go_wp2
    have hsz : (w.alloc (.cells #[.slice A a.fst.length c, n] 51)).heap.size = w.heap.size + 1 := by simp
    rw [hsz] at hown hb2
    generalize (w.alloc (.cells #[.slice A a.fst.length c, n] 51)).alloc (.cells #[] 2) = w0 at *
    clear hb2 hsz hown0 hb1
    have hx0 := hX.lt
    go_loopw [5, 16] (fun v i wr => ∃ k : Nat, k ≤ a.fst.length ∧ i = .int .i64 k ∧ OwnInts wr (w.heap.size + 1) v (placesTo a.fst who k) ∧ Below (w.heap.size + 1) w0 wr) (fun _ i _ => a.fst.length - (intOf i).toNat)
    case atStart => exact ⟨0, Nat.zero_le _, rfl, hown, Below.refl _ _⟩
    case round =>
      obtain ⟨k, hk, rfl, hown, hbr⟩ := hrel
      have hXr := hX.below hbr (Nat.lt_succ_self _)
      have hc0 := hXr.c0
      have hlen := placesTo_len a.fst who k
      have hbs : w.heap.size + 1 ≤ wr.heap.size := Nat.le_trans hx0 hbr.size
      have hbw : Below w.heap.size w wr := hb.trans (hbr.mono (by omega))
      by_cases hlt : k < a.fst.length
      · obtain ⟨a1, rfl, hc⟩ := (ho.kept (Kept.of hbw)).at_ hlt
        have hsc := placesTo_succ a.fst who k
        by_cases g : ix a.fst k = who
        · rw [if_pos g] at hsc
          have hd : (ix a.fst k == who) = true := by simpa using g
          have Hs := Lib.hid hsc
          clear hsc g
          go_wp2_with (at_builtin; refine append_int _ rfl (.tmp 24) (.tmp 26) rfl (w.heap.size + 1) u5 (placesTo a.fst who k) rfl hown _ rfl (by omega) hbs ?_; intro v1 w1 ho1 hb1 hg1 hl1)
          exact ⟨⟨k + 1, by omega, by go_num, by rw [Hs.out]; exact ho1, hbr.trans hb1⟩, by simp [intOf]; omega⟩
        · rw [if_neg g, List.append_nil] at hsc
          have hd : (ix a.fst k == who) = false := by simpa using g
          have Hs := Lib.hid hsc
          clear hsc g
          go_wp2
          exact ⟨⟨k + 1, by omega, by go_num, by rw [Hs.out]; exact hown, hbr⟩, by simp [intOf]; omega⟩
      · obtain rfl : k = a.fst.length := by omega
        go_wp2
        go_ret
        exact .mk' (hown.more (by omega)) hbw
  · have hres : regionOf a who = [] := if_neg h
    rw [hres]
    clear hres
    go_enter Try.func61, Try.ntmps61
    go_wp2
    go_ret
    exact .mk' (OwnInts.nil _ _) hb1
end Go.Proofs.Ytmkmghjmfaoobaa
