/- The walks of the laws on sets: each returns true and writes nothing that was there. -/
import Derived.Test.YtpagbcegdppibaaSetWalks3
namespace Go.Proofs.Ytpagbcegdppibaa
open Go.RowKit

theorem Below.up {w0 w1 w2 : World} (h : Below w0.heap.size w0 w1) (k : Below w1.heap.size w1 w2) : Below w0.heap.size w0 w2 := h.trans (k.mono h.size)

set_option maxHeartbeats 400000 in
theorem FnExactSetOk_true (v : Value) (l : List Int) (n : Int) (w : World) (hv : Ints w v l) (_ : -9223372036854775808 ≤ n ∧ n ≤ 9223372036854775807) :
    Calls Try.prog 4 #[v, .int .i64 n] w fun e w' => e = .returned (.bool true) ∧ Below w.heap.size w w' := by
  obtain ⟨A, c, rfl, hlc, hcm, hA⟩ := id hv
  clear hA
  by_cases h : l.length ≤ 1048576
  · go_enter Try.func4, Try.ntmps4
    go_wp2_with fail
    refine (toInt64S_any _ l _ hv (by omega)).mono ?_
    rintro e w1 ⟨u1, rfl, ho1, hb1⟩
    go_wp2_with fail
    refine (specSetOk_any u1 l n _ ho1.ints).mono ?_
    rintro e w2 ⟨rfl, q, rfl⟩
    have hb2 := below_drewN hb1 q
    go_wp2_with fail
    refine (toInt64S_any _ l _ (hv.kept (Kept.of hb2)) (by omega)).mono ?_
    rintro e w3 ⟨u3, rfl, ho3, hb3⟩
    replace hb3 := Below.up hb2 hb3
    go_wp2_with fail
    refine (SetOk_any u3 l n _ ho3.ints).mono ?_
    rintro e w4 ⟨rfl, hw⟩
    subst w4
    go_wp2_with fail
    refine (toInt64S_any _ l _ (hv.kept (Kept.of hb3)) (by omega)).mono ?_
    rintro e w5 ⟨u5, rfl, ho5, hb5⟩
    go_wp2_with fail
    refine (eqInt64S_any u3 u5 l l _ (ho3.ints.kept (Kept.of hb5)) ho5.ints).mono ?_
    rintro e w6 ⟨rfl, q6, rfl⟩
    go_wp2
    go_ret
    exact ⟨rfl, below_drewN (Below.up hb3 hb5) q6⟩
  · go_enter Try.func4, Try.ntmps4
    go_wp2
    go_ret
    exact ⟨rfl, Below.refl _ _⟩
end Go.Proofs.Ytpagbcegdppibaa
