/- The walk of slices.Compare at rows of int64s. No condition. -/
import Derived.Test.YtpnophmanpfejaaCmpPlain
import Derived.Test.YtpnophmanpfejaaPkB
namespace Go.Proofs.Ytpnophmanpfejaa
set_option linter.unusedSimpArgs false
set_option linter.unusedVariables false
open Go.RowKit

theorem cmpNaN_any (x : Int) (w : World) : Calls Try.prog 180 #[.int .i64 x] w fun e w' => e = .returned (.bool false) ∧ w' = w := by
  go_enter Try.func180, Try.ntmps180
  go_wp2
  go_ret
  exact ⟨rfl, rfl⟩
theorem cmpInt_any (x y : Int) (w : World) : Calls Try.prog 179 #[.int .i64 x, .int .i64 y] w fun e w' => e = .returned (.int .i64 (cmpI x y)) ∧ w' = w := by
  have H : Hid (cmpI x y = if x < y then -1 else if y < x then 1 else 0) := Lib.hid rfl
  generalize cmpI x y = c at *
  by_cases h1 : x < y
  · have Hc := Lib.hid (show c = -1 by rw [H.out, if_pos h1])
    clear H
    go_enter Try.func179, Try.ntmps179
    go_wp2_with (go_at_call 180; refine (cmpNaN_any _ _).mono ?_; rintro e w' ⟨rfl, hw⟩; subst hw)
    go_ret
    exact ⟨by rw [Hc.out]; rfl, rfl⟩
  · by_cases h2 : y < x
    · have Hc := Lib.hid (show c = 1 by rw [H.out, if_neg h1, if_pos h2])
      clear H
      go_enter Try.func179, Try.ntmps179
      go_wp2_with (go_at_call 180; refine (cmpNaN_any _ _).mono ?_; rintro e w' ⟨rfl, hw⟩; subst hw)
      go_ret
      exact ⟨by rw [Hc.out]; rfl, rfl⟩
    · have Hc := Lib.hid (show c = 0 by rw [H.out, if_neg h1, if_neg h2])
      clear H
      go_enter Try.func179, Try.ntmps179
      go_wp2_with (go_at_call 180; refine (cmpNaN_any _ _).mono ?_; rintro e w' ⟨rfl, hw⟩; subst hw)
      go_ret
      exact ⟨by rw [Hc.out]; rfl, rfl⟩
set_option maxHeartbeats 1000000 in
theorem Compare_any (v u : Value) (l m : List Int) (w : World) (hv : Ints w v l) (hu : Ints w u m) :
    Calls Try.prog 164 #[v, u] w fun e w' => e = .returned (.int .i64 (cmpL l m)) ∧ w' = w := by
  obtain ⟨A, c, rfl, hlc, hcm⟩ := hv.form
  obtain ⟨A2, c2, rfl, hlc2, hcm2⟩ := hu.form
  have H0 := Lib.hid (show cmpL l m = cmpL (l.drop 0) (m.drop 0) from rfl)
  generalize hR : cmpL l m = R at *
  clear hR
  go_enter Try.func164, Try.ntmps164
  go_wp2
  go_loopw [11] (fun i wr => ∃ k : Nat, k ≤ l.length ∧ i = .int .i64 k ∧ wr = w ∧ k ≤ m.length ∧ Hid (R = cmpL (l.drop k) (m.drop k))) (fun i _ => l.length - (intOf i).toNat)
  case atStart => exact ⟨0, Nat.zero_le _, rfl, rfl, Nat.zero_le _, H0⟩
  case round =>
    obtain ⟨k, hk, rfl, hw, hkm, HR⟩ := hrel
    subst hw
    by_cases hlt : k < l.length
    · obtain ⟨a1, rfl, hc1⟩ := hv.at_ hlt
      by_cases hlm : k < m.length
      · obtain ⟨a2, rfl, hc2⟩ := hu.at_ hlm
        have Hs := Lib.hid (cmpL_step hlt hlm)
        cases hz : decide (cmpI (ix l k) (ix m k) = 0)
        · rw [decide_eq_false_iff_not] at hz
          have Hz := Lib.hid (show R = cmpI (ix l k) (ix m k) by rw [HR.out, Hs.out, if_neg hz])
          have hz' : ¬ cmpI (ix l k) (ix m k) = 0 := hz
          have hcall := fun W => cmpInt_any (ix l k) (ix m k) W
          generalize cmpI (ix l k) (ix m k) = q at *
          go_wp2_with (go_at_call 179; refine (hcall _).mono ?_; rintro e w' ⟨rfl, hw⟩; subst hw)
          go_ret
          exact ⟨by rw [Hz.out]; rfl, rfl⟩
        · rw [decide_eq_true_iff] at hz
          have Hz := Lib.hid (show R = cmpL (l.drop (k + 1)) (m.drop (k + 1)) by rw [HR.out, Hs.out, if_pos hz])
          have hcall : ∀ W, Calls Try.prog 179 #[.int .i64 (ix l k), .int .i64 (ix m k)] W fun e w' => e = .returned (.int .i64 0) ∧ w' = W := fun W => by
            have := cmpInt_any (ix l k) (ix m k) W
            rwa [hz] at this
          clear hz
          go_wp2_with (go_at_call 179; refine (hcall _).mono ?_; rintro e w' ⟨rfl, hw⟩; subst hw)
          exact ⟨⟨k + 1, by omega, by go_num, by trivial, by omega, Hz⟩, by simp [intOf]; omega⟩
      · have Hz := Lib.hid (show R = 1 by rw [HR.out, cmpL_end hlt (by omega)])
        go_wp2
        go_ret
        exact ⟨by rw [Hz.out]; rfl, rfl⟩
    · obtain rfl : k = l.length := by omega
      by_cases hlm : l.length < m.length
      · have Hz := Lib.hid (show R = -1 by rw [HR.out, cmpL_out hlm])
        go_wp2
        go_ret
        exact ⟨by rw [Hz.out]; rfl, rfl⟩
      · have Hz := Lib.hid (show R = 0 by rw [HR.out, cmpL_same (by omega)])
        go_wp2
        go_ret
        exact ⟨by rw [Hz.out]; rfl, rfl⟩
end Go.Proofs.Ytpnophmanpfejaa
