/- The walks of HasIn, LessOf and PartIn, of the program and of the reference. -/
import Derived.Test.YtpnophmanpfejaaPkB
namespace Go.Proofs.Ytpnophmanpfejaa
set_option linter.unusedSimpArgs false
set_option linter.unusedVariables false
open Go.RowKit

def hasInB (a : List Int) (n : Int) : Bool := isSetB a 256 && hasB a n
def partInB (a b : List Int) : Bool := bothOkB a b && decide (lessL a b = [])

theorem specHasIn_any (v : Value) (a : List Int) (n : Int) (w : World) (hv : Ints w v a) :
    Calls Try.prog 58 #[v, .int .i64 n] w fun e w' => e = .returned (.bool (hasInB a n)) ∧ ∃ q, w' = w.drewN q := by
  by_cases h : isSetB a 256 = true
  · have h256 : setOkB a 256 = true := by rw [setOk256, h]
    have hb : hasInB a n = hasB a n := by simp [hasInB, h]
    rw [hb]
    clear hb h
    go_enter Try.func58, Try.ntmps58
    go_wp2_with fail
    refine (specSetOk_any v a 256 _ hv).mono ?_
    rintro e w' ⟨rfl, q, rfl⟩
    go_wp2_with fail
    refine (l1Has_any v a n _ (hv.kept (Kept.drewN _ _))).mono ?_
    rintro e w' ⟨rfl, rfl⟩
    go_wp2
    go_ret
    exact ⟨rfl, q, rfl⟩
  · have h256 : setOkB a 256 = false := by rw [setOk256]; simpa using h
    have hb : hasInB a n = false := by simp [hasInB, h]
    rw [hb]
    clear hb h
    go_enter Try.func58, Try.ntmps58
    go_wp2_with fail
    refine (specSetOk_any v a 256 _ hv).mono ?_
    rintro e w' ⟨rfl, q, rfl⟩
    go_wp2
    go_ret
    exact ⟨rfl, q, rfl⟩

theorem HasIn_any (v : Value) (a : List Int) (n : Int) (w : World) (hv : Ints w v a) :
    Calls Try.prog 57 #[v, .int .i64 n] w fun e w' => e = .returned (.bool (hasInB a n)) ∧ w' = w := by
  by_cases h : isSetB a 256 = true
  · have hb : hasInB a n = hasB a n := by simp [hasInB, h]
    rw [hb]
    clear hb
    go_enter Try.func57, Try.ntmps57
    go_wp2_with fail
    refine (isSet_any v a 256 _ hv).mono ?_
    rintro e w' ⟨rfl, hw⟩
    subst w'
    go_wp2_with fail
    refine (Contains_any v a n _ hv).mono ?_
    rintro e w' ⟨rfl, hw⟩
    subst w'
    go_wp2
    go_ret
    exact ⟨rfl, rfl⟩
  · have hb : hasInB a n = false := by simp [hasInB, h]
    rw [hb]
    clear hb
    rw [Bool.not_eq_true] at h
    go_enter Try.func57, Try.ntmps57
    go_wp2_with fail
    refine (isSet_any v a 256 _ hv).mono ?_
    rintro e w' ⟨rfl, hw⟩
    subst w'
    go_wp2
    go_ret
    exact ⟨rfl, rfl⟩

theorem len_beq_zero (l : List Int) : ((l.length : Int) == 0) = decide (l = []) := by
  rcases l with _ | ⟨x, l⟩
  · rfl
  · simp only [List.length_cons]
    rw [show decide (x :: l = []) = false from by simp, beq_eq_false_iff_ne]
    omega

theorem specPartIn_any (v u : Value) (a b : List Int) (w : World) (hv : Ints w v a) (hu : Ints w u b) (hla : a.length ≤ 1099511627776) :
    Calls Try.prog 69 #[v, u] w fun e w' => e = .returned (.bool (partInB a b)) ∧ Below w.heap.size w w' := by
  by_cases h : bothOkB a b = true
  · have hd : partInB a b = ((lessL a b).length == (0 : Int)) := by rw [len_beq_zero]; simp [partInB, h]
    have hl : LessOf a b = lessL a b := if_pos h
    rw [hd]
    clear hd
    go_enter Try.func69, Try.ntmps69
    go_wp2_with fail
    refine (l2Both_any v u a b _ hv hu).mono ?_
    rintro e w' ⟨rfl, q, rfl⟩
    go_wp2_with fail
    refine (specLessOf_any v u a b _ (hv.kept (Kept.drewN _ _)) (hu.kept (Kept.drewN _ _)) hla).mono ?_
    rintro e w' ⟨r, rfl, ho, hb⟩
    rw [hl] at ho
    obtain ⟨A, c, rfl⟩ := ints_of_ret ho
    clear hl
    go_wp2
    go_ret
    exact ⟨rfl, below_of_drewN hb⟩
  · have hd : partInB a b = false := by simp [partInB, h]
    rw [hd]
    clear hd
    rw [Bool.not_eq_true] at h
    go_enter Try.func69, Try.ntmps69
    go_wp2_with fail
    refine (l2Both_any v u a b _ hv hu).mono ?_
    rintro e w' ⟨rfl, q, rfl⟩
    go_wp2
    go_ret
    exact ⟨rfl, below_drewN (Below.refl _ _) q⟩

/-- The two tests that LessOf and PartIn begin with. -/
theorem both_cases {a b : List Int} : (isSetB a 256 = true ∧ isSetB b 256 = true ∧ bothOkB a b = true) ∨ (isSetB a 256 = true ∧ isSetB b 256 = false ∧ bothOkB a b = false) ∨ (isSetB a 256 = false ∧ bothOkB a b = false) := by
  unfold bothOkB
  cases isSetB a 256 <;> cases isSetB b 256 <;> simp

theorem implLessOf_any (v u : Value) (a b : List Int) (w : World) (hv : Ints w v a) (hu : Ints w u b) (hla : a.length ≤ 1099511627776) (hlb : b.length ≤ 1099511627776) : Calls Try.prog 54 #[v, u] w (RetInts w (LessOf a b)) := by
  rcases both_cases (a := a) (b := b) with ⟨h1, h2, h⟩ | ⟨h1, h2, h⟩ | ⟨h1, h⟩
  · have hl : LessOf a b = lessL a b := if_pos h
    have hr : Rising b := (isSetB_iff.1 h2).rising
    rw [hl]
    clear hl h
    go_enter Try.func54, Try.ntmps54
    go_wp2_with fail
    refine (isSet_any v a 256 _ hv).mono ?_
    rintro e w' ⟨rfl, hw⟩
    subst w'
    go_wp2_with fail
    refine (isSet_any u b 256 _ hu).mono ?_
    rintro e w' ⟨rfl, hw⟩
    subst w'
    go_wp2_with fail
    refine (lessOf_any v u a b _ hv hu hr hlb hla).mono ?_
    rintro e w' ⟨r, rfl, ho, hb⟩
    go_wp2
    go_ret
    exact .mk' ho hb
  · have hl : LessOf a b = [] := if_neg (by rw [h]; simp)
    rw [hl]
    clear hl h
    go_enter Try.func54, Try.ntmps54
    go_wp2_with fail
    refine (isSet_any v a 256 _ hv).mono ?_
    rintro e w' ⟨rfl, hw⟩
    subst w'
    go_wp2_with fail
    refine (isSet_any u b 256 _ hu).mono ?_
    rintro e w' ⟨rfl, hw⟩
    subst w'
    go_wp2
    go_ret
    exact .mk' (OwnInts.nil _ _) (Below.refl _ _)
  · have hl : LessOf a b = [] := if_neg (by rw [h]; simp)
    rw [hl]
    clear hl h
    go_enter Try.func54, Try.ntmps54
    go_wp2_with fail
    refine (isSet_any v a 256 _ hv).mono ?_
    rintro e w' ⟨rfl, hw⟩
    subst w'
    go_wp2
    go_ret
    exact .mk' (OwnInts.nil _ _) (Below.refl _ _)

theorem PartIn_any (v u : Value) (a b : List Int) (w : World) (hv : Ints w v a) (hu : Ints w u b) (hla : a.length ≤ 1099511627776) (hlb : b.length ≤ 1099511627776) :
    Calls Try.prog 56 #[v, u] w fun e w' => e = .returned (.bool (partInB a b)) ∧ Below w.heap.size w w' := by
  rcases both_cases (a := a) (b := b) with ⟨h1, h2, h⟩ | ⟨h1, h2, h⟩ | ⟨h1, h⟩
  · have hd : partInB a b = ((lessL a b).length == (0 : Int)) := by rw [len_beq_zero]; simp [partInB, h]
    have hr : Rising b := (isSetB_iff.1 h2).rising
    rw [hd]
    clear hd h
    go_enter Try.func56, Try.ntmps56
    go_wp2_with fail
    refine (isSet_any v a 256 _ hv).mono ?_
    rintro e w' ⟨rfl, hw⟩
    subst w'
    go_wp2_with fail
    refine (isSet_any u b 256 _ hu).mono ?_
    rintro e w' ⟨rfl, hw⟩
    subst w'
    go_wp2_with fail
    refine (lessOf_any v u a b _ hv hu hr hlb hla).mono ?_
    rintro e w' ⟨r, rfl, ho, hb⟩
    obtain ⟨A, c, rfl⟩ := ints_of_ret ho
    clear h1 h2
    go_wp2
    go_ret
    exact ⟨rfl, hb⟩
  · have hd : partInB a b = false := by simp [partInB, h]
    rw [hd]
    clear hd h
    go_enter Try.func56, Try.ntmps56
    go_wp2_with fail
    refine (isSet_any v a 256 _ hv).mono ?_
    rintro e w' ⟨rfl, hw⟩
    subst w'
    go_wp2_with fail
    refine (isSet_any u b 256 _ hu).mono ?_
    rintro e w' ⟨rfl, hw⟩
    subst w'
    go_wp2
    go_ret
    exact ⟨rfl, Below.refl _ _⟩
  · have hd : partInB a b = false := by simp [partInB, h]
    rw [hd]
    clear hd h
    go_enter Try.func56, Try.ntmps56
    go_wp2_with fail
    refine (isSet_any v a 256 _ hv).mono ?_
    rintro e w' ⟨rfl, hw⟩
    subst w'
    go_wp2
    go_ret
    exact ⟨rfl, Below.refl _ _⟩
end Go.Proofs.Ytpnophmanpfejaa
