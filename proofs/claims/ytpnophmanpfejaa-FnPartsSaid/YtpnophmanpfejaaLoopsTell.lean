/- The walks of the closures of loopsIn that append a vertex to a captured row. Conditions: the row is the call's own and short. Printed by gen_loops.py. -/
import Derived.Test.YtpnophmanpfejaaLoopsPlain
import Derived.Test.YtpnophmanpfejaaReachWalks
namespace Go.Proofs.Ytpnophmanpfejaa
set_option linter.unusedSimpArgs false
set_option linter.unusedVariables false
open Go.RowKit

theorem tell2_any (x : Int) (T B : Nat) (ov : Value) (L : List Int) (w : World) (hT : Arr w T 22 [ov]) (hown : OwnInts w B ov L) (hne : ov.ownBlock ≠ some T) (hL : L.length ≤ 1048576) (hB : B ≤ w.heap.size) (hBT : B ≤ T) :
    Calls Try.prog 161 #[.int .i64 x, .pointer (some ⟨T, 0, none⟩)] w fun e w' => e = .returned (.tuple #[]) ∧ ∃ ov', Arr w' T 22 [ov'] ∧ OwnInts w' B ov' (L ++ [x]) ∧ ov'.ownBlock ≠ some T ∧ (ov'.ownBlock = ov.ownBlock ∨ ov'.ownBlock = some (w.heap.size + 1)) ∧ Chg (fun b => b = T ∨ ov.ownBlock = some b) w w' := by
  have hTl := hT.lt
  have q0 := hT.c0
  obtain ⟨A, c, rfl, _⟩ := hown.ints.form
  go_enter Try.func161, Try.ntmps161
  go_wp2_with (at_builtin; refine append_int _ rfl (.tmp 3) (.tmp 5) rfl B _ L rfl hown x rfl (by omega) hB ?_; intro v1 w8 ho8 hb8 hg8 hl8; obtain ⟨A8, c8, e8, _⟩ := ho8.ints.form; subst e8; have hT8 : Arr w8 T 22 [.slice A L.length c] := hT.kept' hg8 (fun e => hne e.symm); have p0 := hT8.c0; have p1 := hT8.frozen 0)
  rw [List.length_append, List.length_singleton] at ho8 hl8
  have hT9 := hT8.set_ 0 (.slice A8 (L.length + 1) c8)
  have hoT : ∀ b, (Value.slice A8 (L.length + 1) c8).ownBlock = some b → b ≠ T := fun b hb e => by
    rcases hl8 with h | h
    · rw [h] at hb; subst e; exact hne hb
    · rw [h] at hb; simp only [Option.some.injEq] at hb; omega
  have ho9 : OwnInts (w8.setCell ⟨T, 0, none⟩ (.slice A8 (L.length + 1) c8)) B (.slice A8 (L.length + 1) c8) (L ++ [x]) := ((OI.of ho8).heap fun b hb => Below.heap_setCell _ _ _ _ (by show b ≠ T; exact hoT b hb)).1
  have hch : Chg (fun b => b = T ∨ (Value.slice A L.length c).ownBlock = some b) w (w8.setCell ⟨T, 0, none⟩ (.slice A8 (L.length + 1) c8)) :=
    ⟨hg8.os, hg8.tape, hg8.output, by simpa using hg8.size, fun k hk hS => (Below.heap_setCell _ _ _ _ (by show k ≠ T; exact fun e => hS (.inl e))).trans (hg8.block k hk fun e => hS (.inr e.symm))⟩
  go_end0
  exact ⟨rfl, _, hT9, ho9, fun e => hoT T e rfl, hl8, hch⟩
theorem tell3_any (x : Int) (T B : Nat) (ov : Value) (L : List Int) (w : World) (hT : Arr w T 22 [ov]) (hown : OwnInts w B ov L) (hne : ov.ownBlock ≠ some T) (hL : L.length ≤ 1048576) (hB : B ≤ w.heap.size) (hBT : B ≤ T) :
    Calls Try.prog 162 #[.int .i64 x, .pointer (some ⟨T, 0, none⟩)] w fun e w' => e = .returned (.tuple #[]) ∧ ∃ ov', Arr w' T 22 [ov'] ∧ OwnInts w' B ov' (L ++ [x]) ∧ ov'.ownBlock ≠ some T ∧ (ov'.ownBlock = ov.ownBlock ∨ ov'.ownBlock = some (w.heap.size + 1)) ∧ Chg (fun b => b = T ∨ ov.ownBlock = some b) w w' := by
  have hTl := hT.lt
  have q0 := hT.c0
  obtain ⟨A, c, rfl, _⟩ := hown.ints.form
  go_enter Try.func162, Try.ntmps162
  go_wp2_with (at_builtin; refine append_int _ rfl (.tmp 3) (.tmp 5) rfl B _ L rfl hown x rfl (by omega) hB ?_; intro v1 w8 ho8 hb8 hg8 hl8; obtain ⟨A8, c8, e8, _⟩ := ho8.ints.form; subst e8; have hT8 : Arr w8 T 22 [.slice A L.length c] := hT.kept' hg8 (fun e => hne e.symm); have p0 := hT8.c0; have p1 := hT8.frozen 0)
  rw [List.length_append, List.length_singleton] at ho8 hl8
  have hT9 := hT8.set_ 0 (.slice A8 (L.length + 1) c8)
  have hoT : ∀ b, (Value.slice A8 (L.length + 1) c8).ownBlock = some b → b ≠ T := fun b hb e => by
    rcases hl8 with h | h
    · rw [h] at hb; subst e; exact hne hb
    · rw [h] at hb; simp only [Option.some.injEq] at hb; omega
  have ho9 : OwnInts (w8.setCell ⟨T, 0, none⟩ (.slice A8 (L.length + 1) c8)) B (.slice A8 (L.length + 1) c8) (L ++ [x]) := ((OI.of ho8).heap fun b hb => Below.heap_setCell _ _ _ _ (by show b ≠ T; exact hoT b hb)).1
  have hch : Chg (fun b => b = T ∨ (Value.slice A L.length c).ownBlock = some b) w (w8.setCell ⟨T, 0, none⟩ (.slice A8 (L.length + 1) c8)) :=
    ⟨hg8.os, hg8.tape, hg8.output, by simpa using hg8.size, fun k hk hS => (Below.heap_setCell _ _ _ _ (by show k ≠ T; exact fun e => hS (.inl e))).trans (hg8.block k hk fun e => hS (.inr e.symm))⟩
  go_end0
  exact ⟨rfl, _, hT9, ho9, fun e => hoT T e rfl, hl8, hch⟩
end Go.Proofs.Ytpnophmanpfejaa
