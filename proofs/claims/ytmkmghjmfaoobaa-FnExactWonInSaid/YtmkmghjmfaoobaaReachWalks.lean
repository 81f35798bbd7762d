/- The walks of ReachOf and what it calls, the program's and the reference's. Conditions: the lengths; the arena is valid. Printed by gen_reach.py. -/
import Derived.Test.YtmkmghjmfaoobaaQueue
import Derived.Test.YtmkmghjmfaoobaaPkC
import Derived.Test.YtmkmghjmfaoobaaPkB
import Derived.Deep.LoopGhost
namespace Go.Proofs.Ytmkmghjmfaoobaa
set_option linter.unusedSimpArgs false
set_option linter.unusedVariables false
open Go.RowKit

theorem OwnBools.form {w : World} {B : Nat} {v : Value} {l : List Bool} (h : OwnBools w B v l) (hl : 0 < l.length) : ∃ g cap, v = .slice (some ⟨g, 0, none⟩) l.length cap ∧ B ≤ g ∧ g < w.heap.size := by
  rcases h.2 with ⟨rfl, h2⟩ | ⟨g, cap, cur, rfl, hB, hg, hnc, hcm, _⟩
  · omega
  · exact ⟨g, cap, rfl, hB, (Array.getElem?_eq_some_iff.1 hg).1⟩
theorem OwnBools.set_ {w : World} {B g n cap : Nat} {l : List Bool} (h : OwnBools w B (.slice (some ⟨g, 0, none⟩) n cap) l) (hn : n = l.length) (k : Nat) (x : Bool) :
    OwnBools (w.setCell ⟨g, k, none⟩ (.bool x)) B (.slice (some ⟨g, 0, none⟩) n cap) (l.set k x) := by
  subst hn
  have := World.ownsRow.stored h k (.bool x)
  unfold OwnBools
  rw [List.length_set, List.map_set]
  exact this.1
theorem OwnBools.frozen {w : World} {B g n cap : Nat} {l : List Bool} (h : OwnBools w B (.slice (some ⟨g, 0, none⟩) n cap) l) (hn : n = l.length) (k : Nat) : w.frozen? ⟨g, k, none⟩ = false := by
  subst hn
  exact World.ownsRow.frozenAt h k
theorem OwnBools.cell {w : World} {B g n cap : Nat} {l : List Bool} (h : OwnBools w B (.slice (some ⟨g, 0, none⟩) n cap) l) {k : Nat} (hk : k < l.length) : w.cell? ⟨g, k, none⟩ = some (.bool (bx l k)) := by
  obtain ⟨ad, e, hc⟩ := h.bools.at_ hk
  injection e with e
  subst e
  rwa [add_head] at hc
theorem Arr.kept' {w w' : World} {g : Nat} {e : TypeId} {xs : List Value} {row : Option Nat} (h : Arr w g e xs) (hg : w.grownBy w' row) (hne : some g ≠ row) : Arr w' g e xs := (hg.block g h.lt hne).trans h
theorem run_eql_bools_nil (W : World) (A : Option Addr) (n c : Nat) : (binOp .eql 73 (.slice A n c) (.slice none 0 0)).run Try.prog W = .ok (.bool A.isNone) W := by
  have h : ∀ d : Nat, (Op.equalIn (d + 1) 73 (.slice A n c) (.slice none 0 0)).run Try.prog W = .ok A.isNone W := fun d => by
    cases A <;> simp [Op.equalIn, run_underlying Try.underlying73]
  have h2 : (Op.equal 73 (.slice A n c) (.slice none 0 0)).run Try.prog W = .ok A.isNone W := h 9999
  simp [binOp, h2]
theorem ArenaOk.vert_next' {a : ArenaD} (h : ArenaOk a) {v : Nat} (hv : v < a.owner.length) {t : Nat} (ht : t < (rx a.next v).length) : ∃ j : Nat, ix (rx a.next v) t = (j : Int) ∧ j < a.owner.length := (h.set hv).vert t ht
theorem new_bools (w : World) : OwnBools (w.alloc (.cells #[] 4)) w.heap.size (.slice (some ⟨w.heap.size, 0, none⟩) 0 0) [] ∧ Below w.heap.size w (w.alloc (.cells #[] 4)) :=
  ⟨World.ownsRow_lit w #[] 0 (Nat.le_refl _) (by simp [maxLen]) (by simp), (Below.refl _ _).alloc (Nat.le_refl _) _⟩


set_option maxHeartbeats 1000000 in
theorem listOf_any (v : Value) (m : List Bool) (w : World) (hv : Bools w v m) (hm : m.length ≤ 1048576) :
    Calls Try.prog 96 #[v] w (RetInts w (markedL m)) := by
  obtain ⟨A, c, rfl, hlc, hcm⟩ := hv.form
  obtain ⟨hown, hbn⟩ := new_ints w
  have Hall := Lib.hid (show markedTo m m.length = markedL m from rfl)
  go_enter Try.func96, Try.ntmps96
  go_wp2
  generalize w.alloc (.cells #[] 2) = w0 at *
  go_loopw [3, 9] (fun v i wr => ∃ k : Nat, k ≤ m.length ∧ i = .int .i64 k ∧ OwnInts wr w.heap.size v (markedTo m k) ∧ Below w.heap.size w wr) (fun _ i _ => m.length - (intOf i).toNat)
  case atStart => exact ⟨0, Nat.zero_le _, rfl, hown, hbn⟩
  case round =>
    obtain ⟨k, hk, rfl, hown, hbw⟩ := hrel
    have hbs := hbw.size
    by_cases hlt : k < m.length
    · obtain ⟨a1, rfl, hc1⟩ := (hv.kept (Kept.of hbw)).at_ hlt
      have hlen := markedTo_len m k
      have Hs := Lib.hid (markedTo_succ m k)
      cases e : bx m k
      · rw [e] at hc1 Hs
        clear e
        go_wp2
        exact ⟨⟨k + 1, by omega, by go_num, by rw [Hs.out]; simpa using hown, hbw⟩, by simp [intOf]; omega⟩
      · rw [e] at hc1 Hs
        clear e
        go_wp2_with (at_builtin; refine append_int _ rfl (.tmp 15) (.tmp 17) rfl w.heap.size u3 _ rfl hown (k : Int) rfl (by omega) hbs ?_; intro v1 w3 ho1 hb1 hg1 hl1)
        exact ⟨⟨k + 1, by omega, by go_num, by rw [Hs.out]; simpa using ho1, hbw.trans hb1⟩, by simp [intOf]; omega⟩
    · obtain rfl : k = m.length := by omega
      rw [Hall.out] at hown
      go_wp2
      go_ret
      exact .mk' hown hbw

end Go.Proofs.Ytmkmghjmfaoobaa
