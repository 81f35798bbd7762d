/- The walk of the reference's l6Edges: rows that are the arena's own or made anew. -/
import Derived.Test.YtmkmghjmfaoobaaPkF
import Derived.Test.YtmkmghjmfaoobaaPkA
namespace Go.Proofs.Ytmkmghjmfaoobaa
set_option linter.unusedSimpArgs false
set_option linter.unusedVariables false
open Go.RowKit

/-- A slice of rows of the call's own, from block B on; each row reads already in w0, or is one new element. -/
structure Lent (w0 : World) (B : Nat) (w : World) (v : Value) (vs : List Value) (ll : List (List Int)) : Prop where
  len : vs.length = ll.length
  own : w.ownsRow B 22 1 v ll.length vs
  row : ∀ k, k < ll.length → Ints w0 (vx vs k) (rx ll k) ∨ ∃ (G : Nat) (x : Int), B ≤ G ∧ G < w.heap.size ∧ v.ownBlock ≠ some G ∧ vx vs k = .slice (some ⟨G, 0, none⟩) 1 1 ∧ rx ll k = [x] ∧ IArr w G [x]
theorem vx_snoc_l {vs : List Value} {y : Value} {k : Nat} (hk : k < vs.length) : vx (vs ++ [y]) k = vx vs k := by
  rw [vx_lt (by simp; omega), vx_lt (by omega), List.getElem_append_left (by omega)]
theorem rx_snoc_l {ll : List (List Int)} {l : List Int} {k : Nat} (hk : k < ll.length) : rx (ll ++ [l]) k = rx ll k := by
  rw [rx_lt (by simp; omega), rx_lt hk, List.getElem_append_left hk]
theorem Lent.snoc {w0 w w' : World} {B : Nat} {v v' y : Value} {vs : List Value} {ll : List (List Int)} {l : List Int} (h : Lent w0 B w v vs ll)
    (hy : Ints w0 y l ∨ ∃ (G : Nat) (x : Int), B ≤ G ∧ G < w'.heap.size ∧ v'.ownBlock ≠ some G ∧ y = .slice (some ⟨G, 0, none⟩) 1 1 ∧ l = [x] ∧ IArr w' G [x])
    (hown : w'.ownsRow B 22 1 v' (ll.length + 1) (vs ++ [y])) (hg : w.grownBy w' v.ownBlock) (hd : v'.ownBlock = v.ownBlock ∨ ∃ m, v'.ownBlock = some m ∧ w.heap.size ≤ m) : Lent w0 B w' v' (vs ++ [y]) (ll ++ [l]) := by
  have hl := h.len
  refine ⟨by simp [hl], by simpa using hown, fun k hk => ?_⟩
  by_cases e : k = ll.length
  · subst e
    have h1 : vx (vs ++ [y]) ll.length = y := by rw [vx_lt (by simp; omega), List.getElem_append_right (by omega)]; simp [hl]
    have h2 : rx (ll ++ [l]) ll.length = l := by rw [rx_lt (by simp)]; simp
    rw [h1, h2]
    exact hy
  · have hk' : k < ll.length := by simp at hk; omega
    rw [vx_snoc_l (by omega), rx_snoc_l hk']
    rcases h.row k hk' with h1 | ⟨G, x, h1, h2, h3, h4, h5, h6⟩
    · exact .inl h1
    · refine .inr ⟨G, x, h1, Nat.lt_of_lt_of_le h2 hg.size, ?_, h4, h5, h6.heap' (hg.block G h2 fun e => h3 e.symm)⟩
      rcases hd with hd | ⟨m, hd, hm⟩
      · rw [hd]; exact h3
      · rw [hd]; intro e; have := Option.some.inj e; omega
theorem Lent.rows {w0 w W : World} {B : Nat} {v : Value} {vs : List Value} {ll : List (List Int)} (h : Lent w0 B w v vs ll) (hk : Kept w0 W) (hh : ∀ b, B ≤ b → b < w.heap.size → W.heap[b]? = w.heap[b]?) : Rows W v ll := by
  have hown : W.ownsRow B 22 1 v ll.length vs := by
    refine ⟨h.own.1, ?_⟩
    rcases h.own.2 with h1 | ⟨g, cap, cur, rfl, hB, hg, rest⟩
    · exact .inl h1
    · exact .inr ⟨g, cap, cur, rfl, hB, (hh g hB (Array.getElem?_eq_some_iff.1 hg).1).trans hg, rest⟩
  refine ⟨vx vs, (SlF.of_own hown).congr fun k hk => rfl, fun k hkk => ?_⟩
  rcases h.row k hkk with h1 | ⟨G, x, h1, h2, h3, h4, h5, h6⟩
  · exact h1.kept hk
  · rw [h4, h5]
    exact (h6.heap' (hh G h1 h2)).one_ints
theorem fixTo_take {a : ArenaD} {plan : List Int} {k : Nat} (hk : k < a.next.length) : (fixTo a plan a.next.length).take (k + 1) = (fixTo a plan a.next.length).take k ++ [fixAt a plan k] := by
  have h1 : k < (fixTo a plan a.next.length).length := by simpa using hk
  rw [List.take_succ_eq_append_getElem h1]
  congr 2
  have := rx_fixTo (a := a) (plan := plan) (k := a.next.length) hk
  rw [if_pos hk, rx_lt h1] at this
  exact this

/-- append_one, where the walk has reckoned the place of the new cell. -/
theorem append_oneK {ops : Array Oper} {rest : List Oper} {o : Oper} {a : Act} {Q : Exit → Act → World → Prop} {t e : TypeId} {z : Value} (E : Elem t e z) (w0 : World) (hgd : o.guard = none) (s x : Operand)
    (ho : o.op = .call { callee := .builtin .append, args := #[s, x], argTypes := #[t, t] })
    (B : Nat) (v : Value) (n : Nat) (xs : List Value) (hs : a.eval s = v) (hown : w0.ownsRow B e 1 v n xs) (y : Value) (hy : y.oneCell' = true) (H : Nat) (hH : w0.heap.size = H)
    (hx : a.eval x = .slice (some ⟨H, 0, none⟩) 1 1) (hn : n ≤ 1099511627776) (hB : B ≤ w0.heap.size)
    (h : ∀ v' w', w'.ownsRow B e 1 v' (n + 1) (xs ++ [y]) → w0.grownBy w' v.ownBlock → (v'.ownBlock = v.ownBlock ∨ v'.ownBlock = some (w0.heap.size + 1)) → wpList Try.prog ops Q rest (a.put o.dst v') w') :
    wpList Try.prog ops Q (o :: rest) a (w0.alloc (.cells #[y] e)) := by
  subst hH
  exact append_one E w0 hgd s x ho B v n xs hs hown y hy hx hn hB h

end Go.Proofs.Ytmkmghjmfaoobaa
