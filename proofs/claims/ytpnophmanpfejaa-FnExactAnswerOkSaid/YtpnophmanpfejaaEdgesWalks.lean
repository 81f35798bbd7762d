/- The walk of the reference's l6Edges: rows that are the arena's own or made anew. -/
import Derived.Test.YtpnophmanpfejaaBadPlain
import Derived.Test.YtpnophmanpfejaaAppend
namespace Go.Proofs.Ytpnophmanpfejaa
set_option linter.unusedSimpArgs false
set_option linter.unusedVariables false
open Go.RowKit

/-- A slice of rows of the call's own, from block B on; each row reads already in w0, or is one new element. -/
structure Lent (w0 : World) (B : Nat) (w : World) (v : Value) (vs : List Value) (ll : List (List Int)) : Prop where
  len : vs.length = ll.length
  own : w.ownsRow B 22 1 v ll.length vs
  row : ∀ k, k < ll.length → Ints w0 (vx vs k) (rx ll k) ∨ ∃ (G : Nat) (x : Int), B ≤ G ∧ G < w.heap.size ∧ v.ownBlock ≠ some G ∧ vx vs k = .slice (some ⟨G, 0, none⟩) 1 1 ∧ rx ll k = [x] ∧ IArr w G [x]
theorem vx_snoc_l {vs : List Value} {y : Value} {k : Nat} (hk : k < vs.length) : vx (vs ++ [y]) k = vx vs k := by
  rw [vx_lt (by simp; omega), vx_lt (by omega), List.getElem_append_left (by omega)]
theorem rx_snoc_l {ll : List (List Int)} {l : List Int} {k : Nat} (hk : k < ll.length) : rx (ll ++ [l]) k = rx ll k := by
  rw [rx_lt (by simp; omega), rx_lt hk, List.getElem_append_left hk]
theorem Lent.snoc {w0 w w' : World} {B : Nat} {v v' y : Value} {vs : List Value} {ll : List (List Int)} {l : List Int} (h : Lent w0 B w v vs ll)
    (hy : Ints w0 y l ∨ ∃ (G : Nat) (x : Int), B ≤ G ∧ G < w'.heap.size ∧ v'.ownBlock ≠ some G ∧ y = .slice (some ⟨G, 0, none⟩) 1 1 ∧ l = [x] ∧ IArr w' G [x])
    (hown : w'.ownsRow B 22 1 v' (ll.length + 1) (vs ++ [y])) (hg : w.grownBy w' v.ownBlock) (hd : v'.ownBlock = v.ownBlock ∨ ∃ m, v'.ownBlock = some m ∧ w.heap.size ≤ m) : Lent w0 B w' v' (vs ++ [y]) (ll ++ [l]) := by
  have hl := h.len
  refine ⟨by simp [hl], by simpa using hown, fun k hk => ?_⟩
  by_cases e : k = ll.length
  · subst e
    have h1 : vx (vs ++ [y]) ll.length = y := by rw [vx_lt (by simp; omega), List.getElem_append_right (by omega)]; simp [hl]
    have h2 : rx (ll ++ [l]) ll.length = l := by rw [rx_lt (by simp)]; simp
    rw [h1, h2]
    exact hy
  · have hk' : k < ll.length := by simp at hk; omega
    rw [vx_snoc_l (by omega), rx_snoc_l hk']
    rcases h.row k hk' with h1 | ⟨G, x, h1, h2, h3, h4, h5, h6⟩
    · exact .inl h1
    · refine .inr ⟨G, x, h1, Nat.lt_of_lt_of_le h2 hg.size, ?_, h4, h5, h6.heap' (hg.block G h2 fun e => h3 e.symm)⟩
      rcases hd with hd | ⟨m, hd, hm⟩
      · rw [hd]; exact h3
      · rw [hd]; intro e; have := Option.some.inj e; omega
theorem Lent.rows {w0 w W : World} {B : Nat} {v : Value} {vs : List Value} {ll : List (List Int)} (h : Lent w0 B w v vs ll) (hk : Kept w0 W) (hh : ∀ b, B ≤ b → b < w.heap.size → W.heap[b]? = w.heap[b]?) : Rows W v ll := by
  have hown : W.ownsRow B 22 1 v ll.length vs := by
    refine ⟨h.own.1, ?_⟩
    rcases h.own.2 with h1 | ⟨g, cap, cur, rfl, hB, hg, rest⟩
    · exact .inl h1
    · exact .inr ⟨g, cap, cur, rfl, hB, (hh g hB (Array.getElem?_eq_some_iff.1 hg).1).trans hg, rest⟩
  refine ⟨vx vs, (SlF.of_own hown).congr fun k hk => rfl, fun k hkk => ?_⟩
  rcases h.row k hkk with h1 | ⟨G, x, h1, h2, h3, h4, h5, h6⟩
  · exact h1.kept hk
  · rw [h4, h5]
    exact (h6.heap' (hh G h1 h2)).one_ints
theorem fixTo_take {a : ArenaD} {plan : List Int} {k : Nat} (hk : k < a.next.length) : (fixTo a plan a.next.length).take (k + 1) = (fixTo a plan a.next.length).take k ++ [fixAt a plan k] := by
  have h1 : k < (fixTo a plan a.next.length).length := by simpa using hk
  rw [List.take_succ_eq_append_getElem h1]
  congr 2
  have := rx_fixTo (a := a) (plan := plan) (k := a.next.length) hk
  rw [if_pos hk, rx_lt h1] at this
  exact this

/-- append_one, where the walk has reckoned the place of the new cell. -/
theorem append_oneK {ops : Array Oper} {rest : List Oper} {o : Oper} {a : Act} {Q : Exit → Act → World → Prop} {t e : TypeId} {z : Value} (E : Elem t e z) (w0 : World) (hgd : o.guard = none) (s x : Operand)
    (ho : o.op = .call { callee := .builtin .append, args := #[s, x], argTypes := #[t, t] })
    (B : Nat) (v : Value) (n : Nat) (xs : List Value) (hs : a.eval s = v) (hown : w0.ownsRow B e 1 v n xs) (y : Value) (hy : y.oneCell' = true) (H : Nat) (hH : w0.heap.size = H)
    (hx : a.eval x = .slice (some ⟨H, 0, none⟩) 1 1) (hn : n ≤ 1099511627776) (hB : B ≤ w0.heap.size)
    (h : ∀ v' w', w'.ownsRow B e 1 v' (n + 1) (xs ++ [y]) → w0.grownBy w' v.ownBlock → (v'.ownBlock = v.ownBlock ∨ v'.ownBlock = some (w0.heap.size + 1)) → wpList Try.prog ops Q rest (a.put o.dst v') w') :
    wpList Try.prog ops Q (o :: rest) a (w0.alloc (.cells #[y] e)) := by
  subst hH
  exact append_one E w0 hgd s x ho B v n xs hs hown y hy hx hn hB h

set_option maxRecDepth 100000 in
set_option maxHeartbeats 1000000 in
theorem l6Edges_any (v : Value) (a : ArenaD) (u : Value) (plan : List Int) (w0 w : World) (hv0 : IsArena w0 v a) (hk0 : Kept w0 w) (hu : Ints w u plan) (hpl : plan.length = a.next.length) (hn1 : a.next.length ≤ 256) :
    Calls Try.prog 87 #[v, u] w fun e w' => ∃ r, e = .returned r ∧ (∀ W, Kept w0 W → (∀ b, w.heap.size ≤ b → b < w'.heap.size → W.heap[b]? = w'.heap[b]?) → Rows W r (fixTo a plan a.next.length)) ∧ Below w.heap.size w w' := by
  have hv := hv0.kept hk0
  obtain ⟨o, n, rfl, hbw, hB⟩ := arena_open hv
  obtain ⟨ho, hn⟩ := hv.parts
  obtain ⟨N, nc, rfl, hnc, hnm⟩ := hn.form
  have hn0 := hv0.parts.2
  obtain ⟨US, uc, rfl, huc, hum⟩ := hu.form
  have hn9 : Lent w0 w.heap.size ((w.alloc (.cells #[o, .slice N a.next.length nc] 30)).alloc (.cells #[] 22)) (.slice (some ⟨w.heap.size + 1, 0, none⟩) 0 0) [] [] := by
    refine ⟨rfl, ?_, fun k hk => by simp at hk⟩
    have := World.ownsRow_made (w.alloc (.cells #[o, .slice N a.next.length nc] 30)) (e := 22) (size := 1) (base := w.heap.size) #[] 0 (by simp) (by unfold maxLen; omega) (by simp)
    simpa using this
  have hbn := hbw.alloc hbw.size (.cells #[] 22)
  have hB2 := hB.alloc (.cells #[] 22)
  have Hall := Lib.hid (show (fixTo a plan a.next.length).take a.next.length = fixTo a plan a.next.length from List.take_of_length_le (by simp))
  have Hst := Lib.hid (fun k => fixTo_take (a := a) (plan := plan) (k := k))
  have hlE : (fixTo a plan a.next.length).length = a.next.length := by simp
  have HlE := Lib.hid hlE
  clear hlE
  have Hpl := Lib.hid hpl
  clear hpl
  go_enter Try.func87, Try.ntmps87
  go_wp2
  generalize (w.alloc (.cells #[o, .slice N a.next.length nc] 30)).alloc (.cells #[] 22) = w1 at *
  generalize hE : fixTo a plan a.next.length = E at *
  have Hres := Lib.hid hE
  clear hE
  go_loopw [5, 6] (fun v i wr => ∃ (k : Nat) (vs : List Value), k ≤ a.next.length ∧ i = .int .i64 k ∧ Lent w0 w.heap.size wr v vs (E.take k) ∧ Below w.heap.size w wr ∧ Arr wr w.heap.size 30 [o, .slice N a.next.length nc] ∧ v.ownBlock ≠ some w.heap.size) (fun _ i _ => a.next.length - (intOf i).toNat)
  case atStart => exact ⟨0, [], Nat.zero_le _, rfl, by simpa using hn9, hbn, hB2, by simp [Value.ownBlock]⟩
  case round =>
    obtain ⟨k, vs, hk, rfl, hL, hbr, hBr, hnb⟩ := hrel
    have hbs := hbr.size
    have hBc1 := hBr.c1
    by_cases hlt : k < a.next.length
    · have Hs := Lib.hid (Hst.out k hlt)
      have hlk : (E.take k).length = k := by rw [List.length_take, HlE.out]; omega
      obtain ⟨a1, rfl, hc1⟩ := (hu.kept (Kept.of hbr)).at_ (k := k) (by rw [Hpl.out]; exact hlt)
      have hkl : (k : Int) < plan.length := by rw [Hpl.out]; omega
      have hkl2 : (k : Int) < a.next.length := by omega
      by_cases e : 0 ≤ ix plan k
      · have hd : decide (0 ≤ ix plan k) = true := decide_eq_true e
        have hx : fixAt a plan k = [ix plan k] := if_pos e
        rw [hx] at Hs
        clear hx
        have hown := hL.own
        rw [hlk] at hown
        have hown1 := hown.alloc (.cells #[.int .i64 (ix plan k)] 2)
        have hH1 : (wr.alloc (.cells #[.int .i64 (ix plan k)] 2)).heap.size = wr.heap.size + 1 := by simp
        go_wp2_with (at_builtin; refine append_oneK elem_rows (wr.alloc (.cells #[.int .i64 (ix plan k)] 2)) rfl (.tmp 20) (.tmp 26) rfl w.heap.size u5 _ vs rfl hown1 (.slice (some ⟨wr.heap.size, 0, none⟩) 1 1) rfl (wr.heap.size + 1) hH1 rfl (by omega) (by omega) ?_; intro v7 w7 ho7 hg7 hl7)
        have hult := fun b hb => (hown.lt b hb).2
        have hg : wr.grownBy w7 u5.ownBlock := ⟨hg7.os, hg7.tape, hg7.output, by have := hg7.size; omega, fun k hk hne => (hg7.block k (by omega) hne).trans (Below.heap_alloc wr _ k hk)⟩
        have hG : IArr w7 wr.heap.size [ix plan k] := (ione_new wr (ix plan k)).heap' (hg7.block _ (by omega) fun e => by have := hult _ e.symm; omega)
        have hd7 : v7.ownBlock = u5.ownBlock ∨ ∃ m, v7.ownBlock = some m ∧ wr.heap.size < m := hl7.imp id fun h => ⟨_, h, by omega⟩
        have hn7 : v7.ownBlock ≠ some wr.heap.size := by
          rcases hd7 with h | ⟨m, h, hm⟩
          · rw [h]; intro e; have := hult _ e; omega
          · rw [h]; intro e; have := Option.some.inj e; omega
        have hLn := hL.snoc (.inr ⟨wr.heap.size, _, hbs, by have := hg7.size; omega, hn7, rfl, rfl, hG⟩) (by rw [hlk]; exact ho7) hg (hd7.imp id fun ⟨m, h, hm⟩ => ⟨m, h, by omega⟩)
        have hbz := hBr.lt
        refine ⟨⟨k + 1, _, by omega, by go_num, by rw [Hs.out]; exact hLn, hbr.grown hg hbs fun b hb => (hown.lt b hb).1, Eq.trans (hg.block _ hbz fun e => hnb e.symm) hBr, ?_⟩, by simp [intOf]; omega⟩
        rcases hd7 with h | ⟨m, h, hm⟩
        · rw [h]; exact hnb
        · rw [h]; intro e; have := Option.some.inj e; omega
      · have hd : decide (0 ≤ ix plan k) = false := decide_eq_false e
        have hx : fixAt a plan k = rx a.next k := if_neg e
        rw [hx] at Hs
        clear hx
        obtain ⟨a3, R, q, h3, hc3, hrow⟩ := hn0.at_ hlt
        subst h3
        replace hc3 := (Kept.of hbr).cell (hk0.cell hc3)
        have hown := hL.own
        rw [hlk] at hown
        go_wp2_with (at_builtin; refine append_one elem_rows wr rfl (.tmp 28) (.tmp 34) rfl w.heap.size u5 _ vs rfl hown (.slice R (rx a.next k).length q) rfl rfl (by omega) (by omega) ?_; intro v7 w7 ho7 hg7 hl7)
        have hd7 : v7.ownBlock = u5.ownBlock ∨ ∃ m, v7.ownBlock = some m ∧ wr.heap.size < m := hl7.imp id fun h => ⟨_, h, by omega⟩
        have hLn := hL.snoc (.inl hrow) (by rw [hlk]; exact ho7) hg7 (hd7.imp id fun ⟨m, h, hm⟩ => ⟨m, h, by omega⟩)
        have hbz := hBr.lt
        refine ⟨⟨k + 1, _, by omega, by go_num, by rw [Hs.out]; exact hLn, hbr.grown hg7 hbs fun b hb => (hown.lt b hb).1, Eq.trans (hg7.block _ hbz fun e => hnb e.symm) hBr, ?_⟩, by simp [intOf]; omega⟩
        rcases hd7 with h | ⟨m, h, hm⟩
        · rw [h]; exact hnb
        · rw [h]; intro e; have := Option.some.inj e; omega
    · obtain rfl : k = a.next.length := by omega
      rw [Hall.out] at hL
      go_wp2
      go_ret
      exact ⟨u5, rfl, fun W hW hh => by rw [Hres.out]; exact hL.rows hW hh, hbr⟩
end Go.Proofs.Ytpnophmanpfejaa
