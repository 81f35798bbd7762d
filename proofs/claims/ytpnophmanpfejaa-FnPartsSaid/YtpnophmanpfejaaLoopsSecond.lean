/- What the second search of loopsIn keeps from class to class. No program in sight. -/
import Derived.Test.YtpnophmanpfejaaLoopsConv
import Derived.Test.YtpnophmanpfejaaLoopsBack
import Derived.Test.YtpnophmanpfejaaCmpPlain
import Derived.Test.YtpnophmanpfejaaPkC
namespace Go.Proofs.Ytpnophmanpfejaa
set_option linter.unusedSimpArgs false
set_option linter.unusedVariables false

/-- The edges among marked vertices. -/
def EdgeM (next : List (List Int)) (m : List Bool) (a b : Nat) : Prop := (b : Int) ∈ rx next a ∧ bx m a = true ∧ bx m b = true
/-- A is left to look at, dm is marked, out are the parts. -/
structure Second (next : List (List Int)) (m : List Bool) (L A : List Nat) (dm : List Bool) (out : List (List Int)) : Prop where
  seen : ∃ B, L = A ++ B ∧ ∀ x ∈ B, bx dm x = true
  sub : ∀ x, bx dm x = true → x ∈ L
  shut : ∀ x y, bx dm x = true → Both (EdgeM next m) x y → bx dm y = true
  parts : Parts (EdgeM next m) (markedL m) (fun x => bx dm x = true) out
  cap : out.length + dm.count false ≤ dm.length
theorem bx_lt_of {m : List Bool} {j : Nat} (h : bx m j = true) : j < m.length := by
  by_cases hj : j < m.length
  · exact hj
  · simp [bx, List.getD, List.getElem?_eq_none (by omega : m.length ≤ j)] at h
theorem bx_replicate (n x : Nat) : bx (List.replicate n false) x = false := by
  by_cases h : x < n <;> simp [bx, h]
theorem Second.start (next : List (List Int)) (m : List Bool) (L : List Nat) (n : Nat) : Second next m L L (List.replicate n false) [] := by
  refine ⟨⟨[], by simp, fun _ h => (by cases h)⟩, fun x h => ?_, fun x y h => ?_, ?_, by simp⟩
  · rw [bx_replicate] at h; cases h
  · rw [bx_replicate] at h; cases h
  · refine ⟨List.nodup_nil, fun _ h => (by cases h), fun v h => ?_⟩
    rw [bx_replicate] at h; cases h
section
variable {next : List (List Int)} {m : List Bool} {L A : List Nat} {dm : List Bool} {out : List (List Int)} {v : Nat}
theorem Second.skip (h : Second next m L (A ++ [v]) dm out) (hv : bx dm v = true) : Second next m L A dm out := by
  obtain ⟨B, e, hB⟩ := h.seen
  refine ⟨⟨v :: B, by simp [e], fun x hx => ?_⟩, h.sub, h.shut, h.parts, h.cap⟩
  rcases List.mem_cons.1 hx with rfl | hx
  · exact hv
  · exact hB x hx
theorem Second.mem (h : Second next m L (A ++ [v]) dm out) : v ∈ L := by
  obtain ⟨B, e, _⟩ := h.seen
  rw [e]; simp
theorem Second.at_ (h : Second next m L (A ++ [v]) dm out) : A.length < L.length ∧ ix (castL L) A.length = (v : Int) := by
  obtain ⟨B, e, _⟩ := h.seen
  have hl : A.length < L.length := by rw [e]; simp
  refine ⟨hl, ?_⟩
  rw [ix_castL hl]
  subst e
  simp
/-- The search against the edges, in the words of the program's rows. -/
theorem back_eq {n : Nat} (hml : m.length = n) (hnl : next.length = n) (hset : ∀ k, k < n → IsSet (rx next k) n) (hmk : ∀ x ∈ L, bx m x = true) (hall : ∀ x, x < n → bx m x = true → x ∈ L) :
    (fun a b : Nat => (b : Int) ∈ rx (backL next (bx m) n) a ∧ bx m b = true) = fun a b : Nat => EdgeM next m b a ∧ b ∈ L := by
  funext a b
  apply propext
  constructor
  · rintro ⟨h1, h2⟩
    have ha : a < n := by
      by_cases ha : a < n
      · exact ha
      · simp [rx, List.getD, List.getElem?_eq_none (by simp; omega : (backL next (bx m) n).length ≤ a)] at h1
    obtain ⟨j, hj, e, h3, h4, h5⟩ := (mem_backL ha).1 h1
    obtain rfl : j = b := by omega
    exact ⟨⟨h3, h4, h5⟩, hall _ hj h4⟩
  · rintro ⟨⟨h1, h2, h3⟩, _⟩
    have ha : a < n := by have := bx_lt_of h3; omega
    have hb : b < n := by have := bx_lt_of h2; omega
    exact ⟨(mem_backL ha).2 ⟨b, hb, rfl, h1, h2, h3⟩, h2⟩
/-- The first search's order, in the same words. -/
theorem first_eq (hmk : ∀ x ∈ L, bx m x = true) (h : Founds (fun a b => (b : Int) ∈ rx next a ∧ bx m b = true) L) : Founds (EdgeM next m) L :=
  h.conv fun _ _ ha => ⟨fun ⟨h1, h2⟩ => ⟨h1, hmk _ ha, h2⟩, fun ⟨h1, _, h2⟩ => ⟨h1, h2⟩⟩
theorem Second.class_ (h : Second next m L (A ++ [v]) dm out) (hF : Founds (EdgeM next m) L) (hmk : ∀ x ∈ L, bx m x = true) (hv : bx dm v = false) {C : List Nat} (hC : Found (fun a b => EdgeM next m b a ∧ b ∈ L) (fun x => bx dm x = true) v C) : IsClass (EdgeM next m) (markedL m) v C := by
  obtain ⟨B, e, hB⟩ := h.seen
  have hm : ∀ x, x ∈ C ↔ Both (EdgeM next m) v x := fun x => hF.second (A := A) (B := B) (by rw [e]; simp) hB h.sub h.shut (by rw [hv]; simp) hC x
  refine ⟨hm, hC.nodup, fun x hx => ?_⟩
  have hxm : bx m x = true := by
    have hvL := hmk v h.mem
    have h1 := ((hm x).1 hx).1
    cases h1 with
    | refl => exact hvL
    | tail _ s => exact s.2.2
  exact mem_markedL.2 ⟨x, bx_lt_of hxm, rfl, hxm⟩
theorem Second.marked (h : Second next m L (A ++ [v]) dm out) {C : List Nat} (hC : IsClass (EdgeM next m) (markedL m) v C) {dm' : List Bool} (hd : ∀ x, bx dm' x = true ↔ bx dm x = true ∨ x ∈ C) (hF : Founds (EdgeM next m) L) {out' : List (List Int)}
    (hp : Parts (EdgeM next m) (markedL m) (fun x => bx dm x = true ∨ x ∈ C) out') (hc : out'.length + dm'.count false ≤ dm'.length) : Second next m L A dm' out' := by
  obtain ⟨B, e, hB⟩ := h.seen
  have hvC : v ∈ C := (hC.mem v).2 (Both.refl v)
  have hD : (fun x => bx dm' x = true) = fun x => bx dm x = true ∨ x ∈ C := funext fun x => propext (hd x)
  refine ⟨⟨v :: B, by simp [e], fun x hx => ?_⟩, fun x hx => ?_, fun x y hx hb => ?_, by rw [hD]; exact hp, hc⟩
  · rw [hd]
    rcases List.mem_cons.1 hx with rfl | hx
    · exact .inr hvC
    · exact .inl (hB x hx)
  · rcases (hd x).1 hx with h1 | h1
    · exact h.sub x h1
    · have h2 := ((hC.mem x).1 h1).1
      have hvL := h.mem
      clear h1 hx
      induction h2 with
      | refl => exact hvL
      | tail _ s ih => exact hF.shut _ ih _ s
  · rw [hd]
    rcases (hd x).1 hx with h1 | h1
    · exact .inl (h.shut x y h1 hb)
    · exact .inr ((hC.mem y).2 (((hC.mem x).1 h1).trans hb))
theorem Second.add (h : Second next m L (A ++ [v]) dm out) (hF : Founds (EdgeM next m) L) (hmk : ∀ x ∈ L, bx m x = true) (hv : bx dm v = false) {C : List Nat} (hC : Found (fun a b => EdgeM next m b a ∧ b ∈ L) (fun x => bx dm x = true) v C)
    {dm' : List Bool} (hd : ∀ x, bx dm' x = true ↔ bx dm x = true ∨ x ∈ C) (hn : C.length + dm'.count false = dm.count false) (hl : dm'.length = dm.length) (hlp : 1 < C.length ∨ (v : Int) ∈ rx next v) : Second next m L A dm' (out ++ [sortL (castL C)]) := by
  have hc := h.class_ hF hmk hv hC
  have hvm := hmk v h.mem
  have hl2 : Loopy (EdgeM next m) v v := hc.loops.1 (hlp.imp_right fun e => ⟨e, hvm, hvm⟩)
  have hvC : v ∈ C := (hc.mem v).2 (Both.refl v)
  have h0 : 0 < C.length := List.length_pos_of_mem hvC
  have hcap := h.cap
  refine h.marked hc hd hF (h.parts.more h.shut (by rw [hv]; simp) (mem_markedL.2 ⟨v, bx_lt_of hvm, rfl, hvm⟩) hc (sorted_upFrom_filter _ _) (fun x hx => ?_) hl2) ?_
  · obtain ⟨j, _, rfl, _⟩ := mem_markedL.1 hx
    omega
  · rw [List.length_append, List.length_singleton]
    omega
theorem Second.omit (h : Second next m L (A ++ [v]) dm out) (hF : Founds (EdgeM next m) L) (hmk : ∀ x ∈ L, bx m x = true) (hv : bx dm v = false) {C : List Nat} (hC : Found (fun a b => EdgeM next m b a ∧ b ∈ L) (fun x => bx dm x = true) v C)
    {dm' : List Bool} (hd : ∀ x, bx dm' x = true ↔ bx dm x = true ∨ x ∈ C) (hn : C.length + dm'.count false = dm.count false) (hl : dm'.length = dm.length) (hlp : ¬ (1 < C.length ∨ (v : Int) ∈ rx next v)) : Second next m L A dm' out := by
  have hc := h.class_ hF hmk hv hC
  have hl2 : ¬ Loopy (EdgeM next m) v v := fun hL => hlp ((hc.loops.2 hL).imp_right fun e => e.1)
  have hcap := h.cap
  exact h.marked hc hd hF (h.parts.skip hc hl2) (by omega)
theorem Second.fin (h : Second next m L [] dm out) (hall : ∀ x, x < m.length → bx m x = true → x ∈ L) (hmk : ∀ x ∈ L, bx m x = true) {l : List (List Int)} (hp : l.Perm out) (hs : l.Pairwise fun a b => a ≠ b → a.headD 0 ≠ b.headD 0 → a.headD 0 < b.headD 0) : l = loopsL (EdgeM next m) (markedL m) := by
  obtain ⟨B, e, hB⟩ := h.seen
  simp only [List.nil_append] at e
  subst e
  refine h.parts.fin (sorted_upFrom_filter _ _) (fun x hx => ?_) (fun v hv => ?_) hp hs
  · obtain ⟨j, h1, rfl, h2⟩ := mem_markedL.1 hx
    rw [Int.toNat_natCast]
    exact hB j (hall j h1 h2)
  · have := hmk v (h.sub v hv)
    exact mem_markedL.2 ⟨v, bx_lt_of this, rfl, this⟩
theorem Second.some_ (h : Second next m L A dm out) (hmk : ∀ x ∈ L, bx m x = true) {P : List Int} (hP : P ∈ out) : P ≠ [] := by
  obtain ⟨v, hv, hl, rfl⟩ := h.parts.of P hP
  have hvm := hmk v (h.sub v hv)
  have : (v : Int) ∈ classOf (EdgeM next m) (markedL m) v := mem_classOf.2 ⟨mem_markedL.2 ⟨v, bx_lt_of hvm, rfl, hvm⟩, by rw [Int.toNat_natCast]; exact hl⟩
  exact List.ne_nil_of_mem this
/-- All looked at, the parts sorted: these are the classes. -/
theorem Second.finish (h : Second next m L [] dm out) (hall : ∀ x, x < m.length → bx m x = true → x ∈ L) (hmk : ∀ x ∈ L, bx m x = true) {l : List (List Int)} (hp : l.Perm out) (hs : l.Pairwise fun a b => ¬ lexLt b a) : l = loopsL (EdgeM next m) (markedL m) :=
  h.fin hall hmk hp (List.Pairwise.imp_of_mem (fun {a b} ha hb hab _ hne => lexLt_heads (h.some_ hmk (hp.mem_iff.1 ha)) (h.some_ hmk (hp.mem_iff.1 hb)) hab hne) hs)
end
end Go.Proofs.Ytpnophmanpfejaa
