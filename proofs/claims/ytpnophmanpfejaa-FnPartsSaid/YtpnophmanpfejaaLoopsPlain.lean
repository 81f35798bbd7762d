/- The classes of vertices that lead to each other, listed by their least ones; what the second search keeps. No program in sight, no condition. -/
import Derived.Test.YtpnophmanpfejaaDeepPlain
import Derived.Test.YtpnophmanpfejaaSortPlain
namespace Go.Proofs.Ytpnophmanpfejaa
set_option linter.unusedSimpArgs false
set_option linter.unusedVariables false

theorem Plusw.trans {R : Nat → Nat → Prop} {u v x : Nat} (h : Plusw R u v) (k : Plusw R v x) : Plusw R u x := by
  obtain ⟨y, h1, h2⟩ := h
  exact ⟨y, h1, h2.trans k.star⟩
theorem Plusw.star_left {R : Nat → Nat → Prop} {u v x : Nat} (h : Star R u v) (k : Plusw R v x) : Plusw R u x := by
  rcases h.plus with rfl | h
  · exact k
  · exact h.trans k
theorem Plusw.star_right {R : Nat → Nat → Prop} {u v x : Nat} (h : Plusw R u v) (k : Star R v x) : Plusw R u x := by
  obtain ⟨y, h1, h2⟩ := h
  exact ⟨y, h1, h2.trans k⟩
/-- Two ways of at least one step. -/
def Loopy (R : Nat → Nat → Prop) (v u : Nat) : Prop := Plusw R v u ∧ Plusw R u v
theorem Loopy.symm {R : Nat → Nat → Prop} {v u : Nat} (h : Loopy R v u) : Loopy R u v := ⟨h.2, h.1⟩
theorem Loopy.trans {R : Nat → Nat → Prop} {v u x : Nat} (h : Loopy R v u) (k : Loopy R u x) : Loopy R v x := ⟨h.1.trans k.1, k.2.trans h.2⟩
theorem Loopy.self {R : Nat → Nat → Prop} {v u : Nat} (h : Loopy R v u) : Loopy R v v := h.trans h.symm
theorem loopy_of_both {R : Nat → Nat → Prop} {v u : Nat} (h : Plusw R v v) (k : Both R v u) : Loopy R v u := ⟨h.star_right k.1, Plusw.star_left k.2 h⟩
theorem Loopy.both {R : Nat → Nat → Prop} {v u : Nat} (h : Loopy R v u) : Both R v u := ⟨h.1.star, h.2.star⟩

open Classical in
/-- The class of v among the rising s. -/
noncomputable def classOf (R : Nat → Nat → Prop) (s : List Int) (v : Nat) : List Int := s.filter fun u => decide (Loopy R v u.toNat)
open Classical in
noncomputable def isRep (R : Nat → Nat → Prop) (s : List Int) (v : Int) : Bool := decide (Loopy R v.toNat v.toNat ∧ ∀ u ∈ s, u < v → ¬ Loopy R v.toNat u.toNat)
/-- The classes, by their least vertices. -/
noncomputable def loopsL (R : Nat → Nat → Prop) (s : List Int) : List (List Int) := (s.filter (isRep R s)).map fun v => classOf R s v.toNat

section
variable {R : Nat → Nat → Prop} {s : List Int} {v u : Nat} {x : Int}
open Classical in
theorem mem_classOf : x ∈ classOf R s v ↔ x ∈ s ∧ Loopy R v x.toNat := by
  unfold classOf
  rw [List.mem_filter, decide_eq_true_iff]
theorem classOf_lt (hs : s.Pairwise (· < ·)) : (classOf R s v).Pairwise (· < ·) := hs.filter _
theorem classOf_eq (hs : s.Pairwise (· < ·)) (h : Loopy R v u) : classOf R s v = classOf R s u :=
  lt_ext (classOf_lt hs) (classOf_lt hs) fun x => by
    rw [mem_classOf, mem_classOf]
    exact and_congr_right fun _ => ⟨fun k => h.symm.trans k, fun k => h.trans k⟩
open Classical in
theorem isRep_iff : isRep R s x = true ↔ Loopy R x.toNat x.toNat ∧ ∀ u ∈ s, u < x → ¬ Loopy R x.toNat u.toNat := by
  unfold isRep
  rw [decide_eq_true_iff]
theorem head_least {l : List Int} (hl : l.Pairwise (· < ·)) (hx : x ∈ l) : ∃ y, l.head? = some y ∧ y ∈ l ∧ y ≤ x := by
  cases l with
  | nil => cases hx
  | cons y l =>
    refine ⟨y, rfl, List.mem_cons_self .., ?_⟩
    rcases List.mem_cons.1 hx with rfl | hx
    · exact Int.le_refl _
    · exact Int.le_of_lt ((List.pairwise_cons.1 hl).1 x hx)
theorem classOf_head (hs : s.Pairwise (· < ·)) (hx : x ∈ s) (hr : isRep R s x = true) : (classOf R s x.toNat).head? = some x := by
  obtain ⟨h1, h2⟩ := isRep_iff.1 hr
  obtain ⟨y, h3, h4, h5⟩ := head_least (classOf_lt (R := R) (v := x.toNat) hs) (x := x) (mem_classOf.2 ⟨hx, h1⟩)
  obtain ⟨h6, h7⟩ := mem_classOf.1 h4
  by_cases e : y = x
  · rw [h3, e]
  · exact absurd h7 (h2 y h6 (by omega))
theorem loopsL_heads (hs : s.Pairwise (· < ·)) : (loopsL R s).Pairwise fun a b => a.headD 0 < b.headD 0 := by
  unfold loopsL
  rw [List.pairwise_map]
  refine List.Pairwise.imp_of_mem ?_ (hs.filter _)
  intro a b ha hb hab
  obtain ⟨ha1, ha2⟩ := List.mem_filter.1 ha
  obtain ⟨hb1, hb2⟩ := List.mem_filter.1 hb
  rw [List.headD_eq_head?_getD, List.headD_eq_head?_getD, classOf_head hs ha1 ha2, classOf_head hs hb1 hb2]
  exact hab
theorem mem_loopsL (hs : s.Pairwise (· < ·)) {P : List Int} : P ∈ loopsL R s ↔ ∃ x ∈ s, Loopy R x.toNat x.toNat ∧ P = classOf R s x.toNat := by
  unfold loopsL
  rw [List.mem_map]
  constructor
  · rintro ⟨x, hx, rfl⟩
    obtain ⟨h1, h2⟩ := List.mem_filter.1 hx
    exact ⟨x, h1, (isRep_iff.1 h2).1, rfl⟩
  · rintro ⟨x, hx, hl, rfl⟩
    obtain ⟨y, h3, h4, h5⟩ := head_least (classOf_lt (R := R) (v := x.toNat) hs) (x := x) (mem_classOf.2 ⟨hx, hl⟩)
    obtain ⟨h6, h7⟩ := mem_classOf.1 h4
    refine ⟨y, List.mem_filter.2 ⟨h6, isRep_iff.2 ⟨h7.symm.self, fun u hu hlt hL => ?_⟩⟩, (classOf_eq hs h7).symm⟩
    have h8 : u ∈ classOf R s x.toNat := mem_classOf.2 ⟨hu, h7.trans hL⟩
    obtain ⟨y', h9, _, h10⟩ := head_least (classOf_lt (R := R) (v := x.toNat) hs) h8
    rw [h3] at h9
    injection h9 with h9
    omega
/-- Lists whose keys rise and that hold the same are the same. -/
theorem key_ext {α : Type} {k : α → Int} {l m : List α} (hl : l.Pairwise fun a b => k a < k b) (hm : m.Pairwise fun a b => k a < k b) (h : ∀ x, x ∈ l ↔ x ∈ m) : l = m := by
  induction l generalizing m with
  | nil =>
    cases m with
    | nil => rfl
    | cons y m => exact absurd ((h y).2 (List.mem_cons_self ..)) (by simp)
  | cons x l ih =>
    cases m with
    | nil => exact absurd ((h x).1 (List.mem_cons_self ..)) (by simp)
    | cons y m =>
      obtain ⟨hx1, hx2⟩ := List.pairwise_cons.1 hl
      obtain ⟨hy1, hy2⟩ := List.pairwise_cons.1 hm
      have e : x = y := by
        rcases List.mem_cons.1 ((h x).1 (List.mem_cons_self ..)) with e | h1
        · exact e
        · rcases List.mem_cons.1 ((h y).2 (List.mem_cons_self ..)) with e | h2
          · exact e.symm
          · have := hx1 y h2; have := hy1 x h1; omega
      subst e
      congr 1
      refine ih hx2 hy2 fun z => ?_
      have hz := h z
      rw [List.mem_cons, List.mem_cons] at hz
      constructor
      · intro hzl
        rcases hz.1 (.inr hzl) with rfl | h1
        · have := hx1 z hzl; omega
        · exact h1
      · intro hzm
        rcases hz.2 (.inr hzm) with rfl | h1
        · have := hy1 z hzm; omega
        · exact h1

/-- Vertices as numbers of the program. -/
def castL (l : List Nat) : List Int := l.map fun (n : Nat) => (n : Int)
@[simp] theorem length_castL (l : List Nat) : (castL l).length = l.length := by simp [castL]
theorem castL_append (a b : List Nat) : castL (a ++ b) = castL a ++ castL b := by simp [castL]
theorem mem_castL {l : List Nat} : x ∈ castL l ↔ ∃ n ∈ l, x = (n : Int) := by
  unfold castL
  rw [List.mem_map]
  exact ⟨fun ⟨n, h, e⟩ => ⟨n, h, e.symm⟩, fun ⟨n, h, e⟩ => ⟨n, h, e.symm⟩⟩
theorem castL_nodup {l : List Nat} (h : l.Nodup) : (castL l).Nodup := by
  unfold castL
  rw [List.nodup_iff_pairwise_ne, List.pairwise_map]
  refine List.Pairwise.imp ?_ (List.nodup_iff_pairwise_ne.1 h)
  intro a b hab e
  exact hab (by omega)
theorem ix_castL {l : List Nat} {k : Nat} (h : k < l.length) : ix (castL l) k = (l[k] : Int) := by simp [ix, castL, h]

/-- The parts found so far by the second search: those of D. -/
structure Parts (R : Nat → Nat → Prop) (s : List Int) (D : Nat → Prop) (out : List (List Int)) : Prop where
  nodup : out.Nodup
  of : ∀ P ∈ out, ∃ v, D v ∧ Loopy R v v ∧ P = classOf R s v
  all : ∀ v, D v → Loopy R v v → classOf R s v ∈ out
theorem Parts.nil : Parts R s (fun _ => False) [] := ⟨List.nodup_nil, fun _ h => (by cases h), fun _ h => h.elim⟩
/-- A class that v's search has found. -/
structure IsClass (R : Nat → Nat → Prop) (s : List Int) (v : Nat) (C : List Nat) : Prop where
  mem : ∀ x, x ∈ C ↔ Both R v x
  nodup : C.Nodup
  sub : ∀ x ∈ C, (x : Int) ∈ s
theorem IsClass.loops {C : List Nat} (h : IsClass R s v C) : (1 < C.length ∨ R v v) ↔ Loopy R v v := by
  have hv : v ∈ C := (h.mem v).2 (Both.refl v)
  have key : ∀ x ∈ C, x ≠ v → Loopy R v v := fun x hx hne => by
    obtain ⟨h1, h2⟩ := (h.mem x).1 hx
    rcases h1.plus with e | h1
    · exact absurd e.symm hne
    · exact ⟨h1.star_right h2, h1.star_right h2⟩
  constructor
  · rintro (h1 | h1)
    · have : ∃ x ∈ C, x ≠ v := by
        match C, h1, h.nodup with
        | a :: b :: C, _, hn =>
          by_cases e : a = v
          · refine ⟨b, by simp, fun e2 => ?_⟩
            rw [e, e2] at hn
            simp at hn
          · exact ⟨a, by simp, e⟩
      obtain ⟨x, hx, hne⟩ := this
      exact key x hx hne
    · exact ⟨⟨v, h1, .refl _⟩, ⟨v, h1, .refl _⟩⟩
  · intro hl
    obtain ⟨y, h1, h2⟩ := hl.1
    by_cases e : y = v
    · subst e; exact .inr h1
    · refine .inl ?_
      have hy : y ∈ C := (h.mem y).2 ⟨.tail (.refl _) h1, h2⟩
      match C, hv, hy with
      | [a], hv, hy =>
        simp at hv hy
        exact absurd (hy.trans hv.symm) e
      | a :: b :: C, _, _ => simp
theorem IsClass.sorted {C : List Nat} (h : IsClass R s v C) (hs : s.Pairwise (· < ·)) (hl : Loopy R v v) (hn : ∀ x ∈ s, 0 ≤ x) : sortL (castL C) = classOf R s v :=
  lt_ext (sortL_lt (castL_nodup h.nodup)) (classOf_lt hs) fun x => by
    rw [mem_sortL, mem_castL, mem_classOf]
    constructor
    · rintro ⟨n, hn, rfl⟩
      exact ⟨h.sub n hn, by rw [Int.toNat_natCast]; exact loopy_of_both hl.1 ((h.mem n).1 hn)⟩
    · rintro ⟨h1, h2⟩
      exact ⟨x.toNat, (h.mem _).2 h2.both, by have := hn x h1; omega⟩
theorem Parts.more {D : Nat → Prop} {out : List (List Int)} {C : List Nat} (h : Parts R s D out) (hD : ∀ x y, D x → Both R x y → D y) (hv : ¬ D v) (hvs : (v : Int) ∈ s) (hc : IsClass R s v C) (hs : s.Pairwise (· < ·)) (hn : ∀ x ∈ s, 0 ≤ x) (hl : Loopy R v v) : Parts R s (fun x => D x ∨ x ∈ C) (out ++ [sortL (castL C)]) := by
  rw [hc.sorted hs hl hn]
  refine ⟨?_, fun P hP => ?_, fun u hu hl2 => ?_⟩
  · rw [List.nodup_append]
    refine ⟨h.nodup, by simp, fun a ha b hb e => ?_⟩
    simp at hb
    subst hb
    obtain ⟨u, hu, _, e2⟩ := h.of a ha
    have : (v : Int) ∈ classOf R s u := by rw [← e2, e]; exact mem_classOf.2 ⟨hvs, by rw [Int.toNat_natCast]; exact hl⟩
    have h3 := (mem_classOf.1 this).2
    rw [Int.toNat_natCast] at h3
    exact hv (hD u v hu h3.both)
  · rcases List.mem_append.1 hP with hP | hP
    · obtain ⟨u, h1, h2⟩ := h.of P hP
      exact ⟨u, .inl h1, h2⟩
    · simp at hP
      exact ⟨v, .inr ((hc.mem v).2 (Both.refl v)), hl, hP⟩
  · rcases hu with hu | hu
    · exact List.mem_append_left _ (h.all u hu hl2)
    · refine List.mem_append_right _ ?_
      simp
      exact (classOf_eq hs (loopy_of_both hl.1 ((hc.mem u).1 hu))).symm
theorem Parts.skip {D : Nat → Prop} {out : List (List Int)} {C : List Nat} (h : Parts R s D out) (hc : IsClass R s v C) (hl : ¬ Loopy R v v) : Parts R s (fun x => D x ∨ x ∈ C) out := by
  refine ⟨h.nodup, fun P hP => ?_, fun u hu hl2 => ?_⟩
  · obtain ⟨u, h1, h2⟩ := h.of P hP
    exact ⟨u, .inl h1, h2⟩
  · rcases hu with hu | hu
    · exact h.all u hu hl2
    · have hb := (hc.mem u).1 hu
      exact absurd (loopy_of_both hl2.1 hb.symm).symm.self hl
/-- The parts, sorted. -/
theorem Parts.fin {D : Nat → Prop} {out m : List (List Int)} (h : Parts R s D out) (hs : s.Pairwise (· < ·)) (hD : ∀ x ∈ s, D x.toNat) (hDs : ∀ v, D v → (v : Int) ∈ s) (hp : m.Perm out) (hm : m.Pairwise fun a b => a ≠ b → a.headD 0 ≠ b.headD 0 → a.headD 0 < b.headD 0) : m = loopsL R s := by
  refine key_ext (k := fun a => a.headD 0) ?_ (loopsL_heads hs) fun P => ?_
  · have hnd : m.Nodup := hp.nodup_iff.2 h.nodup
    have h2 := hm.and (List.nodup_iff_pairwise_ne.1 hnd)
    refine List.Pairwise.imp_of_mem ?_ h2
    rintro a b ha hb ⟨h3, h4⟩
    refine h3 h4 fun e => h4 ?_
    obtain ⟨v, hv1, hv2, rfl⟩ := h.of a (hp.mem_iff.1 ha)
    obtain ⟨u, hu1, hu2, rfl⟩ := h.of b (hp.mem_iff.1 hb)
    obtain ⟨y, h5, h6, _⟩ := head_least (classOf_lt (R := R) (v := v) hs) (x := v) (mem_classOf.2 ⟨hDs v hv1, by rw [Int.toNat_natCast]; exact hv2⟩)
    obtain ⟨z, h7, h8, _⟩ := head_least (classOf_lt (R := R) (v := u) hs) (x := u) (mem_classOf.2 ⟨hDs u hu1, by rw [Int.toNat_natCast]; exact hu2⟩)
    rw [List.headD_eq_head?_getD, List.headD_eq_head?_getD, h5, h7] at e
    have e' : y = z := e
    subst e'
    exact classOf_eq hs ((mem_classOf.1 h6).2.trans (mem_classOf.1 h8).2.symm)
  · rw [hp.mem_iff, mem_loopsL hs]
    constructor
    · intro hP
      obtain ⟨v, h1, h2, h3⟩ := h.of P hP
      exact ⟨v, hDs v h1, by rw [Int.toNat_natCast]; exact h2, by rw [Int.toNat_natCast]; exact h3⟩
    · rintro ⟨x, hx, hl, rfl⟩
      exact h.all _ (hD x hx) hl
end
end Go.Proofs.Ytpnophmanpfejaa
