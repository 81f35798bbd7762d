/- A region that draws its order, whose operations read and whose callees only lay new blocks: walked once, in the order of the text. -/
import Derived.Test.YtpnophmanpfejaaPkA
import Derived.Deep.Quiet
namespace Go.Proofs.Ytpnophmanpfejaa
set_option linter.unusedSimpArgs false
set_option linter.unusedVariables false
open Go.RowKit

/-- The worlds that stand over w: new blocks alone. -/
def Cls (w : World) : Type := {W : World // Below w.heap.size w W}
instance (w : World) : Nonempty (Cls w) := ⟨(Subtype.mk w (Below.refl _ _) : Cls w)⟩
theorem Cls.cell {w : World} {p : Addr} {v : Value} (h : w.cell? p = some v) (x : Cls w) : x.val.cell? p = some v := (Kept.of x.property).cell h
theorem Cls.kept {w : World} (x : Cls w) : Kept w x.val := Kept.of x.property
theorem wp_region_cls {P : Program} {id : Nat} {Q : Exit → Act → World → Prop} {a : Act} {w : World} {l : List Oper} (hm : P.follows .mixedOrders = true) (hB : Region.lexB .any l.toArray = true)
    (h : wpQuiet P l.toArray (fun w' => ∃ x : Cls w, w' = x.val) (fun a' => ∀ w', (∃ x : Cls w, w' = x.val) → Q .normal a' w') l a) : (Code.region id l.toArray true).wp P Q a w :=
  wp_region_quiet (C := fun w' => ∃ x : Cls w, w' = x.val) hm hB ⟨(Subtype.mk { w with drawn := w.drawn + 1 } ⟨rfl, rfl, rfl, Nat.le_refl _, fun _ _ => rfl⟩ : Cls w), rfl⟩ (by simpa using h)
theorem calls_cls {P : Program} {f : FuncId} {args : Array Value} {w : World} {x : Cls w} {v : Value} (h : Calls P f args x.val fun e w' => e = .returned v ∧ Below x.val.heap.size x.val w') :
    Calls P f args x.val fun e w'' => e = .returned v ∧ ∃ y : Cls w, w'' = y.val :=
  h.mono fun _ w' ⟨h1, h2⟩ => ⟨h1, (Subtype.mk w' (Below.up x.property h2) : Cls w), rfl⟩
theorem calls_cls_same {P : Program} {f : FuncId} {args : Array Value} {w : World} {x : Cls w} {v : Value} (h : Calls P f args x.val fun e w' => e = .returned v ∧ w' = x.val) :
    Calls P f args x.val fun e w'' => e = .returned v ∧ ∃ y : Cls w, w'' = y.val := calls_cls (same_below h)
theorem calls_cls_drew {P : Program} {f : FuncId} {args : Array Value} {w : World} {x : Cls w} {v : Value} (h : Calls P f args x.val fun e w' => e = .returned v ∧ ∃ q, w' = x.val.drewN q) :
    Calls P f args x.val fun e w'' => e = .returned v ∧ ∃ y : Cls w, w'' = y.val := calls_cls (drew_below h)
end Go.Proofs.Ytpnophmanpfejaa
