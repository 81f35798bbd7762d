/- The walk of DrawReachOf: an arena and a set. -/
import Derived.Test.YtogfpalgnjlfcaaDrawAny
import Derived.Test.YtogfpalgnjlfcaaSetsLaw
namespace Go.Proofs.Ytogfpalgnjlfcaa
set_option linter.unusedSimpArgs false
set_option linter.unusedVariables false
open Go.RowKit

theorem OA.chgC {w w' : World} {B C K : Nat} {v : Value} {a : ArenaD} (h : OA w B C v a) (hc : Chg (fun b => b = K) w w') (hK : K < B) : OA w' B C v a := by
  obtain ⟨o, nx, vs, e, ho, hr, hd⟩ := h
  exact ⟨o, nx, vs, e, ho.chg hc (fun b hb e => by have := (ho.1.lt b hb).1; omega), hr.chg hc (fun b hb e => by have := (hr.own.lt b hb).1; omega) (fun j hj b hb e => by have := ((hr.row j hj).1.lt b hb).1; omega), hd⟩
end Go.Proofs.Ytogfpalgnjlfcaa
