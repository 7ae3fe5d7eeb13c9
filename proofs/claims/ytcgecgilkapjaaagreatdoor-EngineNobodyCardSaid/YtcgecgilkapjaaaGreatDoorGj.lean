import Derived.Test.YtcgecgilkapjaaaGreatDoorProg
import Derived.KernelRfl
import GoSem.ClaimSeven
import GoSem.ClaimGoes
namespace Go.Proofs.YtcgecgilkapjaaaGreatDoor
open Go
set_option maxRecDepth 10000 in
theorem no_go : Tryz.prog.funcs.any Func.goes = false := by kernel_rfl
theorem goes_none {P : Program} (h : P.funcs.any Func.goes = false) (f : FuncId) : P.goes f = false := by
  unfold Program.goes
  rw [h, Bool.and_false, Bool.or_false, List.any_eq_false]
  intro g _
  cases e : P.funcs[g]? with
  | none => simp
  | some fn =>
    obtain ⟨hg, hfn⟩ := Array.getElem?_eq_some_iff.1 e
    have h1 := Array.any_eq_false.1 h g hg
    rw [hfn] at h1
    simpa using h1
end Go.Proofs.YtcgecgilkapjaaaGreatDoor
