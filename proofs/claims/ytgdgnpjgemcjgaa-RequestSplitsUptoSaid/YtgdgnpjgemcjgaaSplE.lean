/- RequestSplits: the law returns true for every input, and each argument reads behind the call as it read before. The condition: the arguments hold together at most 1048576 values and letters (the second form). -/
import Derived.Test.YtgdgnpjgemcjgaaSpl
namespace Go.Proofs.Ytgdgnpjgemcjgaa
open Go Go.RowKit Go.ChangeShapes Go.WideShapes Go.ChangeAt Go.Deep Go.ChangeMaps Go.Joins
theorem requestSplits_contract (H : Type) (enc : TypeId × Value → H) (W : World) (base : Nat) (args : Array Value) (ds gs : List (DataW H)) (before : List MemPlace)
    (hval : ∀ (j : Nat) t v, Try.f4.params[j]? = some t → args[j]? = some v → Value.okWide Try.prog W .any base t v)
    (hW : DataW.Whole enc Try.prog Try.f4.params.toList Rows.requestSplitsSpec.vars false W args.toList ds gs before) (hk : Rows.uptoSmall H (ds ++ gs) = true) :
    Calls Try.prog 4 args W fun e W' => ∃ v, e = .returned v ∧ Rows.requestSplitsSpec.post enc Try.prog Try.f4 false true false false W args v W' := by
  have hW' := hW
  obtain ⟨p, q, hA0, hV, rfl, hfz, hnd⟩ := hW
  have hA : DataW.TrodAll enc Try.prog W 0 (fun _ => true) true Try.f4.params.toList args.toList ds p := hA0
  rw [Try.params4] at hA hval
  obtain ⟨v0, vs0, d0, ds0, p0, q0, hargs, rfl, rfl, h0, r0⟩ := trodAll_cons hA
  obtain ⟨rfl, rfl, rfl⟩ := trodAll_nil r0
  obtain rfl : args = #[v0] := by cases args; simp_all
  obtain ⟨rfl, rfl⟩ := trodVars_none hV
  have hb := upto_of (by simpa using hk)
  simp only [Rows.uptoBulkAll] at hb
  obtain ⟨s0, rfl, k0⟩ := op_str (hval 0 9 v0 rfl rfl) h0
  have hpost : ∀ W', Below W.heap.size W W' → Rows.requestSplitsSpec.post enc Try.prog Try.f4 false true false false W _ (.bool true) W' := fun W' hg =>
    law_post laidR rfl rfl Try.underlying4 (by rw [Try.params4]; intro t ht; simp at ht; subst ht; exact read_str) hW' rfl hg
  exact (splits_law s0 (by omega) W).mono fun e W' ⟨he, hg⟩ => ⟨_, he, hpost W' hg⟩

set_option maxRecDepth 100000 in
theorem requestSplits_lifted (os : Os) (started : os.Started) (H : Type) (enc : TypeId × Value → H) (F : Stop.Interp) :
    ReturnsInHanded {} Try.checked os 4 .any ((Rows.OpenSpec.upto Rows.requestSplitsSpec).pre6 enc Try.prog Try.f4 Rows.requestSplitsUptoRow.domain false) (((Rows.OpenSpec.upto Rows.requestSplitsSpec).at F).post enc Try.prog Try.f4 false true false false) := by
  refine returnsInHanded_of_cond (C := Try.checked) (s := Rows.OpenSpec.upto Rows.requestSplitsSpec) (k := Rows.uptoSmall) rfl ownR started (by kernel_rfl) Try.func4
    (OpenSpec.witness (enc := enc) (C := Try.checked) (s := Rows.OpenSpec.upto Rows.requestSplitsSpec) (k := Rows.uptoSmall) rfl false ⟨#[], #[.string ⟨#[]⟩], []⟩ 8 (by kernel_rfl) (by kernel_rfl) (by kernel_rfl)
      (x := ([.lit (.string [])], [], [])) (by kernel_rfl) rfl (by kernel_rfl)) ?_
  intro W base args ds gs before hval hW _ hk _
  exact requestSplits_contract H enc W base args ds gs before hval hW hk

theorem requestSplits_over : Rows.requestSplitsUptoRow.holds Try.pinned (Rows.OpenSpec.upto Rows.requestSplitsSpec) :=
  OpenClaim.holds_of_cond 4 Try.f4 rfl rfl rfl rfl rfl rfl rfl ⟨rfl, rfl, rfl, rfl, rfl⟩ rfl rfl rfl rfl rfl (by kernel_rfl) Try.func4 (by kernel_rfl)
    (of_decide_eq_true (by kernel_rfl)) (by unfold Func.isWrapper; first | (rw [if_pos (by decide +kernel)]; kernel_rfl) | (rw [if_neg (by decide +kernel)]; exact ⟨rfl, rfl⟩))
    (fun os started H enc _ F => requestSplits_lifted os started H enc F)

/-- RequestSplits, up to the bound. -/
theorem RequestSplits_holds : Rows.RequestSplitsUptoSaid := requestSplits_over
#print axioms RequestSplits_holds
end Go.Proofs.Ytgdgnpjgemcjgaa
