/- RequestNobody: the law returns true for every input, and each argument reads behind the call as it read before. The condition: the arguments hold together at most 1048576 values and letters (the second form). -/
import Derived.Test.YtgdgnpjgemcjgaaNob
namespace Go.Proofs.Ytgdgnpjgemcjgaa
open Go Go.RowKit Go.ChangeShapes Go.WideShapes Go.ChangeAt Go.Deep Go.ChangeMaps Go.Joins
theorem requestNobody_contract (H : Type) (enc : TypeId × Value → H) (W : World) (base : Nat) (args : Array Value) (ds gs : List (DataW H)) (before : List MemPlace)
    (hval : ∀ (j : Nat) t v, Try.f7.params[j]? = some t → args[j]? = some v → Value.okWide Try.prog W .any base t v)
    (hW : DataW.Whole enc Try.prog Try.f7.params.toList Rows.requestNobodySpec.vars false W args.toList ds gs before) (hk : Rows.uptoSmall H (ds ++ gs) = true) :
    Calls Try.prog 7 args W fun e W' => ∃ v, e = .returned v ∧ Rows.requestNobodySpec.post enc Try.prog Try.f7 false true false false W args v W' := by
  have hW' := hW
  obtain ⟨p, q, hA0, hV, rfl, hfz, hnd⟩ := hW
  have hA : DataW.TrodAll enc Try.prog W 0 (fun _ => true) true Try.f7.params.toList args.toList ds p := hA0
  rw [Try.params7] at hA hval
  obtain ⟨v0, vs0, d0, ds0, p0, q0, hargs, rfl, rfl, h0, r0⟩ := trodAll_cons hA
  obtain ⟨rfl, rfl, rfl⟩ := trodAll_nil r0
  obtain rfl : args = #[v0] := by cases args; simp_all
  obtain ⟨rfl, rfl⟩ := trodVars_none hV
  have hb := upto_of (by simpa using hk)
  simp only [Rows.uptoBulkAll] at hb
  obtain ⟨s0, rfl, k0⟩ := op_str (hval 0 9 v0 rfl rfl) h0
  have hpost : ∀ W', Below W.heap.size W W' → Rows.requestNobodySpec.post enc Try.prog Try.f7 false true false false W _ (.bool true) W' := fun W' hg =>
    law_post laidR rfl rfl Try.underlying4 (by rw [Try.params7]; intro t ht; simp at ht; subst ht; exact read_str) hW' rfl hg
  exact (nobody_law s0 (by omega) W).mono fun e W' ⟨he, hg⟩ => ⟨_, he, hpost W' hg⟩

set_option maxRecDepth 100000 in
theorem requestNobody_lifted (os : Os) (started : os.Started) (H : Type) (enc : TypeId × Value → H) (F : Stop.Interp) :
    ReturnsInHanded {} Try.checked os 7 .any ((Rows.OpenSpec.upto Rows.requestNobodySpec).pre6 enc Try.prog Try.f7 Rows.requestNobodyUptoRow.domain false) (((Rows.OpenSpec.upto Rows.requestNobodySpec).at F).post enc Try.prog Try.f7 false true false false) := by
  refine returnsInHanded_of_cond (C := Try.checked) (s := Rows.OpenSpec.upto Rows.requestNobodySpec) (k := Rows.uptoSmall) rfl ownR started (by kernel_rfl) Try.func7
    (OpenSpec.witness (enc := enc) (C := Try.checked) (s := Rows.OpenSpec.upto Rows.requestNobodySpec) (k := Rows.uptoSmall) rfl false ⟨#[], #[.string ⟨#[]⟩], []⟩ 8 (by kernel_rfl) (by kernel_rfl) (by kernel_rfl)
      (x := ([.lit (.string [])], [], [])) (by kernel_rfl) rfl (by kernel_rfl)) ?_
  intro W base args ds gs before hval hW _ hk _
  exact requestNobody_contract H enc W base args ds gs before hval hW hk

theorem requestNobody_over : Rows.requestNobodyUptoRow.holds Try.pinned (Rows.OpenSpec.upto Rows.requestNobodySpec) :=
  OpenClaim.holds_of_cond 7 Try.f7 rfl rfl rfl rfl rfl rfl rfl ⟨rfl, rfl, rfl, rfl, rfl⟩ rfl rfl rfl rfl rfl (by kernel_rfl) Try.func7 (by kernel_rfl)
    (of_decide_eq_true (by kernel_rfl)) (by unfold Func.isWrapper; first | (rw [if_pos (by decide +kernel)]; kernel_rfl) | (rw [if_neg (by decide +kernel)]; exact ⟨rfl, rfl⟩))
    (fun os started H enc _ F => requestNobody_lifted os started H enc F)

/-- RequestNobody, up to the bound. -/
theorem RequestNobody_holds : Rows.RequestNobodyUptoSaid := requestNobody_over
#print axioms RequestNobody_holds
end Go.Proofs.Ytgdgnpjgemcjgaa
