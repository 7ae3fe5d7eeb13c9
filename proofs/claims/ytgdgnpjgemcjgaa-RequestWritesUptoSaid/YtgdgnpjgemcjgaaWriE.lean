/- RequestWrites: the law returns true for every input, and each argument reads behind the call as it read before. The condition: the arguments hold together at most 1048576 values and letters (the second form). -/
import Derived.Test.YtgdgnpjgemcjgaaWri
namespace Go.Proofs.Ytgdgnpjgemcjgaa
open Go Go.RowKit Go.ChangeShapes Go.WideShapes Go.ChangeAt Go.Deep Go.ChangeMaps Go.Joins
theorem requestWrites_contract (H : Type) (enc : TypeId × Value → H) (W : World) (base : Nat) (args : Array Value) (ds gs : List (DataW H)) (before : List MemPlace)
    (hval : ∀ (j : Nat) t v, Try.f5.params[j]? = some t → args[j]? = some v → Value.okWide Try.prog W .any base t v)
    (hW : DataW.Whole enc Try.prog Try.f5.params.toList Rows.requestWritesSpec.vars false W args.toList ds gs before) (hk : Rows.uptoSmall H (ds ++ gs) = true) :
    Calls Try.prog 5 args W fun e W' => ∃ v, e = .returned v ∧ Rows.requestWritesSpec.post enc Try.prog Try.f5 false true false false W args v W' := by
  have hW' := hW
  obtain ⟨p, q, hA0, hV, rfl, hfz, hnd⟩ := hW
  have hA : DataW.TrodAll enc Try.prog W 0 (fun _ => true) true Try.f5.params.toList args.toList ds p := hA0
  rw [Try.params5] at hA hval
  obtain ⟨v0, vs0, d0, ds0, p0, q0, hargs, rfl, rfl, h0, r0⟩ := trodAll_cons hA
  obtain ⟨rfl, rfl, rfl⟩ := trodAll_nil r0
  obtain rfl : args = #[v0] := by cases args; simp_all
  obtain ⟨rfl, rfl⟩ := trodVars_none hV
  have hb := upto_of (by simpa using hk)
  simp only [Rows.uptoBulkAll] at hb
  obtain ⟨aa0, ll0, cc0, hv0⟩ := okWide_slice Try.underlying33 (hval 0 33 v0 rfl rfl)
  obtain ⟨fuel0, hf0⟩ := h0
  obtain ⟨ws0, T0, k0⟩ := trod_strs (v := v0) (x := (d0, p0)) (by simpa [hv0, Value.cells] using hf0)
  dsimp only at k0
  have hpost : ∀ W', Below W.heap.size W W' → Rows.requestWritesSpec.post enc Try.prog Try.f5 false true false false W _ (.bool true) W' := fun W' hg =>
    law_post laidR rfl rfl Try.underlying4 (by rw [Try.params5]; intro t ht; simp at ht; subst ht; exact read_strs) hW' rfl hg
  exact (writes_law W ws0 v0 T0 (by omega)).mono fun e W' ⟨he, hg⟩ => ⟨_, he, hpost W' hg⟩

set_option maxRecDepth 100000 in
theorem requestWrites_lifted (os : Os) (started : os.Started) (H : Type) (enc : TypeId × Value → H) (F : Stop.Interp) :
    ReturnsInHanded {} Try.checked os 5 .any ((Rows.OpenSpec.upto Rows.requestWritesSpec).pre6 enc Try.prog Try.f5 Rows.requestWritesUptoRow.domain false) (((Rows.OpenSpec.upto Rows.requestWritesSpec).at F).post enc Try.prog Try.f5 false true false false) := by
  refine returnsInHanded_of_cond (C := Try.checked) (s := Rows.OpenSpec.upto Rows.requestWritesSpec) (k := Rows.uptoSmall) rfl ownR started (by kernel_rfl) Try.func5
    (OpenSpec.witness (enc := enc) (C := Try.checked) (s := Rows.OpenSpec.upto Rows.requestWritesSpec) (k := Rows.uptoSmall) rfl false ⟨#[], #[.slice none 0 0], []⟩ 8 (by kernel_rfl) (by kernel_rfl) (by kernel_rfl)
      (x := ([.nil], [], [])) (by kernel_rfl) rfl (by kernel_rfl)) ?_
  intro W base args ds gs before hval hW _ hk _
  exact requestWrites_contract H enc W base args ds gs before hval hW hk

theorem requestWrites_over : Rows.requestWritesUptoRow.holds Try.pinned (Rows.OpenSpec.upto Rows.requestWritesSpec) :=
  OpenClaim.holds_of_cond 5 Try.f5 rfl rfl rfl rfl rfl rfl rfl ⟨rfl, rfl, rfl, rfl, rfl⟩ rfl rfl rfl rfl rfl (by kernel_rfl) Try.func5 (by kernel_rfl)
    (of_decide_eq_true (by kernel_rfl)) (by unfold Func.isWrapper; first | (rw [if_pos (by decide +kernel)]; kernel_rfl) | (rw [if_neg (by decide +kernel)]; exact ⟨rfl, rfl⟩))
    (fun os started H enc _ F => requestWrites_lifted os started H enc F)

/-- RequestWrites, up to the bound. -/
theorem RequestWrites_holds : Rows.RequestWritesUptoSaid := requestWrites_over
#print axioms RequestWrites_holds
end Go.Proofs.Ytgdgnpjgemcjgaa
