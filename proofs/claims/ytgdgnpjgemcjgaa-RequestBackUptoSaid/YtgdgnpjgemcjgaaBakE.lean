/- RequestBack: the law returns true for every input, and each argument reads behind the call as it read before. The condition: the arguments hold together at most 1048576 values and letters (the second form). -/
import Derived.Test.YtgdgnpjgemcjgaaBak
namespace Go.Proofs.Ytgdgnpjgemcjgaa
open Go Go.RowKit Go.ChangeShapes Go.WideShapes Go.ChangeAt Go.Deep Go.ChangeMaps Go.Joins
theorem requestBack_contract (H : Type) (enc : TypeId × Value → H) (W : World) (base : Nat) (args : Array Value) (ds gs : List (DataW H)) (before : List MemPlace)
    (hval : ∀ (j : Nat) t v, Try.f8.params[j]? = some t → args[j]? = some v → Value.okWide Try.prog W .any base t v)
    (hW : DataW.Whole enc Try.prog Try.f8.params.toList Rows.requestBackSpec.vars false W args.toList ds gs before) (hk : Rows.uptoSmall H (ds ++ gs) = true) :
    Calls Try.prog 8 args W fun e W' => ∃ v, e = .returned v ∧ Rows.requestBackSpec.post enc Try.prog Try.f8 false true false false W args v W' := by
  have hW' := hW
  obtain ⟨p, q, hA0, hV, rfl, hfz, hnd⟩ := hW
  have hA : DataW.TrodAll enc Try.prog W 0 (fun _ => true) true Try.f8.params.toList args.toList ds p := hA0
  rw [Try.params8] at hA hval
  obtain ⟨v0, vs0, d0, ds0, p0, q0, hargs, rfl, rfl, h0, r0⟩ := trodAll_cons hA
  obtain ⟨v1, vs1, d1, ds1, p1, q1, rfl, rfl, rfl, h1, r1⟩ := trodAll_cons r0
  obtain ⟨rfl, rfl, rfl⟩ := trodAll_nil r1
  obtain rfl : args = #[v0, v1] := by cases args; simp_all
  obtain ⟨rfl, rfl⟩ := trodVars_none hV
  have hb := upto_of (by simpa using hk)
  simp only [Rows.uptoBulkAll] at hb
  obtain ⟨b0, a0, n0, rfl⟩ := op_lim (hval 0 23 v0 rfl rfl) h0
  obtain ⟨aa1, ll1, cc1, hv1⟩ := okWide_slice Try.underlying24 (hval 1 24 v1 rfl rfl)
  obtain ⟨fuel1, hf1⟩ := h1
  obtain ⟨ws1, T1, k1⟩ := trod_strss (v := v1) (x := (d1, p1)) (by simpa [hv1, Value.cells] using hf1) (by dsimp only; omega)
  dsimp only at k1
  have hpost : ∀ W', Below W.heap.size W W' → Rows.requestBackSpec.post enc Try.prog Try.f8 false true false false W _ (.bool true) W' := fun W' hg =>
    law_post laidR rfl rfl Try.underlying4 (by rw [Try.params8]; intro t ht; simp at ht; rcases ht with rfl | rfl; exact read_lim; exact read_strss) hW' rfl hg
  exact (back_law W b0 a0 n0 ws1 v1 T1 (by omega)).mono fun e W' ⟨he, hg⟩ => ⟨_, he, hpost W' hg⟩

set_option maxRecDepth 100000 in
theorem requestBack_lifted (os : Os) (started : os.Started) (H : Type) (enc : TypeId × Value → H) (F : Stop.Interp) :
    ReturnsInHanded {} Try.checked os 8 .any ((Rows.OpenSpec.upto Rows.requestBackSpec).pre6 enc Try.prog Try.f8 Rows.requestBackUptoRow.domain false) (((Rows.OpenSpec.upto Rows.requestBackSpec).at F).post enc Try.prog Try.f8 false true false false) := by
  refine returnsInHanded_of_cond (C := Try.checked) (s := Rows.OpenSpec.upto Rows.requestBackSpec) (k := Rows.uptoSmall) rfl ownR started (by kernel_rfl) Try.func8
    (OpenSpec.witness (enc := enc) (C := Try.checked) (s := Rows.OpenSpec.upto Rows.requestBackSpec) (k := Rows.uptoSmall) rfl false ⟨#[], #[.agg #[.int .i64 0, .int .i64 0, .int .i64 0], .slice none 0 0], []⟩ 8 (by kernel_rfl) (by kernel_rfl) (by kernel_rfl)
      (x := ([.agg [.lit (.int .i64 0), .lit (.int .i64 0), .lit (.int .i64 0)], .nil], [], [])) (by kernel_rfl) rfl (by kernel_rfl)) ?_
  intro W base args ds gs before hval hW _ hk _
  exact requestBack_contract H enc W base args ds gs before hval hW hk

theorem requestBack_over : Rows.requestBackUptoRow.holds Try.pinned (Rows.OpenSpec.upto Rows.requestBackSpec) :=
  OpenClaim.holds_of_cond 8 Try.f8 rfl rfl rfl rfl rfl rfl rfl ⟨rfl, rfl, rfl, rfl, rfl⟩ rfl rfl rfl rfl rfl (by kernel_rfl) Try.func8 (by kernel_rfl)
    (of_decide_eq_true (by kernel_rfl)) (by unfold Func.isWrapper; first | (rw [if_pos (by decide +kernel)]; kernel_rfl) | (rw [if_neg (by decide +kernel)]; exact ⟨rfl, rfl⟩))
    (fun os started H enc _ F => requestBack_lifted os started H enc F)

/-- RequestBack, up to the bound. -/
theorem RequestBack_holds : Rows.RequestBackUptoSaid := requestBack_over
#print axioms RequestBack_holds
end Go.Proofs.Ytgdgnpjgemcjgaa
