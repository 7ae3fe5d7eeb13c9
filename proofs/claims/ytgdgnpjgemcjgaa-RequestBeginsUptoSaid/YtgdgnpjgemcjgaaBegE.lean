/- RequestBegins: the law returns true for every input, and each argument reads behind the call as it read before. The condition: the arguments hold together at most 1048576 values and letters (the second form). -/
import Derived.Test.YtgdgnpjgemcjgaaBeg
namespace Go.Proofs.Ytgdgnpjgemcjgaa
open Go Go.RowKit Go.ChangeShapes Go.WideShapes Go.ChangeAt Go.Deep Go.ChangeMaps Go.Joins
theorem requestBegins_contract (H : Type) (enc : TypeId × Value → H) (W : World) (base : Nat) (args : Array Value) (ds gs : List (DataW H)) (before : List MemPlace)
    (hval : ∀ (j : Nat) t v, Try.f10.params[j]? = some t → args[j]? = some v → Value.okWide Try.prog W .any base t v)
    (hW : DataW.Whole enc Try.prog Try.f10.params.toList Rows.requestBeginsSpec.vars false W args.toList ds gs before) (hk : Rows.uptoSmall H (ds ++ gs) = true) :
    Calls Try.prog 10 args W fun e W' => ∃ v, e = .returned v ∧ Rows.requestBeginsSpec.post enc Try.prog Try.f10 false true false false W args v W' := by
  have hW' := hW
  obtain ⟨p, q, hA0, hV, rfl, hfz, hnd⟩ := hW
  have hA : DataW.TrodAll enc Try.prog W 0 (fun _ => true) true Try.f10.params.toList args.toList ds p := hA0
  rw [Try.params10] at hA hval
  obtain ⟨v0, vs0, d0, ds0, p0, q0, hargs, rfl, rfl, h0, r0⟩ := trodAll_cons hA
  obtain ⟨v1, vs1, d1, ds1, p1, q1, rfl, rfl, rfl, h1, r1⟩ := trodAll_cons r0
  obtain ⟨v2, vs2, d2, ds2, p2, q2, rfl, rfl, rfl, h2, r2⟩ := trodAll_cons r1
  obtain ⟨rfl, rfl, rfl⟩ := trodAll_nil r2
  obtain rfl : args = #[v0, v1, v2] := by cases args; simp_all
  obtain ⟨rfl, rfl⟩ := trodVars_none hV
  have hb := upto_of (by simpa using hk)
  simp only [Rows.uptoBulkAll] at hb
  obtain ⟨b0, a0, n0, rfl⟩ := op_lim (hval 0 23 v0 rfl rfl) h0
  obtain ⟨s1, rfl, k1⟩ := op_str (hval 1 9 v1 rfl rfl) h1
  obtain ⟨s2, rfl, k2⟩ := op_str (hval 2 9 v2 rfl rfl) h2
  have hpost : ∀ W', Below W.heap.size W W' → Rows.requestBeginsSpec.post enc Try.prog Try.f10 false true false false W _ (.bool true) W' := fun W' hg =>
    law_post laidR rfl rfl Try.underlying4 (by rw [Try.params10]; intro t ht; simp at ht; rcases ht with rfl | rfl | rfl; exact read_lim; exact read_str) hW' rfl hg
  exact (begins_law W b0 a0 n0 s1 s2 (by omega)).mono fun e W' ⟨he, hg⟩ => ⟨_, he, hpost W' hg⟩

set_option maxRecDepth 100000 in
theorem requestBegins_lifted (os : Os) (started : os.Started) (H : Type) (enc : TypeId × Value → H) (F : Stop.Interp) :
    ReturnsInHanded {} Try.checked os 10 .any ((Rows.OpenSpec.upto Rows.requestBeginsSpec).pre6 enc Try.prog Try.f10 Rows.requestBeginsUptoRow.domain false) (((Rows.OpenSpec.upto Rows.requestBeginsSpec).at F).post enc Try.prog Try.f10 false true false false) := by
  refine returnsInHanded_of_cond (C := Try.checked) (s := Rows.OpenSpec.upto Rows.requestBeginsSpec) (k := Rows.uptoSmall) rfl ownR started (by kernel_rfl) Try.func10
    (OpenSpec.witness (enc := enc) (C := Try.checked) (s := Rows.OpenSpec.upto Rows.requestBeginsSpec) (k := Rows.uptoSmall) rfl false ⟨#[], #[.agg #[.int .i64 0, .int .i64 0, .int .i64 0], .string ⟨#[]⟩, .string ⟨#[]⟩], []⟩ 8 (by kernel_rfl) (by kernel_rfl) (by kernel_rfl)
      (x := ([.agg [.lit (.int .i64 0), .lit (.int .i64 0), .lit (.int .i64 0)], .lit (.string []), .lit (.string [])], [], [])) (by kernel_rfl) rfl (by kernel_rfl)) ?_
  intro W base args ds gs before hval hW _ hk _
  exact requestBegins_contract H enc W base args ds gs before hval hW hk

theorem requestBegins_over : Rows.requestBeginsUptoRow.holds Try.pinned (Rows.OpenSpec.upto Rows.requestBeginsSpec) :=
  OpenClaim.holds_of_cond 10 Try.f10 rfl rfl rfl rfl rfl rfl rfl ⟨rfl, rfl, rfl, rfl, rfl⟩ rfl rfl rfl rfl rfl (by kernel_rfl) Try.func10 (by kernel_rfl)
    (of_decide_eq_true (by kernel_rfl)) (by unfold Func.isWrapper; first | (rw [if_pos (by decide +kernel)]; kernel_rfl) | (rw [if_neg (by decide +kernel)]; exact ⟨rfl, rfl⟩))
    (fun os started H enc _ F => requestBegins_lifted os started H enc F)

/-- RequestBegins, up to the bound. -/
theorem RequestBegins_holds : Rows.RequestBeginsUptoSaid := requestBegins_over
#print axioms RequestBegins_holds
end Go.Proofs.Ytgdgnpjgemcjgaa
