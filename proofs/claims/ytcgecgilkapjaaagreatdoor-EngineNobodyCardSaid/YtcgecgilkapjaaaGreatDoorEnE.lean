/- EngineNobody: the law returns true for every input, and each argument reads behind the call as it read before. -/
import Derived.Test.YtcgecgilkapjaaaGreatDoorQc
import Derived.Test.YtcgecgilkapjaaaGreatDoorLds
import Derived.Test.YtcgecgilkapjaaaGreatDoorEn8
import Derived.Test.YtcgecgilkapjaaaGreatDoorGi
import Derived.Test.YtcgecgilkapjaaaGreatDoorTie
namespace Go.Proofs.YtcgecgilkapjaaaGreatDoor
open Go Go.RowKit Go.ChangeShapes Go.WideShapes Go.ChangeAt Go.Deep Go.ChangeMaps Go.Joins
set_option maxRecDepth 100000 in
theorem engineNobody_contract (H : Type) (enc : TypeId × Value → H) (W : World) (base : Nat) (args : Array Value) (ds gs : List (DataW H)) (before : List MemPlace)
    (hval : ∀ (j : Nat) t v, Tryz.f3.params[j]? = some t → args[j]? = some v → Value.okWide Tryz.prog W .any base t v)
    (hW : DataW.Whole enc Tryz.prog Tryz.f3.params.toList Rows.engineNobodySpec.vars false W args.toList ds gs before) :
    Calls Tryz.prog 3 args W fun e W' => ∃ v, e = .returned v ∧ Rows.engineNobodySpec.post enc Tryz.prog Tryz.f3 false true false false W args v W' := by
  have hW' := hW
  obtain ⟨p, q, hA0, hV, rfl, hfz, hnd⟩ := hW
  have hA : DataW.TrodAll enc Tryz.prog W 0 (fun _ => true) true Tryz.f3.params.toList args.toList ds p := hA0
  rw [Tryz.params3] at hA hval
  obtain ⟨v0, vs0, d0, ds0, p0, q0, hargs, rfl, rfl, h0, r0⟩ := trodAll_cons hA
  obtain ⟨v1, vs1, d1, ds1, p1, q1, rfl, rfl, rfl, h1, r1⟩ := trodAll_cons r0
  obtain ⟨rfl, rfl, rfl⟩ := trodAll_nil r1
  obtain rfl : args = #[v0, v1] := by cases args; simp_all
  obtain ⟨rfl, rfl⟩ := trodVars_none hV
  obtain ⟨n0, rfl, rfl, rfl, wf0⟩ := open_int Tryz.underlying3 (hval 0 3 v0 rfl rfl) h0
  have hpost : ∀ W', Below W.heap.size W W' → Rows.engineNobodySpec.post enc Tryz.prog Tryz.f3 false true false false W _ (.bool true) W' := fun W' hg =>
    law_post laidR rfl rfl Tryz.underlying4 (by rw [Tryz.params3]; intro t ht; simp at ht; rcases ht with rfl | rfl; exact read_int; exact read_strs) hW' rfl hg
  exact (nobody_con W n0 v1 (slice_plain Tryz.underlying22 (hval 1 22 v1 rfl rfl))).mono fun e W' ⟨he, hg⟩ => ⟨_, he, hpost W' hg⟩

theorem engineNobody_reads (os : Os) {H : Type} (enc : TypeId × Value → H) : ∃ places, DataW.whole enc Tryz.prog ((startW os).forCall (fun _ _ => 0) ⟨#[], #[.int .i64 0, .slice none 0 0], []⟩).memory Tryz.f3.params.toList Rows.engineNobodySpec.vars false (#[.int .i64 0, .slice none 0 0] : Array Value).toList 8 = some ([.lit (.int .i64 0), .nil], [], places) :=
  ⟨[], by kernel_rfl⟩
theorem engineNobody_start (os : Os) (args : Array Value) : laidMet Tryz.prog Rows.engineNobodyRow.laid ((startW os).forCall (fun _ _ => 0) ⟨#[], args, []⟩).memory :=
  laidMet_of_run' 8 (by kernel_rfl) (by kernel_rfl)
set_option maxRecDepth 100000 in
theorem engineNobody_lifted (os : Os) (started : os.Started) (H : Type) (enc : TypeId × Value → H) (F : Stop.Interp) :
    ReturnsInHanded {} Tryz.checked os 3 .any ((OpenSpec.ofChange Rows.engineNobodySpec).preRow enc Tryz.prog Tryz.f3 Rows.engineNobodyRow.domain false Rows.engineNobodyRow.laid) (((OpenSpec.ofChange Rows.engineNobodySpec).at F).post enc Tryz.prog Tryz.f3 false true false false) := by
  obtain ⟨places, hx⟩ := engineNobody_reads os enc
  refine returnsInHanded_of_row (C := Tryz.checked) (s := OpenSpec.ofChange Rows.engineNobodySpec) ownR started (by kernel_rfl) Tryz.func3
    (witness_row_atRef (enc := enc) (C := Tryz.checked) false (startW os) #[.int .i64 0, .slice none 0 0] rfl (by kernel_rfl) (by kernel_rfl) (by kernel_rfl)
      (OpenSpec.preRow_of_cond 8 hx (by kernel_rfl) (fun k hk => by cases hk) (by kernel_rfl) (engineNobody_start os _))) ?_
  intro W base args ds gs before hval hW _ hcond _ hL _ _
  exact engineNobody_contract H enc W base args ds gs before hval hW

theorem engineNobody_over : Rows.EngineNobodySaid :=
  OpenClaim.holds_of_cond 3 Tryz.f3 rfl rfl rfl rfl rfl rfl rfl ⟨rfl, rfl, rfl, rfl, rfl⟩ rfl rfl rfl rfl rfl (by kernel_rfl) Tryz.func3 engineNobody_closed
    (of_decide_eq_true (by kernel_rfl)) (by unfold Func.isWrapper; first | (rw [if_pos (by decide +kernel)]; kernel_rfl) | (rw [if_neg (by decide +kernel)]; exact ⟨rfl, rfl⟩))
    (fun os started H enc _ F => by rw [OpenClaim.pre_eq_preRow]; exact engineNobody_lifted os started H enc F)
theorem engineNobody_plain (f : FuncId) (fn : Func) (hf : Tryz.pinned.checked.prog.funcNamed "covenant/covenantlaw24.EngineNobody" = some f) (hfn : Tryz.pinned.checked.prog.funcs[f]? = some fn) :
    true = Tryz.pinned.checked.prog.looks [] ∧ ∀ (j : Nat) t, fn.params[j]? = some t → Tryz.pinned.checked.prog.wantsStandIn t = false := by
  obtain rfl : f = 3 := Option.some.inj ((show Tryz.prog.funcNamed "covenant/covenantlaw24.EngineNobody" = some 3 by kernel_rfl).symm.trans hf) |>.symm
  obtain rfl : fn = Tryz.f3 := (Option.some.inj (Tryz.func3.symm.trans hfn)).symm
  refine ⟨by kernel_rfl, fun j t ht => ?_⟩
  rw [Tryz.params3] at ht
  have hm : t ∈ [3, 22] := by simpa using Array.mem_of_getElem? ht
  have hall : ([3, 22].all fun u => !Tryz.prog.wantsStandIn u) = true := by kernel_rfl
  exact (show Tryz.prog.wantsStandIn t = false by simpa using List.all_eq_true.1 hall t hm)

theorem engineNobody_g1 : Rows.engineNobodyRow.wfByText (OpenSpec.ofChange Rows.engineNobodySpec) = true := by kernel_rfl
theorem engineNobody_g2 : Tryz.pinned.checked.prog.mainIs = some (Rows.engineNobodyCard.stood.harness.1, Rows.engineNobodyCard.stood.harness.2.toList) := by kernel_rfl
theorem engineNobody_g3 : false = Rows.engineNobodyRow.goesBy Tryz.pinned.checked.prog := goes_by _
/-- EngineNobody, tied. -/
theorem EngineNobody_holds : Rows.EngineNobodyCardSaid :=
  Claim7.holds_tied_plain_at .later [] _ _ Rows.engineNobodyCard.stood.harness _ engineNobody_over (fun _ h => by cases h) engineNobody_g1 (fun _ h => by cases h) engineNobody_row_tie rfl ⟨rfl, rfl⟩ engineNobody_g2 rfl engineNobody_plain engineNobody_g3
#print axioms EngineNobody_holds
end Go.Proofs.YtcgecgilkapjaaaGreatDoor
