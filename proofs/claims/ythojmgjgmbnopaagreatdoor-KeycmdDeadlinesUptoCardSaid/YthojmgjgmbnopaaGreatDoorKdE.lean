/- KeycmdDeadlines: the law returns true for every input, and each argument reads behind the call as it read before; the five listed variables of the library are tied to the text. The condition: the arguments hold together at most 1048576 values and letters (the second form). -/
import Derived.Test.YthojmgjgmbnopaaGreatDoorKA
import Derived.Test.YthojmgjgmbnopaaGreatDoorLA
namespace Go.Proofs.YthojmgjgmbnopaaGreatDoor
open Go Go.RowKit Go.ChangeShapes Go.WideShapes Go.ChangeAt Go.Deep Go.ChangeMaps Go.Joins
set_option maxRecDepth 100000 in
theorem keycmdDeadlines_contract (H : Type) (enc : TypeId × Value → H) (W : World) (base : Nat) (args : Array Value) (ds gs : List (DataW H)) (before : List MemPlace)
    (hval : ∀ (j : Nat) t v, Tryz.f8.params[j]? = some t → args[j]? = some v → Value.okWide Tryz.prog W .any base t v)
    (hW : DataW.Whole enc Tryz.prog Tryz.f8.params.toList Rows.keycmdDeadlinesSpec.vars false W args.toList ds gs before) (hk : Rows.uptoSmall H (ds ++ gs) = true) (hL : laidMetH Tryz.prog laid5 W) :
    Calls Tryz.prog 8 args W fun e W' => ∃ v, e = .returned v ∧ Rows.keycmdDeadlinesSpec.post enc Tryz.prog Tryz.f8 false true false false W args v W' := by
  have hT := laid_both hL
  have hW' := hW
  obtain ⟨p, q, hA0, hV, rfl, hfz, hnd⟩ := hW
  have hA : DataW.TrodAll enc Tryz.prog W 0 (fun _ => true) true Tryz.f8.params.toList args.toList ds p := hA0
  rw [Tryz.params8] at hA hval
  obtain ⟨v0, vs0, d0, ds0, p0, q0, hargs, rfl, rfl, h0, r0⟩ := trodAll_cons hA
  obtain ⟨v1, vs1, d1, ds1, p1, q1, rfl, rfl, rfl, h1, r1⟩ := trodAll_cons r0
  obtain ⟨rfl, rfl, rfl⟩ := trodAll_nil r1
  obtain rfl : args = #[v0, v1] := by cases args; simp_all
  obtain ⟨rfl, rfl⟩ := trodVars_none hV
  have _ := hk
  obtain ⟨n0, rfl, rfl, rfl, wf0⟩ := open_int Tryz.underlying3 (hval 0 3 v0 rfl rfl) h0
  obtain ⟨n1, rfl, rfl, rfl, wf1⟩ := open_int Tryz.underlying3 (hval 1 3 v1 rfl rfl) h1
  have hpost : ∀ W', Below W.heap.size W W' → Rows.keycmdDeadlinesSpec.post enc Tryz.prog Tryz.f8 false true false false W _ (.bool true) W' := fun W' hg =>
    law_post laidR rfl rfl Tryz.underlying4 (by rw [Tryz.params8]; intro t ht; simp at ht; subst ht; exact read_int) hW' rfl hg
  exact (kDeadlines_con W hT n0 n1).mono fun e W' ⟨he, hg⟩ => ⟨_, he, hpost W' hg⟩

theorem keycmdDeadlines_reads (os : Os) {H : Type} (enc : TypeId × Value → H) : ∃ places, DataW.whole enc Tryz.prog ((startW os).forCall (fun _ _ => 0) ⟨#[], #[.int .i64 0, .int .i64 0], []⟩).memory Tryz.f8.params.toList Rows.keycmdDeadlinesSpec.vars false (#[.int .i64 0, .int .i64 0] : Array Value).toList 8 = some ([.lit (.int .i64 0), .lit (.int .i64 0)], [], places) :=
  ⟨[], by kernel_rfl⟩
set_option maxRecDepth 100000 in
theorem keycmdDeadlines_lifted (os : Os) (started : os.Started) (H : Type) (enc : TypeId × Value → H) (F : Stop.Interp) :
    ReturnsInHanded {} Tryz.checked os 8 .any ((Rows.OpenSpec.upto Rows.keycmdDeadlinesSpec).preRow enc Tryz.prog Tryz.f8 Rows.keycmdDeadlinesUptoRow.domain false Rows.keycmdDeadlinesUptoRow.laid) (((Rows.OpenSpec.upto Rows.keycmdDeadlinesSpec).at F).post enc Tryz.prog Tryz.f8 false true false false) := by
  obtain ⟨places, hx⟩ := keycmdDeadlines_reads os enc
  refine returnsInHanded_of_row (C := Tryz.checked) (s := Rows.OpenSpec.upto Rows.keycmdDeadlinesSpec) ownR started (by kernel_rfl) Tryz.func8
    (witness_row_atRef (enc := enc) (C := Tryz.checked) false (startW os) #[.int .i64 0, .int .i64 0] rfl (by kernel_rfl) (by kernel_rfl) (by kernel_rfl)
      (OpenSpec.preRow_of_cond 8 hx (by kernel_rfl) (fun k hk => by cases hk; kernel_rfl) (by kernel_rfl) (start_laid os _))) ?_
  intro W base args ds gs before hval hW _ hcond _ hL _ _
  exact keycmdDeadlines_contract H enc W base args ds gs before hval hW (hcond _ rfl) hL

theorem keycmdDeadlines_f1 : (Rows.keycmdDeadlinesUptoRow.inPlace == Tryz.pinned.checked.prog.inPlace 8) = true := by kernel_rfl
theorem keycmdDeadlines_f2 : (Rows.keycmdDeadlinesUptoRow.unfollowed == Tryz.pinned.checked.prog.unfollowed 8) = true := by kernel_rfl
theorem keycmdDeadlines_f3 : (Rows.keycmdDeadlinesUptoRow.recurses == Tryz.pinned.checked.prog.recurses 8) = true := by kernel_rfl
theorem keycmdDeadlines_f4 : (Rows.keycmdDeadlinesUptoRow.named == Tryz.pinned.checked.prog.varsNamed 8) = true := by kernel_rfl
theorem keycmdDeadlines_closed : joinedFacts Tryz.pinned.checked.prog 8 Tryz.f8 (Rows.OpenSpec.upto Rows.keycmdDeadlinesSpec).bare Rows.keycmdDeadlinesUptoRow = true := by
  unfold joinedFacts
  rw [keycmdDeadlines_f1, keycmdDeadlines_f2, keycmdDeadlines_f3, keycmdDeadlines_f4]
  kernel_rfl
theorem keycmdDeadlines_over : Rows.KeycmdDeadlinesUptoSaid :=
  OpenClaim.holds_of_cond 8 Tryz.f8 rfl rfl rfl rfl rfl rfl rfl ⟨rfl, rfl, rfl, rfl, rfl⟩ rfl rfl rfl rfl rfl (by kernel_rfl) Tryz.func8 keycmdDeadlines_closed
    (of_decide_eq_true (by kernel_rfl)) (by unfold Func.isWrapper; first | (rw [if_pos (by decide +kernel)]; kernel_rfl) | (rw [if_neg (by decide +kernel)]; exact ⟨rfl, rfl⟩))
    (fun os started H enc _ F => by rw [OpenClaim.pre_eq_preRow]; exact keycmdDeadlines_lifted os started H enc F)
theorem keycmdDeadlines_plain (f : FuncId) (fn : Func) (hf : Tryz.pinned.checked.prog.funcNamed "covenant/covenantlaw18.KeycmdDeadlines" = some f) (hfn : Tryz.pinned.checked.prog.funcs[f]? = some fn) :
    true = Tryz.pinned.checked.prog.looks [] ∧ ∀ (j : Nat) t, fn.params[j]? = some t → Tryz.pinned.checked.prog.wantsStandIn t = false := by
  obtain rfl : f = 8 := Option.some.inj ((show Tryz.prog.funcNamed "covenant/covenantlaw18.KeycmdDeadlines" = some 8 by kernel_rfl).symm.trans hf) |>.symm
  obtain rfl : fn = Tryz.f8 := (Option.some.inj (Tryz.func8.symm.trans hfn)).symm
  refine ⟨by kernel_rfl, fun j t ht => ?_⟩
  rw [Tryz.params8] at ht
  have hm : t ∈ [3, 3] := by simpa using Array.mem_of_getElem? ht
  have hall : ([3, 3].all fun u => !Tryz.prog.wantsStandIn u) = true := by kernel_rfl
  exact (show Tryz.prog.wantsStandIn t = false by simpa using List.all_eq_true.1 hall t hm)

theorem keycmdDeadlines_g1 : Rows.keycmdDeadlinesUptoRow.wfByText (Rows.OpenSpec.upto Rows.keycmdDeadlinesSpec) = true := by kernel_rfl
theorem keycmdDeadlines_g2 : Tryz.pinned.checked.prog.mainIs = some (Rows.keycmdDeadlinesUptoCard.stood.harness.1, Rows.keycmdDeadlinesUptoCard.stood.harness.2.toList) := by kernel_rfl
theorem keycmdDeadlines_g3 : false = Rows.keycmdDeadlinesUptoRow.goesBy Tryz.pinned.checked.prog := by kernel_rfl
/-- KeycmdDeadlines, up to the bound, tied. -/
theorem KeycmdDeadlines_holds : Rows.KeycmdDeadlinesUptoCardSaid :=
  Claim7.holds_tied_plain_at .later [] _ _ Rows.keycmdDeadlinesUptoCard.stood.harness _ keycmdDeadlines_over (fun _ h => by cases h) keycmdDeadlines_g1 (fun _ h => by cases h) keycmdDeadlinesUpto_row_tie rfl ⟨rfl, rfl⟩ keycmdDeadlines_g2 rfl keycmdDeadlines_plain keycmdDeadlines_g3
#print axioms KeycmdDeadlines_holds
end Go.Proofs.YthojmgjgmbnopaaGreatDoor
