/- KeycmdNames: the law returns true for every input, and each argument reads behind the call as it read before; the five listed variables of the library are tied to the text. The condition: the arguments hold together at most 1048576 values and letters (the second form). -/
import Derived.Test.YthojmgjgmbnopaaGreatDoorQc
import Derived.Test.YthojmgjgmbnopaaGreatDoorLdk
namespace Go.Proofs.YthojmgjgmbnopaaGreatDoor
open Go Go.RowKit Go.ChangeShapes Go.WideShapes Go.ChangeAt Go.Deep Go.ChangeMaps Go.Joins
set_option maxRecDepth 100000 in
theorem keycmdNames_contract (H : Type) (enc : TypeId × Value → H) (W : World) (base : Nat) (args : Array Value) (ds gs : List (DataW H)) (before : List MemPlace)
    (hval : ∀ (j : Nat) t v, Tryz.f6.params[j]? = some t → args[j]? = some v → Value.okWide Tryz.prog W .any base t v)
    (hW : DataW.Whole enc Tryz.prog Tryz.f6.params.toList Rows.keycmdNamesSpec.vars false W args.toList ds gs before) (hk : Rows.uptoSmall H (ds ++ gs) = true) (hL : laidMetH Tryz.prog laid5 W) :
    Calls Tryz.prog 6 args W fun e W' => ∃ v, e = .returned v ∧ Rows.keycmdNamesSpec.post enc Tryz.prog Tryz.f6 false true false false W args v W' := by
  have hT := laid_two hL
  have hW' := hW
  obtain ⟨p, q, hA0, hV, rfl, hfz, hnd⟩ := hW
  have hA : DataW.TrodAll enc Tryz.prog W 0 (fun _ => true) true Tryz.f6.params.toList args.toList ds p := hA0
  rw [Tryz.params6] at hA hval
  obtain ⟨v0, vs0, d0, ds0, p0, q0, hargs, rfl, rfl, h0, r0⟩ := trodAll_cons hA
  obtain ⟨v1, vs1, d1, ds1, p1, q1, rfl, rfl, rfl, h1, r1⟩ := trodAll_cons r0
  obtain ⟨rfl, rfl, rfl⟩ := trodAll_nil r1
  obtain rfl : args = #[v0, v1] := by cases args; simp_all
  obtain ⟨rfl, rfl⟩ := trodVars_none hV
  have _ := hk
  obtain ⟨n0, rfl, rfl, rfl, wf0⟩ := open_int Tryz.underlying3 (hval 0 3 v0 rfl rfl) h0
  have hpost : ∀ W', Below W.heap.size W W' → Rows.keycmdNamesSpec.post enc Tryz.prog Tryz.f6 false true false false W _ (.bool true) W' := fun W' hg =>
    law_post laidR rfl rfl Tryz.underlying4 (by rw [Tryz.params6]; intro t ht; simp at ht; rcases ht with rfl | rfl; exact read_int; exact read_strs) hW' rfl hg
  exact (kNames_con W hT n0 v1 (slice_plain Tryz.underlying39 (hval 1 39 v1 rfl rfl))).mono fun e W' ⟨he, hg⟩ => ⟨_, he, hpost W' hg⟩

theorem keycmdNames_reads (os : Os) {H : Type} (enc : TypeId × Value → H) : ∃ places, DataW.whole enc Tryz.prog ((startW os).forCall (fun _ _ => 0) ⟨#[], #[.int .i64 0, .slice none 0 0], []⟩).memory Tryz.f6.params.toList Rows.keycmdNamesSpec.vars false (#[.int .i64 0, .slice none 0 0] : Array Value).toList 8 = some ([.lit (.int .i64 0), .nil], [], places) :=
  ⟨[], by kernel_rfl⟩
set_option maxRecDepth 100000 in
theorem keycmdNames_lifted (os : Os) (started : os.Started) (H : Type) (enc : TypeId × Value → H) (F : Stop.Interp) :
    ReturnsInHanded {} Tryz.checked os 6 .any ((Rows.OpenSpec.upto Rows.keycmdNamesSpec).preRow enc Tryz.prog Tryz.f6 Rows.keycmdNamesUptoRow.domain false Rows.keycmdNamesUptoRow.laid) (((Rows.OpenSpec.upto Rows.keycmdNamesSpec).at F).post enc Tryz.prog Tryz.f6 false true false false) := by
  obtain ⟨places, hx⟩ := keycmdNames_reads os enc
  refine returnsInHanded_of_row (C := Tryz.checked) (s := Rows.OpenSpec.upto Rows.keycmdNamesSpec) ownR started (by kernel_rfl) Tryz.func6
    (witness_row_atRef (enc := enc) (C := Tryz.checked) false (startW os) #[.int .i64 0, .slice none 0 0] rfl (by kernel_rfl) (by kernel_rfl) (by kernel_rfl)
      (OpenSpec.preRow_of_cond 8 hx (by kernel_rfl) (fun k hk => by cases hk; kernel_rfl) (by kernel_rfl) (start_laid os _))) ?_
  intro W base args ds gs before hval hW _ hcond _ hL _ _
  exact keycmdNames_contract H enc W base args ds gs before hval hW (hcond _ rfl) hL

theorem keycmdNames_f1 : (Rows.keycmdNamesUptoRow.inPlace == Tryz.pinned.checked.prog.inPlace 6) = true := by kernel_rfl
theorem keycmdNames_f2 : (Rows.keycmdNamesUptoRow.unfollowed == Tryz.pinned.checked.prog.unfollowed 6) = true := by kernel_rfl
theorem keycmdNames_f3 : (Rows.keycmdNamesUptoRow.recurses == Tryz.pinned.checked.prog.recurses 6) = true := by kernel_rfl
theorem keycmdNames_f4 : (Rows.keycmdNamesUptoRow.named == Tryz.pinned.checked.prog.varsNamed 6) = true := by kernel_rfl
theorem keycmdNames_closed : joinedFacts Tryz.pinned.checked.prog 6 Tryz.f6 (Rows.OpenSpec.upto Rows.keycmdNamesSpec).bare Rows.keycmdNamesUptoRow = true := by
  unfold joinedFacts
  rw [keycmdNames_f1, keycmdNames_f2, keycmdNames_f3, keycmdNames_f4]
  kernel_rfl
theorem keycmdNames_over : Rows.KeycmdNamesUptoSaid :=
  OpenClaim.holds_of_cond 6 Tryz.f6 rfl rfl rfl rfl rfl rfl rfl ⟨rfl, rfl, rfl, rfl, rfl⟩ rfl rfl rfl rfl rfl (by kernel_rfl) Tryz.func6 keycmdNames_closed
    (of_decide_eq_true (by kernel_rfl)) (by unfold Func.isWrapper; first | (rw [if_pos (by decide +kernel)]; kernel_rfl) | (rw [if_neg (by decide +kernel)]; exact ⟨rfl, rfl⟩))
    (fun os started H enc _ F => by rw [OpenClaim.pre_eq_preRow]; exact keycmdNames_lifted os started H enc F)
theorem keycmdNames_plain (f : FuncId) (fn : Func) (hf : Tryz.pinned.checked.prog.funcNamed "covenant/covenantlaw18.KeycmdNames" = some f) (hfn : Tryz.pinned.checked.prog.funcs[f]? = some fn) :
    true = Tryz.pinned.checked.prog.looks [] ∧ ∀ (j : Nat) t, fn.params[j]? = some t → Tryz.pinned.checked.prog.wantsStandIn t = false := by
  obtain rfl : f = 6 := Option.some.inj ((show Tryz.prog.funcNamed "covenant/covenantlaw18.KeycmdNames" = some 6 by kernel_rfl).symm.trans hf) |>.symm
  obtain rfl : fn = Tryz.f6 := (Option.some.inj (Tryz.func6.symm.trans hfn)).symm
  refine ⟨by kernel_rfl, fun j t ht => ?_⟩
  rw [Tryz.params6] at ht
  have hm : t ∈ [3, 39] := by simpa using Array.mem_of_getElem? ht
  have hall : ([3, 39].all fun u => !Tryz.prog.wantsStandIn u) = true := by kernel_rfl
  exact (show Tryz.prog.wantsStandIn t = false by simpa using List.all_eq_true.1 hall t hm)

theorem keycmdNames_g1 : Rows.keycmdNamesUptoRow.wfByText (Rows.OpenSpec.upto Rows.keycmdNamesSpec) = true := by kernel_rfl
theorem keycmdNames_g2 : Tryz.pinned.checked.prog.mainIs = some (Rows.keycmdNamesUptoCard.stood.harness.1, Rows.keycmdNamesUptoCard.stood.harness.2.toList) := by kernel_rfl
theorem keycmdNames_g3 : false = Rows.keycmdNamesUptoRow.goesBy Tryz.pinned.checked.prog := by kernel_rfl
/-- KeycmdNames, up to the bound, tied. -/
theorem KeycmdNames_holds : Rows.KeycmdNamesUptoCardSaid :=
  Claim7.holds_tied_plain_at .later [] _ _ Rows.keycmdNamesUptoCard.stood.harness _ keycmdNames_over (fun _ h => by cases h) keycmdNames_g1 (fun _ h => by cases h) keycmdNamesUpto_row_tie rfl ⟨rfl, rfl⟩ keycmdNames_g2 rfl keycmdNames_plain keycmdNames_g3
#print axioms KeycmdNames_holds
end Go.Proofs.YthojmgjgmbnopaaGreatDoor
