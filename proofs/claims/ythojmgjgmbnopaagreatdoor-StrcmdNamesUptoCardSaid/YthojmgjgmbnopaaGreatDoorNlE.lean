/- StrcmdNames: the law returns true for every input, and each argument reads behind the call as it read before; the five listed variables of the library are tied to the text. The condition: the arguments hold together at most 1048576 values and letters (the second form). -/
import Derived.Test.YthojmgjgmbnopaaGreatDoorNl
import Derived.Test.YthojmgjgmbnopaaGreatDoorLd
namespace Go.Proofs.YthojmgjgmbnopaaGreatDoor
open Go Go.RowKit Go.ChangeShapes Go.WideShapes Go.ChangeAt Go.Deep Go.ChangeMaps Go.Joins
set_option maxRecDepth 100000 in
theorem strcmdNames_contract (H : Type) (enc : TypeId × Value → H) (W : World) (base : Nat) (args : Array Value) (ds gs : List (DataW H)) (before : List MemPlace)
    (hval : ∀ (j : Nat) t v, Tryz.f12.params[j]? = some t → args[j]? = some v → Value.okWide Tryz.prog W .any base t v)
    (hW : DataW.Whole enc Tryz.prog Tryz.f12.params.toList Rows.strcmdNamesSpec.vars false W args.toList ds gs before) (hk : Rows.uptoSmall H (ds ++ gs) = true) (hL : laidMetH Tryz.prog laid5 W) :
    Calls Tryz.prog 12 args W fun e W' => ∃ v, e = .returned v ∧ Rows.strcmdNamesSpec.post enc Tryz.prog Tryz.f12 false true false false W args v W' := by
  have hT := laid_tbl hL
  have hW' := hW
  obtain ⟨p, q, hA0, hV, rfl, hfz, hnd⟩ := hW
  have hA : DataW.TrodAll enc Tryz.prog W 0 (fun _ => true) true Tryz.f12.params.toList args.toList ds p := hA0
  rw [Tryz.params12] at hA hval
  obtain ⟨v0, vs0, d0, ds0, p0, q0, hargs, rfl, rfl, h0, r0⟩ := trodAll_cons hA
  obtain ⟨v1, vs1, d1, ds1, p1, q1, rfl, rfl, rfl, h1, r1⟩ := trodAll_cons r0
  obtain ⟨rfl, rfl, rfl⟩ := trodAll_nil r1
  obtain rfl : args = #[v0, v1] := by cases args; simp_all
  obtain ⟨rfl, rfl⟩ := trodVars_none hV
  have hb := upto_of (by simpa using hk)
  simp only [Rows.uptoBulkAll] at hb
  obtain ⟨aa0, ll0, cc0, hv0⟩ := okWide_slice Tryz.underlying39 (hval 0 39 v0 rfl rfl)
  obtain ⟨fuel0, hf0⟩ := h0
  obtain ⟨ws0, T0, k0⟩ := trod_strs (v := v0) (x := (d0, p0)) (by simpa [hv0, Value.cells] using hf0)
  dsimp only at k0
  have hl0 := len_le_bulkS ws0
  obtain ⟨n1, rfl, rfl, rfl, wf1⟩ := open_int Tryz.underlying3 (hval 1 3 v1 rfl rfl) h1
  have hpost : ∀ W', Below W.heap.size W W' → Rows.strcmdNamesSpec.post enc Tryz.prog Tryz.f12 false true false false W _ (.bool true) W' := fun W' hg =>
    law_post laidR rfl rfl Tryz.underlying4 (by rw [Tryz.params12]; intro t ht; simp at ht; rcases ht with rfl | rfl; exact read_strs; exact read_int) hW' rfl hg
  exact (names_con W hT ws0 v0 T0 (fun x hx => by have := le_sum_of hx; omega) (by omega) n1).mono fun e W' ⟨he, hg⟩ => ⟨_, he, hpost W' hg⟩

theorem strcmdNames_reads (os : Os) {H : Type} (enc : TypeId × Value → H) : ∃ places, DataW.whole enc Tryz.prog ((startW os).forCall (fun _ _ => 0) ⟨#[], #[.slice none 0 0, .int .i64 0], []⟩).memory Tryz.f12.params.toList Rows.strcmdNamesSpec.vars false (#[.slice none 0 0, .int .i64 0] : Array Value).toList 8 = some ([.nil, .lit (.int .i64 0)], [], places) :=
  ⟨[], by kernel_rfl⟩
set_option maxRecDepth 100000 in
theorem strcmdNames_lifted (os : Os) (started : os.Started) (H : Type) (enc : TypeId × Value → H) (F : Stop.Interp) :
    ReturnsInHanded {} Tryz.checked os 12 .any ((Rows.OpenSpec.upto Rows.strcmdNamesSpec).preRow enc Tryz.prog Tryz.f12 Rows.strcmdNamesUptoRow.domain false Rows.strcmdNamesUptoRow.laid) (((Rows.OpenSpec.upto Rows.strcmdNamesSpec).at F).post enc Tryz.prog Tryz.f12 false true false false) := by
  obtain ⟨places, hx⟩ := strcmdNames_reads os enc
  refine returnsInHanded_of_row (C := Tryz.checked) (s := Rows.OpenSpec.upto Rows.strcmdNamesSpec) ownR started (by kernel_rfl) Tryz.func12
    (witness_row_atRef (enc := enc) (C := Tryz.checked) false (startW os) #[.slice none 0 0, .int .i64 0] rfl (by kernel_rfl) (by kernel_rfl) (by kernel_rfl)
      (OpenSpec.preRow_of_cond 8 hx (by kernel_rfl) (fun k hk => by cases hk; kernel_rfl) (by kernel_rfl) (start_laid os _))) ?_
  intro W base args ds gs before hval hW _ hcond _ hL _ _
  exact strcmdNames_contract H enc W base args ds gs before hval hW (hcond _ rfl) hL

theorem strcmdNames_f1 : (Rows.strcmdNamesUptoRow.inPlace == Tryz.pinned.checked.prog.inPlace 12) = true := by kernel_rfl
theorem strcmdNames_f2 : (Rows.strcmdNamesUptoRow.unfollowed == Tryz.pinned.checked.prog.unfollowed 12) = true := by kernel_rfl
theorem strcmdNames_f3 : (Rows.strcmdNamesUptoRow.recurses == Tryz.pinned.checked.prog.recurses 12) = true := by kernel_rfl
theorem strcmdNames_f4 : (Rows.strcmdNamesUptoRow.named == Tryz.pinned.checked.prog.varsNamed 12) = true := by kernel_rfl
theorem strcmdNames_closed : joinedFacts Tryz.pinned.checked.prog 12 Tryz.f12 (Rows.OpenSpec.upto Rows.strcmdNamesSpec).bare Rows.strcmdNamesUptoRow = true := by
  unfold joinedFacts
  rw [strcmdNames_f1, strcmdNames_f2, strcmdNames_f3, strcmdNames_f4]
  kernel_rfl
theorem strcmdNames_over : Rows.StrcmdNamesUptoSaid :=
  OpenClaim.holds_of_cond 12 Tryz.f12 rfl rfl rfl rfl rfl rfl rfl ⟨rfl, rfl, rfl, rfl, rfl⟩ rfl rfl rfl rfl rfl (by kernel_rfl) Tryz.func12 strcmdNames_closed
    (of_decide_eq_true (by kernel_rfl)) (by unfold Func.isWrapper; first | (rw [if_pos (by decide +kernel)]; kernel_rfl) | (rw [if_neg (by decide +kernel)]; exact ⟨rfl, rfl⟩))
    (fun os started H enc _ F => by rw [OpenClaim.pre_eq_preRow]; exact strcmdNames_lifted os started H enc F)
theorem strcmdNames_plain (f : FuncId) (fn : Func) (hf : Tryz.pinned.checked.prog.funcNamed "covenant/covenantlaw17.StrcmdNames" = some f) (hfn : Tryz.pinned.checked.prog.funcs[f]? = some fn) :
    true = Tryz.pinned.checked.prog.looks [] ∧ ∀ (j : Nat) t, fn.params[j]? = some t → Tryz.pinned.checked.prog.wantsStandIn t = false := by
  obtain rfl : f = 12 := Option.some.inj ((show Tryz.prog.funcNamed "covenant/covenantlaw17.StrcmdNames" = some 12 by kernel_rfl).symm.trans hf) |>.symm
  obtain rfl : fn = Tryz.f12 := (Option.some.inj (Tryz.func12.symm.trans hfn)).symm
  refine ⟨by kernel_rfl, fun j t ht => ?_⟩
  rw [Tryz.params12] at ht
  have hm : t ∈ [39, 3] := by simpa using Array.mem_of_getElem? ht
  have hall : ([39, 3].all fun u => !Tryz.prog.wantsStandIn u) = true := by kernel_rfl
  exact (show Tryz.prog.wantsStandIn t = false by simpa using List.all_eq_true.1 hall t hm)

theorem strcmdNames_g1 : Rows.strcmdNamesUptoRow.wfByText (Rows.OpenSpec.upto Rows.strcmdNamesSpec) = true := by kernel_rfl
theorem strcmdNames_g2 : Tryz.pinned.checked.prog.mainIs = some (Rows.strcmdNamesUptoCard.stood.harness.1, Rows.strcmdNamesUptoCard.stood.harness.2.toList) := by kernel_rfl
theorem strcmdNames_g3 : false = Rows.strcmdNamesUptoRow.goesBy Tryz.pinned.checked.prog := by kernel_rfl
/-- StrcmdNames, up to the bound, tied. -/
theorem StrcmdNames_holds : Rows.StrcmdNamesUptoCardSaid :=
  Claim7.holds_tied_plain_at .later [] _ _ Rows.strcmdNamesUptoCard.stood.harness _ strcmdNames_over (fun _ h => by cases h) strcmdNames_g1 (fun _ h => by cases h) strcmdNamesUpto_row_tie rfl ⟨rfl, rfl⟩ strcmdNames_g2 rfl strcmdNames_plain strcmdNames_g3
#print axioms StrcmdNames_holds
end Go.Proofs.YthojmgjgmbnopaaGreatDoor
