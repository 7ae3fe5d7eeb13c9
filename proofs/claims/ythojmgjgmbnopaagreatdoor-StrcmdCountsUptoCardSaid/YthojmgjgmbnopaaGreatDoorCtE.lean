/- StrcmdCounts: the law returns true for every input, and each argument reads behind the call as it read before; the five listed variables of the library are tied to the text. The condition: the arguments hold together at most 1048576 values and letters (the second form). -/
import Derived.Test.YthojmgjgmbnopaaGreatDoorCt
import Derived.Test.YthojmgjgmbnopaaGreatDoorLd
import Derived.Test.YthojmgjgmbnopaaGreatDoorOI
import Derived.OpenShut
namespace Go.Proofs.YthojmgjgmbnopaaGreatDoor
open Go Go.RowKit Go.ChangeShapes Go.WideShapes Go.ChangeAt Go.Deep Go.ChangeMaps Go.Joins
set_option maxRecDepth 100000 in
theorem strcmdCounts_contract (H : Type) (enc : TypeId × Value → H) (W : World) (base : Nat) (args : Array Value) (ds gs : List (DataW H)) (before : List MemPlace)
    (hval : ∀ (j : Nat) t v, Tryz.f4.params[j]? = some t → args[j]? = some v → Value.okWide Tryz.prog W .any base t v)
    (hW : DataW.Whole enc Tryz.prog Tryz.f4.params.toList Rows.strcmdCountsSpec.vars false W args.toList ds gs before) (hk : Rows.uptoSmall H (ds ++ gs) = true) (hL : laidMetH Tryz.prog laid5 W) :
    Calls Tryz.prog 4 args W fun e W' => ∃ v, e = .returned v ∧ Rows.strcmdCountsSpec.post enc Tryz.prog Tryz.f4 false true false false W args v W' := by
  have hT := laid_tbl hL
  have hW' := hW
  obtain ⟨p, q, hA0, hV, rfl, hfz, hnd⟩ := hW
  have hA : DataW.TrodAll enc Tryz.prog W 0 (fun _ => true) true Tryz.f4.params.toList args.toList ds p := hA0
  rw [Tryz.params4] at hA hval
  obtain ⟨v0, vs0, d0, ds0, p0, q0, hargs, rfl, rfl, h0, r0⟩ := trodAll_cons hA
  obtain ⟨v1, vs1, d1, ds1, p1, q1, rfl, rfl, rfl, h1, r1⟩ := trodAll_cons r0
  obtain ⟨rfl, rfl, rfl⟩ := trodAll_nil r1
  obtain rfl : args = #[v0, v1] := by cases args; simp_all
  obtain ⟨rfl, rfl⟩ := trodVars_none hV
  have hb := upto_of (by simpa using hk)
  simp only [Rows.uptoBulkAll] at hb
  obtain ⟨n0, rfl, rfl, rfl, wf0⟩ := open_int Tryz.underlying3 (hval 0 3 v0 rfl rfl) h0
  obtain ⟨aa1, ll1, cc1, hv1⟩ := okWide_slice Tryz.underlying37 (hval 1 37 v1 rfl rfl)
  obtain ⟨fuel1, hf1⟩ := h1
  obtain ⟨zs1, T1, k1, rg1⟩ := trod_ints (v := v1) (x := (d1, p1)) (by simpa [hv1, Value.cells] using hf1)
  dsimp only at k1
  have hpost : ∀ W', Below W.heap.size W W' → Rows.strcmdCountsSpec.post enc Tryz.prog Tryz.f4 false true false false W _ (.bool true) W' := fun W' hg =>
    law_post laidR rfl rfl Tryz.underlying4 (by rw [Tryz.params4]; intro t ht; simp at ht; rcases ht with rfl | rfl; exact read_int; exact read_ints) hW' rfl hg
  exact (counts_con W hT n0 (bounds_i64 wf0) zs1 v1 T1 rg1 (by omega)).mono fun e W' ⟨he, hg⟩ => ⟨_, he, hpost W' hg⟩

theorem strcmdCounts_reads (os : Os) {H : Type} (enc : TypeId × Value → H) : ∃ places, DataW.whole enc Tryz.prog ((startW os).forCall (fun _ _ => 0) ⟨#[], #[.int .i64 0, .slice none 0 0], []⟩).memory Tryz.f4.params.toList Rows.strcmdCountsSpec.vars false (#[.int .i64 0, .slice none 0 0] : Array Value).toList 8 = some ([.lit (.int .i64 0), .nil], [], places) :=
  ⟨[], by kernel_rfl⟩
set_option maxRecDepth 100000 in
theorem strcmdCounts_lifted (os : Os) (started : os.Started) (H : Type) (enc : TypeId × Value → H) (F : Stop.Interp) :
    ReturnsInHanded {} Tryz.checked os 4 .any ((Rows.OpenSpec.upto Rows.strcmdCountsSpec).preRow enc Tryz.prog Tryz.f4 Rows.strcmdCountsUptoRow.domain false Rows.strcmdCountsUptoRow.laid) (((Rows.OpenSpec.upto Rows.strcmdCountsSpec).at F).post enc Tryz.prog Tryz.f4 false true false false) := by
  obtain ⟨places, hx⟩ := strcmdCounts_reads os enc
  refine returnsInHanded_of_row (C := Tryz.checked) (s := Rows.OpenSpec.upto Rows.strcmdCountsSpec) ownR started (by kernel_rfl) Tryz.func4
    (witness_row_atRef (enc := enc) (C := Tryz.checked) false (startW os) #[.int .i64 0, .slice none 0 0] rfl (by kernel_rfl) (by kernel_rfl) (by kernel_rfl)
      (OpenSpec.preRow_of_cond 8 hx (by kernel_rfl) (fun k hk => by cases hk; kernel_rfl) (by kernel_rfl) (start_laid os _))) ?_
  intro W base args ds gs before hval hW _ hcond _ hL _ _
  exact strcmdCounts_contract H enc W base args ds gs before hval hW (hcond _ rfl) hL

theorem strcmdCounts_f1 : (Rows.strcmdCountsUptoRow.inPlace == Tryz.pinned.checked.prog.inPlace 4) = true := by kernel_rfl
theorem strcmdCounts_f2 : (Rows.strcmdCountsUptoRow.unfollowed == Tryz.pinned.checked.prog.unfollowed 4) = true := by kernel_rfl
theorem strcmdCounts_f3 : (Rows.strcmdCountsUptoRow.recurses == Tryz.pinned.checked.prog.recurses 4) = true := by kernel_rfl
theorem strcmdCounts_f4 : (Rows.strcmdCountsUptoRow.named == Tryz.pinned.checked.prog.varsNamed 4) = true := by kernel_rfl
theorem strcmdCounts_closed : joinedFacts Tryz.pinned.checked.prog 4 Tryz.f4 (Rows.OpenSpec.upto Rows.strcmdCountsSpec).bare Rows.strcmdCountsUptoRow = true := by
  unfold joinedFacts
  rw [strcmdCounts_f1, strcmdCounts_f2, strcmdCounts_f3, strcmdCounts_f4]
  kernel_rfl
theorem strcmdCounts_over : Rows.StrcmdCountsUptoSaid :=
  OpenClaim.holds_of_cond 4 Tryz.f4 rfl rfl rfl rfl rfl rfl rfl ⟨rfl, rfl, rfl, rfl, rfl⟩ rfl rfl rfl rfl rfl (by kernel_rfl) Tryz.func4 strcmdCounts_closed
    (of_decide_eq_true (by kernel_rfl)) (by unfold Func.isWrapper; first | (rw [if_pos (by decide +kernel)]; kernel_rfl) | (rw [if_neg (by decide +kernel)]; exact ⟨rfl, rfl⟩))
    (fun os started H enc _ F => by rw [OpenClaim.pre_eq_preRow]; exact strcmdCounts_lifted os started H enc F)
theorem strcmdCounts_plain (f : FuncId) (fn : Func) (hf : Tryz.pinned.checked.prog.funcNamed "covenant/covenantlaw17.StrcmdCounts" = some f) (hfn : Tryz.pinned.checked.prog.funcs[f]? = some fn) :
    true = Tryz.pinned.checked.prog.looks [] ∧ ∀ (j : Nat) t, fn.params[j]? = some t → Tryz.pinned.checked.prog.wantsStandIn t = false := by
  obtain rfl : f = 4 := Option.some.inj ((show Tryz.prog.funcNamed "covenant/covenantlaw17.StrcmdCounts" = some 4 by kernel_rfl).symm.trans hf) |>.symm
  obtain rfl : fn = Tryz.f4 := (Option.some.inj (Tryz.func4.symm.trans hfn)).symm
  refine ⟨by kernel_rfl, fun j t ht => ?_⟩
  rw [Tryz.params4] at ht
  have hm : t ∈ [3, 37] := by simpa using Array.mem_of_getElem? ht
  have hall : ([3, 37].all fun u => !Tryz.prog.wantsStandIn u) = true := by kernel_rfl
  exact (show Tryz.prog.wantsStandIn t = false by simpa using List.all_eq_true.1 hall t hm)

theorem strcmdCounts_g1 : Rows.strcmdCountsUptoRow.wfByText (Rows.OpenSpec.upto Rows.strcmdCountsSpec) = true := by kernel_rfl
theorem strcmdCounts_g2 : Tryz.pinned.checked.prog.mainIs = some (Rows.strcmdCountsUptoCard.stood.harness.1, Rows.strcmdCountsUptoCard.stood.harness.2.toList) := by kernel_rfl
theorem strcmdCounts_g3 : false = Rows.strcmdCountsUptoRow.goesBy Tryz.pinned.checked.prog := by kernel_rfl
/-- StrcmdCounts, up to the bound, tied. -/
theorem StrcmdCounts_holds : Rows.StrcmdCountsUptoCardSaid :=
  Claim7.holds_tied_plain_at .later [] _ _ Rows.strcmdCountsUptoCard.stood.harness _ strcmdCounts_over (fun _ h => by cases h) strcmdCounts_g1 (fun _ h => by cases h) strcmdCountsUpto_row_tie rfl ⟨rfl, rfl⟩ strcmdCounts_g2 rfl strcmdCounts_plain strcmdCounts_g3
#print axioms StrcmdCounts_holds
end Go.Proofs.YthojmgjgmbnopaaGreatDoor
