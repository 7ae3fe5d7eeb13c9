/- StrcmdMany: the law returns true for every input, and each argument reads behind the call as it read before; the five listed variables of the library are tied to the text. The condition: the arguments hold together at most 1048576 values and letters (the second form). -/
import Derived.Test.YthojmgjgmbnopaaGreatDoorZg
import Derived.Test.YthojmgjgmbnopaaGreatDoorLd
import Derived.Test.YthojmgjgmbnopaaGreatDoorJL
namespace Go.Proofs.YthojmgjgmbnopaaGreatDoor
open Go Go.RowKit Go.ChangeShapes Go.WideShapes Go.ChangeAt Go.Deep Go.ChangeMaps Go.Joins
set_option maxRecDepth 100000 in
theorem strcmdMany_contract (H : Type) (enc : TypeId × Value → H) (W : World) (base : Nat) (args : Array Value) (ds gs : List (DataW H)) (before : List MemPlace)
    (hval : ∀ (j : Nat) t v, Tryz.f13.params[j]? = some t → args[j]? = some v → Value.okWide Tryz.prog W .any base t v)
    (hW : DataW.Whole enc Tryz.prog Tryz.f13.params.toList Rows.strcmdManySpec.vars false W args.toList ds gs before) (hk : Rows.uptoSmall H (ds ++ gs) = true) (hL : laidMetH Tryz.prog laid5 W) :
    Calls Tryz.prog 13 args W fun e W' => ∃ v, e = .returned v ∧ Rows.strcmdManySpec.post enc Tryz.prog Tryz.f13 false true false false W args v W' := by
  have hT := laid_tbl hL
  have hW' := hW
  obtain ⟨p, q, hA0, hV, rfl, hfz, hnd⟩ := hW
  have hA : DataW.TrodAll enc Tryz.prog W 0 (fun _ => true) true Tryz.f13.params.toList args.toList ds p := hA0
  rw [Tryz.params13] at hA hval
  obtain ⟨v0, vs0, d0, ds0, p0, q0, hargs, rfl, rfl, h0, r0⟩ := trodAll_cons hA
  obtain ⟨v1, vs1, d1, ds1, p1, q1, rfl, rfl, rfl, h1, r1⟩ := trodAll_cons r0
  obtain ⟨v2, vs2, d2, ds2, p2, q2, rfl, rfl, rfl, h2, r2⟩ := trodAll_cons r1
  obtain ⟨rfl, rfl, rfl⟩ := trodAll_nil r2
  obtain rfl : args = #[v0, v1, v2] := by cases args; simp_all
  obtain ⟨rfl, rfl⟩ := trodVars_none hV
  have hb := upto_of (by simpa using hk)
  simp only [Rows.uptoBulkAll] at hb
  obtain ⟨aa0, ll0, cc0, hv0⟩ := okWide_slice Tryz.underlying22 (hval 0 22 v0 rfl rfl)
  obtain ⟨fuel0, hf0⟩ := h0
  obtain ⟨L0, T0, ok0, k0⟩ := trod_starts (v := v0) (x := (d0, p0)) (by simpa [hv0, Value.cells] using hf0) (by dsimp only; omega)
  obtain ⟨aa1, ll1, cc1, hv1⟩ := okWide_slice Tryz.underlying39 (hval 1 39 v1 rfl rfl)
  obtain ⟨fuel1, hf1⟩ := h1
  obtain ⟨ws1, T1, k1⟩ := trod_strs (v := v1) (x := (d1, p1)) (by simpa [hv1, Value.cells] using hf1)
  dsimp only at k1
  have hl1 := len_le_bulkS ws1
  obtain ⟨n2, rfl, rfl, rfl, wf2⟩ := open_int Tryz.underlying3 (hval 2 3 v2 rfl rfl) h2
  have hpost : ∀ W', Below W.heap.size W W' → Rows.strcmdManySpec.post enc Tryz.prog Tryz.f13 false true false false W _ (.bool true) W' := fun W' hg =>
    law_post laidR rfl rfl Tryz.underlying4 (by rw [Tryz.params13]; intro t ht; simp at ht; rcases ht with rfl | rfl | rfl; exact read_starts; exact read_strs; exact read_int) hW' rfl hg
  exact (many_law hT T0 ok0 k0 T1 (by omega) n2).mono fun e W' ⟨he, hg⟩ => ⟨_, he, hpost W' hg⟩

theorem strcmdMany_reads (os : Os) {H : Type} (enc : TypeId × Value → H) : ∃ places, DataW.whole enc Tryz.prog ((startW os).forCall (fun _ _ => 0) ⟨#[], #[.slice none 0 0, .slice none 0 0, .int .i64 0], []⟩).memory Tryz.f13.params.toList Rows.strcmdManySpec.vars false (#[.slice none 0 0, .slice none 0 0, .int .i64 0] : Array Value).toList 8 = some ([.nil, .nil, .lit (.int .i64 0)], [], places) :=
  ⟨[], by kernel_rfl⟩
set_option maxRecDepth 100000 in
theorem strcmdMany_lifted (os : Os) (started : os.Started) (H : Type) (enc : TypeId × Value → H) (F : Stop.Interp) :
    ReturnsInHanded {} Tryz.checked os 13 .any ((Rows.OpenSpec.upto Rows.strcmdManySpec).preRow enc Tryz.prog Tryz.f13 Rows.strcmdManyUptoRow.domain false Rows.strcmdManyUptoRow.laid) (((Rows.OpenSpec.upto Rows.strcmdManySpec).at F).post enc Tryz.prog Tryz.f13 false true false false) := by
  obtain ⟨places, hx⟩ := strcmdMany_reads os enc
  refine returnsInHanded_of_row (C := Tryz.checked) (s := Rows.OpenSpec.upto Rows.strcmdManySpec) ownR started (by kernel_rfl) Tryz.func13
    (witness_row_atRef (enc := enc) (C := Tryz.checked) false (startW os) #[.slice none 0 0, .slice none 0 0, .int .i64 0] rfl (by kernel_rfl) (by kernel_rfl) (by kernel_rfl)
      (OpenSpec.preRow_of_cond 8 hx (by kernel_rfl) (fun k hk => by cases hk; kernel_rfl) (by kernel_rfl) (start_laid os _))) ?_
  intro W base args ds gs before hval hW _ hcond _ hL _ _
  exact strcmdMany_contract H enc W base args ds gs before hval hW (hcond _ rfl) hL

theorem strcmdMany_f1 : (Rows.strcmdManyUptoRow.inPlace == Tryz.pinned.checked.prog.inPlace 13) = true := by kernel_rfl
theorem strcmdMany_f2 : (Rows.strcmdManyUptoRow.unfollowed == Tryz.pinned.checked.prog.unfollowed 13) = true := by kernel_rfl
theorem strcmdMany_f3 : (Rows.strcmdManyUptoRow.recurses == Tryz.pinned.checked.prog.recurses 13) = true := by kernel_rfl
theorem strcmdMany_f4 : (Rows.strcmdManyUptoRow.named == Tryz.pinned.checked.prog.varsNamed 13) = true := by kernel_rfl
theorem strcmdMany_closed : joinedFacts Tryz.pinned.checked.prog 13 Tryz.f13 (Rows.OpenSpec.upto Rows.strcmdManySpec).bare Rows.strcmdManyUptoRow = true := by
  unfold joinedFacts
  rw [strcmdMany_f1, strcmdMany_f2, strcmdMany_f3, strcmdMany_f4]
  kernel_rfl
theorem strcmdMany_over : Rows.StrcmdManyUptoSaid :=
  OpenClaim.holds_of_cond 13 Tryz.f13 rfl rfl rfl rfl rfl rfl rfl ⟨rfl, rfl, rfl, rfl, rfl⟩ rfl rfl rfl rfl rfl (by kernel_rfl) Tryz.func13 strcmdMany_closed
    (of_decide_eq_true (by kernel_rfl)) (by unfold Func.isWrapper; first | (rw [if_pos (by decide +kernel)]; kernel_rfl) | (rw [if_neg (by decide +kernel)]; exact ⟨rfl, rfl⟩))
    (fun os started H enc _ F => by rw [OpenClaim.pre_eq_preRow]; exact strcmdMany_lifted os started H enc F)
theorem strcmdMany_plain (f : FuncId) (fn : Func) (hf : Tryz.pinned.checked.prog.funcNamed "covenant/covenantlaw17.StrcmdMany" = some f) (hfn : Tryz.pinned.checked.prog.funcs[f]? = some fn) :
    true = Tryz.pinned.checked.prog.looks [] ∧ ∀ (j : Nat) t, fn.params[j]? = some t → Tryz.pinned.checked.prog.wantsStandIn t = false := by
  obtain rfl : f = 13 := Option.some.inj ((show Tryz.prog.funcNamed "covenant/covenantlaw17.StrcmdMany" = some 13 by kernel_rfl).symm.trans hf) |>.symm
  obtain rfl : fn = Tryz.f13 := (Option.some.inj (Tryz.func13.symm.trans hfn)).symm
  refine ⟨by kernel_rfl, fun j t ht => ?_⟩
  rw [Tryz.params13] at ht
  have hm : t ∈ [22, 39, 3] := by simpa using Array.mem_of_getElem? ht
  have hall : ([22, 39, 3].all fun u => !Tryz.prog.wantsStandIn u) = true := by kernel_rfl
  exact (show Tryz.prog.wantsStandIn t = false by simpa using List.all_eq_true.1 hall t hm)

theorem strcmdMany_g1 : Rows.strcmdManyUptoRow.wfByText (Rows.OpenSpec.upto Rows.strcmdManySpec) = true := by kernel_rfl
theorem strcmdMany_g2 : Tryz.pinned.checked.prog.mainIs = some (Rows.strcmdManyUptoCard.stood.harness.1, Rows.strcmdManyUptoCard.stood.harness.2.toList) := by kernel_rfl
theorem strcmdMany_g3 : false = Rows.strcmdManyUptoRow.goesBy Tryz.pinned.checked.prog := by kernel_rfl
/-- StrcmdMany, up to the bound, tied. -/
theorem StrcmdMany_holds : Rows.StrcmdManyUptoCardSaid :=
  Claim7.holds_tied_plain_at .later [] _ _ Rows.strcmdManyUptoCard.stood.harness _ strcmdMany_over (fun _ h => by cases h) strcmdMany_g1 (fun _ h => by cases h) strcmdManyUpto_row_tie rfl ⟨rfl, rfl⟩ strcmdMany_g2 rfl strcmdMany_plain strcmdMany_g3
#print axioms StrcmdMany_holds
end Go.Proofs.YthojmgjgmbnopaaGreatDoor
