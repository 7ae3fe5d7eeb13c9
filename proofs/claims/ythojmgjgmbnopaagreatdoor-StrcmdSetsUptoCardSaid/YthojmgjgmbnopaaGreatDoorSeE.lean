/- StrcmdSets: the law returns true for every input, and each argument reads behind the call as it read before; the five listed variables of the library are tied to the text. The condition: the arguments hold together at most 1048576 values and letters (the second form). -/
import Derived.Test.YthojmgjgmbnopaaGreatDoorIk
import Derived.Test.YthojmgjgmbnopaaGreatDoorLd
import Derived.Test.YthojmgjgmbnopaaGreatDoorJL
namespace Go.Proofs.YthojmgjgmbnopaaGreatDoor
open Go Go.RowKit Go.ChangeShapes Go.WideShapes Go.ChangeAt Go.Deep Go.ChangeMaps Go.Joins
set_option maxRecDepth 100000 in
theorem strcmdSets_contract (H : Type) (enc : TypeId × Value → H) (W : World) (base : Nat) (args : Array Value) (ds gs : List (DataW H)) (before : List MemPlace)
    (hval : ∀ (j : Nat) t v, Tryz.f3.params[j]? = some t → args[j]? = some v → Value.okWide Tryz.prog W .any base t v)
    (hW : DataW.Whole enc Tryz.prog Tryz.f3.params.toList Rows.strcmdSetsSpec.vars false W args.toList ds gs before) (hk : Rows.uptoSmall H (ds ++ gs) = true) (hL : laidMetH Tryz.prog laid5 W) :
    Calls Tryz.prog 3 args W fun e W' => ∃ v, e = .returned v ∧ Rows.strcmdSetsSpec.post enc Tryz.prog Tryz.f3 false true false false W args v W' := by
  have hT := laid_tbl hL
  have hW' := hW
  obtain ⟨p, q, hA0, hV, rfl, hfz, hnd⟩ := hW
  have hA : DataW.TrodAll enc Tryz.prog W 0 (fun _ => true) true Tryz.f3.params.toList args.toList ds p := hA0
  rw [Tryz.params3] at hA hval
  obtain ⟨v0, vs0, d0, ds0, p0, q0, hargs, rfl, rfl, h0, r0⟩ := trodAll_cons hA
  obtain ⟨v1, vs1, d1, ds1, p1, q1, rfl, rfl, rfl, h1, r1⟩ := trodAll_cons r0
  obtain ⟨v2, vs2, d2, ds2, p2, q2, rfl, rfl, rfl, h2, r2⟩ := trodAll_cons r1
  obtain ⟨rfl, rfl, rfl⟩ := trodAll_nil r2
  obtain rfl : args = #[v0, v1, v2] := by cases args; simp_all
  obtain ⟨rfl, rfl⟩ := trodVars_none hV
  have hb := upto_of (by simpa using hk)
  simp only [Rows.uptoBulkAll] at hb
  obtain ⟨aa0, ll0, cc0, hv0⟩ := okWide_slice Tryz.underlying22 (hval 0 22 v0 rfl rfl)
  obtain ⟨fuel0, hf0⟩ := h0
  obtain ⟨L0, T0, ok0, k0⟩ := trod_starts (v := v0) (x := (d0, p0)) (by simpa [hv0, Value.cells] using hf0) (by dsimp only; omega)
  obtain ⟨s1, rfl, k1⟩ := op_str (hval 1 9 v1 rfl rfl) h1
  obtain ⟨s2, rfl, k2⟩ := op_str (hval 2 9 v2 rfl rfl) h2
  have hpost : ∀ W', Below W.heap.size W W' → Rows.strcmdSetsSpec.post enc Tryz.prog Tryz.f3 false true false false W _ (.bool true) W' := fun W' hg =>
    law_post laidR rfl rfl Tryz.underlying4 (by rw [Tryz.params3]; intro t ht; simp at ht; rcases ht with rfl | rfl; exact read_starts; exact read_str) hW' rfl hg
  exact (sets_law hT T0 ok0 k0 s1 s2).mono fun e W' ⟨he, hg⟩ => ⟨_, he, hpost W' hg⟩

theorem strcmdSets_reads (os : Os) {H : Type} (enc : TypeId × Value → H) : ∃ places, DataW.whole enc Tryz.prog ((startW os).forCall (fun _ _ => 0) ⟨#[], #[.slice none 0 0, .string ⟨#[]⟩, .string ⟨#[]⟩], []⟩).memory Tryz.f3.params.toList Rows.strcmdSetsSpec.vars false (#[.slice none 0 0, .string ⟨#[]⟩, .string ⟨#[]⟩] : Array Value).toList 8 = some ([.nil, .lit (.string []), .lit (.string [])], [], places) :=
  ⟨[], by kernel_rfl⟩
set_option maxRecDepth 100000 in
theorem strcmdSets_lifted (os : Os) (started : os.Started) (H : Type) (enc : TypeId × Value → H) (F : Stop.Interp) :
    ReturnsInHanded {} Tryz.checked os 3 .any ((Rows.OpenSpec.upto Rows.strcmdSetsSpec).preRow enc Tryz.prog Tryz.f3 Rows.strcmdSetsUptoRow.domain false Rows.strcmdSetsUptoRow.laid) (((Rows.OpenSpec.upto Rows.strcmdSetsSpec).at F).post enc Tryz.prog Tryz.f3 false true false false) := by
  obtain ⟨places, hx⟩ := strcmdSets_reads os enc
  refine returnsInHanded_of_row (C := Tryz.checked) (s := Rows.OpenSpec.upto Rows.strcmdSetsSpec) ownR started (by kernel_rfl) Tryz.func3
    (witness_row_atRef (enc := enc) (C := Tryz.checked) false (startW os) #[.slice none 0 0, .string ⟨#[]⟩, .string ⟨#[]⟩] rfl (by kernel_rfl) (by kernel_rfl) (by kernel_rfl)
      (OpenSpec.preRow_of_cond 8 hx (by kernel_rfl) (fun k hk => by cases hk; kernel_rfl) (by kernel_rfl) (start_laid os _))) ?_
  intro W base args ds gs before hval hW _ hcond _ hL _ _
  exact strcmdSets_contract H enc W base args ds gs before hval hW (hcond _ rfl) hL

theorem strcmdSets_f1 : (Rows.strcmdSetsUptoRow.inPlace == Tryz.pinned.checked.prog.inPlace 3) = true := by kernel_rfl
theorem strcmdSets_f2 : (Rows.strcmdSetsUptoRow.unfollowed == Tryz.pinned.checked.prog.unfollowed 3) = true := by kernel_rfl
theorem strcmdSets_f3 : (Rows.strcmdSetsUptoRow.recurses == Tryz.pinned.checked.prog.recurses 3) = true := by kernel_rfl
theorem strcmdSets_f4 : (Rows.strcmdSetsUptoRow.named == Tryz.pinned.checked.prog.varsNamed 3) = true := by kernel_rfl
theorem strcmdSets_closed : joinedFacts Tryz.pinned.checked.prog 3 Tryz.f3 (Rows.OpenSpec.upto Rows.strcmdSetsSpec).bare Rows.strcmdSetsUptoRow = true := by
  unfold joinedFacts
  rw [strcmdSets_f1, strcmdSets_f2, strcmdSets_f3, strcmdSets_f4]
  kernel_rfl
theorem strcmdSets_over : Rows.StrcmdSetsUptoSaid :=
  OpenClaim.holds_of_cond 3 Tryz.f3 rfl rfl rfl rfl rfl rfl rfl ⟨rfl, rfl, rfl, rfl, rfl⟩ rfl rfl rfl rfl rfl (by kernel_rfl) Tryz.func3 strcmdSets_closed
    (of_decide_eq_true (by kernel_rfl)) (by unfold Func.isWrapper; first | (rw [if_pos (by decide +kernel)]; kernel_rfl) | (rw [if_neg (by decide +kernel)]; exact ⟨rfl, rfl⟩))
    (fun os started H enc _ F => by rw [OpenClaim.pre_eq_preRow]; exact strcmdSets_lifted os started H enc F)
theorem strcmdSets_plain (f : FuncId) (fn : Func) (hf : Tryz.pinned.checked.prog.funcNamed "covenant/covenantlaw17.StrcmdSets" = some f) (hfn : Tryz.pinned.checked.prog.funcs[f]? = some fn) :
    true = Tryz.pinned.checked.prog.looks [] ∧ ∀ (j : Nat) t, fn.params[j]? = some t → Tryz.pinned.checked.prog.wantsStandIn t = false := by
  obtain rfl : f = 3 := Option.some.inj ((show Tryz.prog.funcNamed "covenant/covenantlaw17.StrcmdSets" = some 3 by kernel_rfl).symm.trans hf) |>.symm
  obtain rfl : fn = Tryz.f3 := (Option.some.inj (Tryz.func3.symm.trans hfn)).symm
  refine ⟨by kernel_rfl, fun j t ht => ?_⟩
  rw [Tryz.params3] at ht
  have hm : t ∈ [22, 9, 9] := by simpa using Array.mem_of_getElem? ht
  have hall : ([22, 9, 9].all fun u => !Tryz.prog.wantsStandIn u) = true := by kernel_rfl
  exact (show Tryz.prog.wantsStandIn t = false by simpa using List.all_eq_true.1 hall t hm)

theorem strcmdSets_g1 : Rows.strcmdSetsUptoRow.wfByText (Rows.OpenSpec.upto Rows.strcmdSetsSpec) = true := by kernel_rfl
theorem strcmdSets_g2 : Tryz.pinned.checked.prog.mainIs = some (Rows.strcmdSetsUptoCard.stood.harness.1, Rows.strcmdSetsUptoCard.stood.harness.2.toList) := by kernel_rfl
theorem strcmdSets_g3 : false = Rows.strcmdSetsUptoRow.goesBy Tryz.pinned.checked.prog := by kernel_rfl
/-- StrcmdSets, up to the bound, tied. -/
theorem StrcmdSets_holds : Rows.StrcmdSetsUptoCardSaid :=
  Claim7.holds_tied_plain_at .later [] _ _ Rows.strcmdSetsUptoCard.stood.harness _ strcmdSets_over (fun _ h => by cases h) strcmdSets_g1 (fun _ h => by cases h) strcmdSetsUpto_row_tie rfl ⟨rfl, rfl⟩ strcmdSets_g2 rfl strcmdSets_plain strcmdSets_g3
#print axioms StrcmdSets_holds
end Go.Proofs.YthojmgjgmbnopaaGreatDoor
