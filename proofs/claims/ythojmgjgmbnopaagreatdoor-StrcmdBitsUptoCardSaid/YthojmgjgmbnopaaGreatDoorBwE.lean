/- StrcmdBits: the law returns true for every input, and each argument reads behind the call as it read before; the five listed variables of the library are tied to the text. The condition: the arguments hold together at most 1048576 values and letters (the second form). -/
import Derived.Test.YthojmgjgmbnopaaGreatDoorBw
import Derived.Test.YthojmgjgmbnopaaGreatDoorLd
import Derived.Test.YthojmgjgmbnopaaGreatDoorOI
namespace Go.Proofs.YthojmgjgmbnopaaGreatDoor
open Go Go.RowKit Go.ChangeShapes Go.WideShapes Go.ChangeAt Go.Deep Go.ChangeMaps Go.Joins
set_option maxRecDepth 100000 in
theorem strcmdBits_contract (H : Type) (enc : TypeId × Value → H) (W : World) (base : Nat) (args : Array Value) (ds gs : List (DataW H)) (before : List MemPlace)
    (hval : ∀ (j : Nat) t v, Tryz.f5.params[j]? = some t → args[j]? = some v → Value.okWide Tryz.prog W .any base t v)
    (hW : DataW.Whole enc Tryz.prog Tryz.f5.params.toList Rows.strcmdBitsSpec.vars false W args.toList ds gs before) (hk : Rows.uptoSmall H (ds ++ gs) = true) (hL : laidMetH Tryz.prog laid5 W) :
    Calls Tryz.prog 5 args W fun e W' => ∃ v, e = .returned v ∧ Rows.strcmdBitsSpec.post enc Tryz.prog Tryz.f5 false true false false W args v W' := by
  have hT := laid_tbl hL
  have hW' := hW
  obtain ⟨p, q, hA0, hV, rfl, hfz, hnd⟩ := hW
  have hA : DataW.TrodAll enc Tryz.prog W 0 (fun _ => true) true Tryz.f5.params.toList args.toList ds p := hA0
  rw [Tryz.params5] at hA hval
  obtain ⟨v0, vs0, d0, ds0, p0, q0, hargs, rfl, rfl, h0, r0⟩ := trodAll_cons hA
  obtain ⟨rfl, rfl, rfl⟩ := trodAll_nil r0
  obtain rfl : args = #[v0] := by cases args; simp_all
  obtain ⟨rfl, rfl⟩ := trodVars_none hV
  have hb := upto_of (by simpa using hk)
  simp only [Rows.uptoBulkAll] at hb
  obtain ⟨aa0, ll0, cc0, hv0⟩ := okWide_slice Tryz.underlying37 (hval 0 37 v0 rfl rfl)
  obtain ⟨fuel0, hf0⟩ := h0
  obtain ⟨zs0, T0, k0, rg0⟩ := trod_ints (v := v0) (x := (d0, p0)) (by simpa [hv0, Value.cells] using hf0)
  dsimp only at k0
  have hpost : ∀ W', Below W.heap.size W W' → Rows.strcmdBitsSpec.post enc Tryz.prog Tryz.f5 false true false false W _ (.bool true) W' := fun W' hg =>
    law_post laidR rfl rfl Tryz.underlying4 (by rw [Tryz.params5]; intro t ht; simp at ht; subst ht; exact read_ints) hW' rfl hg
  exact (bits_con W hT zs0 v0 T0 rg0 (by omega)).mono fun e W' ⟨he, hg⟩ => ⟨_, he, hpost W' hg⟩

theorem strcmdBits_reads (os : Os) {H : Type} (enc : TypeId × Value → H) : ∃ places, DataW.whole enc Tryz.prog ((startW os).forCall (fun _ _ => 0) ⟨#[], #[.slice none 0 0], []⟩).memory Tryz.f5.params.toList Rows.strcmdBitsSpec.vars false (#[.slice none 0 0] : Array Value).toList 8 = some ([.nil], [], places) :=
  ⟨[], by kernel_rfl⟩
set_option maxRecDepth 100000 in
theorem strcmdBits_lifted (os : Os) (started : os.Started) (H : Type) (enc : TypeId × Value → H) (F : Stop.Interp) :
    ReturnsInHanded {} Tryz.checked os 5 .any ((Rows.OpenSpec.upto Rows.strcmdBitsSpec).preRow enc Tryz.prog Tryz.f5 Rows.strcmdBitsUptoRow.domain false Rows.strcmdBitsUptoRow.laid) (((Rows.OpenSpec.upto Rows.strcmdBitsSpec).at F).post enc Tryz.prog Tryz.f5 false true false false) := by
  obtain ⟨places, hx⟩ := strcmdBits_reads os enc
  refine returnsInHanded_of_row (C := Tryz.checked) (s := Rows.OpenSpec.upto Rows.strcmdBitsSpec) ownR started (by kernel_rfl) Tryz.func5
    (witness_row_atRef (enc := enc) (C := Tryz.checked) false (startW os) #[.slice none 0 0] rfl (by kernel_rfl) (by kernel_rfl) (by kernel_rfl)
      (OpenSpec.preRow_of_cond 8 hx (by kernel_rfl) (fun k hk => by cases hk; kernel_rfl) (by kernel_rfl) (start_laid os _))) ?_
  intro W base args ds gs before hval hW _ hcond _ hL _ _
  exact strcmdBits_contract H enc W base args ds gs before hval hW (hcond _ rfl) hL

theorem strcmdBits_f1 : (Rows.strcmdBitsUptoRow.inPlace == Tryz.pinned.checked.prog.inPlace 5) = true := by kernel_rfl
theorem strcmdBits_f2 : (Rows.strcmdBitsUptoRow.unfollowed == Tryz.pinned.checked.prog.unfollowed 5) = true := by kernel_rfl
theorem strcmdBits_f3 : (Rows.strcmdBitsUptoRow.recurses == Tryz.pinned.checked.prog.recurses 5) = true := by kernel_rfl
theorem strcmdBits_f4 : (Rows.strcmdBitsUptoRow.named == Tryz.pinned.checked.prog.varsNamed 5) = true := by kernel_rfl
theorem strcmdBits_closed : joinedFacts Tryz.pinned.checked.prog 5 Tryz.f5 (Rows.OpenSpec.upto Rows.strcmdBitsSpec).bare Rows.strcmdBitsUptoRow = true := by
  unfold joinedFacts
  rw [strcmdBits_f1, strcmdBits_f2, strcmdBits_f3, strcmdBits_f4]
  kernel_rfl
theorem strcmdBits_over : Rows.StrcmdBitsUptoSaid :=
  OpenClaim.holds_of_cond 5 Tryz.f5 rfl rfl rfl rfl rfl rfl rfl ⟨rfl, rfl, rfl, rfl, rfl⟩ rfl rfl rfl rfl rfl (by kernel_rfl) Tryz.func5 strcmdBits_closed
    (of_decide_eq_true (by kernel_rfl)) (by unfold Func.isWrapper; first | (rw [if_pos (by decide +kernel)]; kernel_rfl) | (rw [if_neg (by decide +kernel)]; exact ⟨rfl, rfl⟩))
    (fun os started H enc _ F => by rw [OpenClaim.pre_eq_preRow]; exact strcmdBits_lifted os started H enc F)
theorem strcmdBits_plain (f : FuncId) (fn : Func) (hf : Tryz.pinned.checked.prog.funcNamed "covenant/covenantlaw17.StrcmdBits" = some f) (hfn : Tryz.pinned.checked.prog.funcs[f]? = some fn) :
    true = Tryz.pinned.checked.prog.looks [] ∧ ∀ (j : Nat) t, fn.params[j]? = some t → Tryz.pinned.checked.prog.wantsStandIn t = false := by
  obtain rfl : f = 5 := Option.some.inj ((show Tryz.prog.funcNamed "covenant/covenantlaw17.StrcmdBits" = some 5 by kernel_rfl).symm.trans hf) |>.symm
  obtain rfl : fn = Tryz.f5 := (Option.some.inj (Tryz.func5.symm.trans hfn)).symm
  refine ⟨by kernel_rfl, fun j t ht => ?_⟩
  rw [Tryz.params5] at ht
  have hm : t ∈ [37] := by simpa using Array.mem_of_getElem? ht
  have hall : ([37].all fun u => !Tryz.prog.wantsStandIn u) = true := by kernel_rfl
  exact (show Tryz.prog.wantsStandIn t = false by simpa using List.all_eq_true.1 hall t hm)

theorem strcmdBits_g1 : Rows.strcmdBitsUptoRow.wfByText (Rows.OpenSpec.upto Rows.strcmdBitsSpec) = true := by kernel_rfl
theorem strcmdBits_g2 : Tryz.pinned.checked.prog.mainIs = some (Rows.strcmdBitsUptoCard.stood.harness.1, Rows.strcmdBitsUptoCard.stood.harness.2.toList) := by kernel_rfl
theorem strcmdBits_g3 : false = Rows.strcmdBitsUptoRow.goesBy Tryz.pinned.checked.prog := by kernel_rfl
/-- StrcmdBits, up to the bound, tied. -/
theorem StrcmdBits_holds : Rows.StrcmdBitsUptoCardSaid :=
  Claim7.holds_tied_plain_at .later [] _ _ Rows.strcmdBitsUptoCard.stood.harness _ strcmdBits_over (fun _ h => by cases h) strcmdBits_g1 (fun _ h => by cases h) strcmdBitsUpto_row_tie rfl ⟨rfl, rfl⟩ strcmdBits_g2 rfl strcmdBits_plain strcmdBits_g3
#print axioms StrcmdBits_holds
end Go.Proofs.YthojmgjgmbnopaaGreatDoor
