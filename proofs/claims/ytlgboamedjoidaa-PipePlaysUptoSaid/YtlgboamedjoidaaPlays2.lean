/- PipePlays: what every row of calls answers, on every window; where the arguments hold together at most 1048576 values and letters. -/
import Derived.Test.YtlgboamedjoidaaPlays
namespace Go.Proofs.Ytlgboamedjoidaa
open Go Go.RowKit Go.ChangeShapes Go.WideShapes Go.ChangeAt
theorem own_plays2 : ownKnob Try.prog.godebug = none := by kernel_rfl
theorem laid_plays2 : laidOutB Try.prog = true := by kernel_rfl
theorem read_3_plays2 : Try.prog.readableRec 3 = true ∧ 3 < Try.prog.types.size := ⟨by kernel_rfl, of_decide_eq_true (by kernel_rfl)⟩
theorem read_31_plays2 : Try.prog.readableRec 31 = true ∧ 31 < Try.prog.types.size := ⟨by kernel_rfl, of_decide_eq_true (by kernel_rfl)⟩

theorem ops_bulk_plays2 {H : Type} (ops : List OpM) : ops.length ≤ Rows.uptoBulkAll (ops.map (opD (H := H))) := by
  induction ops with
  | nil => simp
  | cons o ops ih => simp only [List.map_cons, List.length_cons, Rows.uptoBulkAll, opD, Rows.uptoBulk]; omega

theorem plays2_contract (H : Type) (enc : TypeId × Value → H) (W : World) (base : Nat) (args : Array Value) (ds gs : List (DataW H)) (before : List MemPlace)
    (hval : ∀ (j : Nat) t v, Try.f4.params[j]? = some t → args[j]? = some v → Value.okWide Try.prog W .any base t v)
    (hW : DataW.Whole enc Try.prog Try.f4.params.toList Rows.pipePlaysSpec.vars false W args.toList ds gs before) (hk : Rows.uptoSmall H (ds ++ gs) = true) :
    Calls Try.prog 4 args W fun e W' => ∃ v, e = .returned v ∧ Rows.pipePlaysSpec.post enc Try.prog Try.f4 false true false false W args v W' := by
  have hW' := hW
  obtain ⟨p, q, hA0, hV, rfl, hfz, hnd⟩ := hW
  have hA : DataW.TrodAll enc Try.prog W 0 (fun _ => true) true Try.f4.params.toList args.toList ds p := hA0
  rw [Try.params4] at hA hval
  obtain ⟨v0, vs0, d0, ds0, p0, q0, hargs, rfl, rfl, h0, r0⟩ := trodAll_cons hA
  obtain ⟨v1, vs1, d1, ds1, p1, q1, rfl, rfl, rfl, h1, r1⟩ := trodAll_cons r0
  obtain ⟨rfl, rfl, rfl⟩ := trodAll_nil r1
  obtain rfl : args = #[v0, v1] := by cases args; simp_all
  obtain ⟨rfl, rfl⟩ := trodVars_none hV
  obtain ⟨a0, rfl, rfl, rfl, w0⟩ := open_int Try.underlying3 (hval 0 3 v0 rfl rfl) h0
  obtain ⟨aa, ll, cc, rfl⟩ := okWide_slice Try.underlying31 (hval 1 31 v1 rfl rfl)
  obtain ⟨fuel, hf⟩ := h1
  obtain ⟨a, cap, ops, sp, hv, hlen, hd, hat⟩ := open_ops (v := .slice aa ll cc) (by simpa [Value.cells] using hf)
  rw [hv]
  rw [hv] at hW'
  have hT := small_letters hd (by simpa using hk)
  have hlen' : ops.length ≤ 140737488355328 := by
    have h := of_decide_eq_true hk
    simp only [List.append_nil, Rows.uptoBulkAll] at h
    rcases hd with ⟨_, rfl⟩ | hd
    · simp
    · dsimp only at hd
      rw [hd] at h
      simp only [Rows.uptoBulk] at h
      have := ops_bulk_plays2 (H := H) ops
      omega
  have hpost : ∀ W', Below W.heap.size W W' → Rows.pipePlaysSpec.post enc Try.prog Try.f4 false true false false W #[.int .i64 a0, .slice a ops.length cap] (.bool true) W' := fun W' hg =>
    law_post laid_plays2 rfl rfl Try.underlying4 (by rw [Try.params4]; intro t ht; simp at ht; rcases ht with rfl | rfl; exact read_3_plays2; exact read_31_plays2) hW' rfl hg
  by_cases hb : fitE a0 = 0
  · have hr : 1 ≤ a0 ∧ a0 ≤ 1048576 := by unfold fitE at hb; split at hb <;> omega
    obtain ⟨win, rfl⟩ : ∃ n : Nat, a0 = n := ⟨a0.toNat, by omega⟩
    exact (plays_ok win (by omega) (by omega) a cap ops W hat hT hlen').mono fun e W' ⟨he, hg⟩ => ⟨_, he, hpost W' hg⟩
  · exact (plays_bad a0 _ W hb).mono fun e W' ⟨he, hg⟩ => ⟨_, he, hpost W' hg⟩

set_option maxRecDepth 100000 in
theorem plays2_lifted (os : Os) (started : os.Started) (H : Type) (enc : TypeId × Value → H) (F : Stop.Interp) :
    ReturnsInHanded {} Try.checked os 4 .any ((Rows.OpenSpec.upto Rows.pipePlaysSpec).pre6 enc Try.prog Try.f4 Rows.pipePlaysUptoRow.domain false) (((Rows.OpenSpec.upto Rows.pipePlaysSpec).at F).post enc Try.prog Try.f4 false true false false) := by
  refine returnsInHanded_of_cond (C := Try.checked) (s := Rows.OpenSpec.upto Rows.pipePlaysSpec) (k := Rows.uptoSmall) rfl own_plays2 started (by kernel_rfl) Try.func4
    (OpenSpec.witness (enc := enc) (C := Try.checked) (s := Rows.OpenSpec.upto Rows.pipePlaysSpec) (k := Rows.uptoSmall) rfl false ⟨#[], #[.int .i64 0, .slice none 0 0], []⟩ 8 (by kernel_rfl) (by kernel_rfl) (by kernel_rfl)
      (x := ([.lit (.int .i64 0), .nil], [], [])) (by kernel_rfl) rfl (by kernel_rfl)) ?_
  intro W base args ds gs before hval hW _ hk _
  exact plays2_contract H enc W base args ds gs before hval hW hk

theorem plays2_over : Rows.pipePlaysUptoRow.holds Try.pinned (Rows.OpenSpec.upto Rows.pipePlaysSpec) :=
  OpenClaim.holds_of_cond 4 Try.f4 rfl rfl rfl rfl rfl rfl rfl ⟨rfl, rfl, rfl, rfl, rfl⟩ rfl rfl rfl rfl rfl (by kernel_rfl) Try.func4 (by kernel_rfl)
    (of_decide_eq_true (by kernel_rfl)) (by unfold Func.isWrapper; first | (rw [if_pos (by decide +kernel)]; kernel_rfl) | (rw [if_neg (by decide +kernel)]; exact ⟨rfl, rfl⟩))
    (fun os started H enc _ F => plays2_lifted os started H enc F)

/-- PipePlays, up to the bound. -/
theorem PipePlays_holds : Rows.PipePlaysUptoSaid := plays2_over
#print axioms PipePlays_holds
end Go.Proofs.Ytlgboamedjoidaa
