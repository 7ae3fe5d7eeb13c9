/- PipeFull: just so many connections may come: for every number. No condition. -/
import Derived.Test.YtlgboamedjoidaaSure
import Derived.Test.YtlgboamedjoidaaLawEnd
import Derived.Test.YtlgboamedjoidaaRows
namespace Go.Proofs.Ytlgboamedjoidaa
open Go Go.RowKit

theorem below_from {B : Nat} {w w' : World} {q : Nat} (h : Below B (w.drewN q) w') : Below B w w' := ⟨h.os, h.tape, h.output, h.size, h.block⟩
def FullRel (w : World) (p : Nat) (i : Value) (wr : World) : Prop := ∃ ps n o', ps.length ≤ 1024 ∧ i = .int .i64 ps.length ∧ Net o' wr [0] p ps n ∧ Stp [0] none0 w o' wr
def FullRel2 (w : World) (p : Nat) (i : Value) (wr : World) : Prop := ∃ (k : Nat) (ps : List Nat) (n : NI) (o' : Roles), k ≤ 5 ∧ i = .int .i64 k ∧ ps.length = 1024 ∧ Net o' wr [0] p ps n ∧ Stp [0] none0 w o' wr

set_option maxRecDepth 100000 in
set_option maxHeartbeats 1000000 in
theorem full_ok (a0 : Int) (w : World) : Calls Try.prog 3 #[.int .i64 a0] w fun e w' => e = .returned (.bool true) ∧ Below w.heap.size w w' := by
  have H1 := New_ok none0 w [0] 1 (by decide) (by decide)
  change Calls Try.prog 7 #[.int .i64 1] w _ at H1
  go_enter Try.func3, Try.ntmps3
  go_wp2_with fail
  refine H1.mono ?_; rintro e w1 ⟨p, o1, rfl, hN1, st1⟩
  have hat : FullRel w p (.int .i64 0) w1 := ⟨[], _, o1, by simp, rfl, hN1, st1⟩
  clear st1 hN1 H1
  unfold ptr at *
  go_wp2_with fail
  go_loopw [5] (fun i wr => FullRel w p i wr) (fun i _ => 1024 - (intOf i).toNat)
  case atStart => exact hat
  case round =>
    obtain ⟨ps, n, o', hle, rfl, hN, st⟩ := hrel
    clear hat
    have S1 := Lib.hid st; clear st
    by_cases hlt : ps.length < 1024
    · have H2 := Connect_ok hN hlt
      clear hN
      unfold ptr at H2
      have hd : decide ((ps.length : Int) < 1024) = true := by simp; omega
      go_wp2_with fail
      refine H2.mono ?_; rintro e w2 ⟨b, o2, rfl, hN2, st2⟩
      have S2 := Lib.hid hN2
      have S3 := Lib.hid (S1.out.trans st2)
      clear hN2 st2 H2
      go_wp2_with fail
      go_roundw
      case rel => exact ⟨_, _, _, by simp; omega, by simp, S2.out, S3.out⟩
      case measure => simp [intOf]; omega
    · have he : ps.length = 1024 := by omega
      have hd : decide ((ps.length : Int) < 1024) = false := by simp; omega
      have hat2 : FullRel2 w p (.int .i64 0) wr := ⟨0, ps, n, o', by decide, rfl, he, hN, S1.out⟩
      clear S1 hlt he hN
      go_wp2_with fail
      go_loopw [8] (fun i wr => FullRel2 w p i wr) (fun i _ => 5 - (intOf i).toNat)
      case atStart => exact hat2
      case round =>
        obtain ⟨k, ps2, n2, o2, hk, rfl, he, hN, st⟩ := hrel
        clear hat2
        have S2 := Lib.hid st; clear st
        by_cases hgo : (k : Int) < a0 ∧ k < 5
        · obtain ⟨hg1, hg2⟩ := hgo
          have H3 := Connect_full hN he
          have SN := Lib.hid hN
          have Se := Lib.hid he
          unfold ptr at H3
          clear hN he
          go_wp2_with fail
          refine H3.mono ?_; rintro e w2 ⟨rfl, rfl⟩
          go_wp2_with fail
          go_roundw
          case rel => exact ⟨k + 1, ps2, n2, o2, by omega, by go_num, Se.out, SN.out, S2.out⟩
          case measure => simp [intOf]; omega
        · have H3 := Conns_ok hN
          rw [show n2.conns.length = 1024 from by obtain ⟨_, h⟩ := hN; rw [← h.len]; exact he] at H3
          change Calls Try.prog 9 #[.pointer (some ⟨p, 0, none⟩)] _ (fun e w' => e = .returned (.int .i64 1024) ∧ _) at H3
          have HS := fun q => sure_ok (wr.drewN q)
          clear he hN
          have hcase : (¬ (k : Int) < a0) ∨ ((k : Int) < a0 ∧ ¬ k < 5) := by omega
          clear hgo
          rcases hcase with hc | ⟨hc1, hc2⟩
          all_goals
            go_wp2_with fail
            refine H3.mono ?_; rintro e w2 ⟨rfl, q, rfl⟩
            go_wp2_with fail
            refine (HS _).mono ?_; rintro e w2 ⟨rfl, hB⟩
            go_wp2_with fail
            go_ret
            exact ⟨rfl, S2.out.below0.trans (Below.mono (below_from hB) S2.out.size)⟩

/-! ### The statement -/
open Go.ChangeShapes Go.WideShapes Go.ChangeAt
theorem own : ownKnob Try.prog.godebug = none := by kernel_rfl
theorem laidOut : laidOutB Try.prog = true := by kernel_rfl
theorem read_int : Try.prog.readableRec 3 = true ∧ 3 < Try.prog.types.size := ⟨by kernel_rfl, of_decide_eq_true (by kernel_rfl)⟩

set_option maxRecDepth 100000 in
theorem full_lifted (os : Os) (started : os.Started) (H : Type) (enc : TypeId × Value → H) :
    ReturnsInHanded {} Try.checked os 3 .any (Rows.pipeFullSpec.pre6 enc Try.prog Try.f3 Rows.pipeFullRow.domain false) (Rows.pipeFullSpec.post enc Try.prog Try.f3 false true false false) := by
  refine returnsInHanded_of_change (C := Try.checked) own started (by kernel_rfl) Try.func3
    (ChangeSpec.witness6 (enc := enc) (C := Try.checked) false ⟨#[], #[.int .i64 0], []⟩ 8 (by kernel_rfl) (by kernel_rfl) (by kernel_rfl) (by kernel_rfl)) ?_
  intro W base args ds gs before hval0 hW hcnd _
  have hval : ∀ (j : Nat) t v, Try.f3.params[j]? = some t → args[j]? = some v → Value.okWide Try.prog W .any base t v := hval0
  have hW' := hW
  obtain ⟨p, q, hA0, hV, rfl, hfz, hnd⟩ := hW
  have hA : DataW.TrodAll enc Try.prog W 0 (fun _ => true) true Try.f3.params.toList args.toList ds p := hA0
  rw [Try.params3] at hA hval
  obtain ⟨v0, vs0, d0, ds0, p0, q0, hargs, rfl, rfl, h0, r0⟩ := trodAll_cons hA
  obtain ⟨rfl, rfl, rfl⟩ := trodAll_nil r0
  obtain rfl : args = #[v0] := by cases args; simp_all
  obtain ⟨rfl, rfl⟩ := trodVars_none hV
  obtain ⟨a0, rfl, rfl, rfl, w0⟩ := open_int Try.underlying3 (hval 0 3 v0 rfl rfl) h0
  refine (full_ok a0 W).mono fun e W' ⟨he, hg⟩ => ?_
  subst he
  exact ⟨_, rfl, law_post laidOut rfl rfl Try.underlying4 (by rw [Try.params3]; intro t ht; simp at ht; subst ht; exact read_int) hW' rfl hg⟩

theorem full_over : Rows.pipeFullRow.holds Try.pinned (OpenSpec.ofChange Rows.pipeFullSpec) :=
  OpenClaim.holds_of_wide 3 Try.f3 rfl rfl rfl rfl rfl rfl rfl ⟨rfl, rfl, rfl, rfl, rfl⟩ rfl rfl rfl rfl rfl (by kernel_rfl) Try.func3 (by kernel_rfl)
    (of_decide_eq_true (by kernel_rfl)) (by unfold Func.isWrapper; first | (rw [if_pos (by decide +kernel)]; kernel_rfl) | (rw [if_neg (by decide +kernel)]; exact ⟨rfl, rfl⟩))
    (fun os started H enc _ => full_lifted os started H enc)

/-- PipeFull. -/
theorem PipeFull_holds : Rows.PipeFullSaid := full_over
#print axioms PipeFull_holds
end Go.Proofs.Ytlgboamedjoidaa
