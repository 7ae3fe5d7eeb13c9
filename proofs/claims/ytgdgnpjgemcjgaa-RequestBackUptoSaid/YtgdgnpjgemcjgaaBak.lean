import Derived.Test.YtgdgnpjgemcjgaaBac
import Derived.Test.YtgdgnpjgemcjgaaWri
namespace Go.Proofs.Ytgdgnpjgemcjgaa
open Go Go.RowKit
theorem writeAll_len (reqs : List (List (List UInt8))) : ∀ (k : Nat), bulkSS reqs ≤ 1048576 → ((reqs.take k).map writeL).flatten.length ≤ 35 * bulkSS reqs := by
  induction reqs with
  | nil => intro k h; simp
  | cons ws t ih =>
    intro k h
    have hc : bulkSS (ws :: t) = bulkS ws + 1 + bulkSS t := by simp [bulkSS]
    cases k with
    | zero => simp
    | succ k =>
      have h1 := ih k (by omega)
      have h2 := writeL_len ws (by omega)
      simp only [List.take_succ_cons, List.map_cons, List.flatten_cons, List.length_append]
      omega
theorem write_take {reqs : List (List (List UInt8))} {k : Nat} {ws : List (List UInt8)} (h : reqs[k]? = some ws) : ((reqs.take (k + 1)).map writeL).flatten = ((reqs.take k).map writeL).flatten ++ writeL ws := by
  rw [List.take_add_one, h]; simp
def BackRel (w1 : World) (reqs : List (List (List UInt8))) (s i : Value) (wr : World) : Prop :=
  ∃ k : Nat, k ≤ reqs.length ∧ i = .int .i64 (k : Int) ∧ s = .string ⟨(((reqs.take k).map writeL).flatten).toArray⟩ ∧ Below w1.heap.size w1 wr
theorem limV_nat {b a n : Int} (h : LimI b a n) : limV b a n = .agg #[.int .i64 (limL b a n).bulk, .int .i64 (limL b a n).args, .int .i64 (limL b a n).line] ∧ LimOk (limL b a n) := by
  obtain ⟨⟨h1, h2⟩, ⟨h3, h4⟩, h5, h6⟩ := h
  have e1 : ((b.toNat : Nat) : Int) = b := by omega
  have e2 : ((a.toNat : Nat) : Int) = a := by omega
  have e3 : ((n.toNat : Nat) : Int) = n := by omega
  refine ⟨by unfold limV limL; simp only [e1, e2, e3], ⟨by show 1 ≤ b.toNat; omega, by show b.toNat ≤ _; omega⟩, ⟨by show 1 ≤ a.toNat; omega, by show a.toNat ≤ _; omega⟩, ⟨by show _ ≤ n.toNat; omega, by show n.toNat ≤ _; omega⟩⟩
set_option maxRecDepth 10000 in
set_option maxHeartbeats 4000000 in
theorem back_law (w : World) (b a n : Int) (reqs : List (List (List UInt8))) (v : Value) (hL : LLIn w v reqs) (hb : bulkSS reqs ≤ 1048576) : Calls Try.prog 8 #[limV b a n, v] w fun e w' => e = .returned (.bool true) ∧ Below w.heap.size w w' := by
  have hln := len_le_bulkSS reqs
  by_cases hl : LimI b a n
  · have HC := Lib.hid (fun W => rcheck_ok hl W)
    obtain ⟨hlv, hlo⟩ := limV_nat hl
    have HWX := Lib.hid (fun S W (h : S.length ≤ 1099511627776) => whole_x b a n S h W)
    have hwp : ∀ S, wholeX b a n S = _ := fun S => wholeX_pos S hl
    unfold WX at HWX
    simp only [hwp] at HWX
    clear hwp hl
    simp only [hlv] at HC HWX ⊢
    clear hlv
    generalize limL b a n = l at *
    have HR := Lib.hid (fun W (hB : Below w.heap.size w W) => right_ok W l hlo reqs v (hL.below hB) (by omega))
    have HBP := Lib.hid (back_plain hlo reqs 0)
    have HLL := Lib.hid hL
    obtain ⟨av, cap, rfl, hc1, hc2, hc0, hcells⟩ := hL
    have HCL := Lib.hid hcells
    clear hlo hc0 hcells
    go_enter Try.func8, Try.ntmps8
    go_wp2_with fail
    refine (HC.out _).mono ?_; rintro e w1 ⟨rfl, hB1⟩
    obtain ⟨hq1, _⟩ := bcell hB1
    have HB1 := Lib.hid (((Below.refl w.heap.size w).alloc (Nat.le_refl _) _).trans (hB1.mono (by simp)))
    have hx0 : w1.cell? ⟨w.heap.size, 0, none⟩ = some (.int .i64 l.bulk) := by rw [hq1 _ _ (by simp)]; simp [go_sem]
    have hx1 : w1.cell? ⟨w.heap.size, 1, none⟩ = some (.int .i64 l.args) := by rw [hq1 _ _ (by simp)]; simp [go_sem]
    have hx2 : w1.cell? ⟨w.heap.size, 2, none⟩ = some (.int .i64 l.line) := by rw [hq1 _ _ (by simp)]; simp [go_sem]
    have hz1 : w.heap.size < w1.heap.size := by have := hB1.size; simp at this; omega
    clear hq1 hB1
    go_wp2_with fail
    refine (HR.out _ HB1.out).mono ?_; rintro e w2 ⟨rfl, hB2⟩
    obtain ⟨hq2, _⟩ := bcell hB2
    have HB2 := Lib.hid (HB1.out.trans (hB2.mono HB1.out.size))
    have hy0 : w2.cell? ⟨w.heap.size, 0, none⟩ = some (.int .i64 l.bulk) := by rw [hq2 _ _ hz1]; exact hx0
    have hy1 : w2.cell? ⟨w.heap.size, 1, none⟩ = some (.int .i64 l.args) := by rw [hq2 _ _ hz1]; exact hx1
    have hy2 : w2.cell? ⟨w.heap.size, 2, none⟩ = some (.int .i64 l.line) := by rw [hq2 _ _ hz1]; exact hx2
    have hz2 : w.heap.size < w2.heap.size := Nat.lt_of_lt_of_le hz1 hB2.size
    clear hq2 hB2 hx0 hx1 hx2 hz1
    by_cases hr : ∀ ws ∈ reqs, RightR l ws
    · have hW := HBP.out hr
      rw [decide_eq_true hr]
      clear hr
      have HW := Lib.hid hW
      clear hW
      have hat : BackRel w2 reqs (.string ⟨#[]⟩) (.int .i64 0) w2 := ⟨0, Nat.zero_le _, rfl, by simp, Below.refl _ _⟩
      go_wp2_with fail
      go_loopw [5, 6] (fun s i wr => BackRel w2 reqs s i wr) (fun _ i _ => reqs.length - (intOf i).toNat)
      case atStart => exact hat
      case round =>
        obtain ⟨k, hk, rfl, rfl, hB⟩ := hrel
        clear hat
        have hSl := writeAll_len reqs k hb
        obtain ⟨hq, _⟩ := bcell hB
        have d0 : wr.cell? ⟨w.heap.size, 0, none⟩ = some (.int .i64 l.bulk) := by rw [hq _ _ hz2]; exact hy0
        have d1 : wr.cell? ⟨w.heap.size, 1, none⟩ = some (.int .i64 l.args) := by rw [hq _ _ hz2]; exact hy1
        have d2 : wr.cell? ⟨w.heap.size, 2, none⟩ = some (.int .i64 l.line) := by rw [hq _ _ hz2]; exact hy2
        have HBB := Lib.hid hB
        have HBW := Lib.hid (HB2.out.trans (hB.mono HB2.out.size))
        clear hq hB
        by_cases hkl : k < reqs.length
        · obtain ⟨ws, hws⟩ : ∃ x, reqs[k]? = some x := ⟨_, List.getElem?_eq_getElem hkl⟩
          rcases HCL.out with hnil | ⟨ba, oa, rfl, hba, hca⟩
          · subst hnil; exact absurd hkl (by simp)
          obtain ⟨u, c1', hT'⟩ := hca k ws hws
          have c1 : wr.cell? ⟨ba, oa + k, none⟩ = some u := by rw [HBW.out.cell (p := ⟨ba, oa + k, none⟩) hba]; exact c1'
          have hws2 := le_sumS_of (List.mem_of_getElem? hws)
          have hwl := writeL_len ws (by omega)
          have hwn := len_le_bulkS ws
          have HWR := Lib.hid (write_ok ws u wr (hT'.below HBW.out) (by omega) (by omega))
          have HWT := Lib.hid (write_take hws)
          generalize ((reqs.take k).map writeL).flatten = S at *
          have hszS : (⟨S.toArray⟩ : ByteArray).size = S.length := by simp [ByteArray.size]
          have hszx : (⟨(writeL ws).toArray⟩ : ByteArray).size = (writeL ws).length := by simp [ByteArray.size]
          clear hca hws c1' hT' d0 d1 d2
          go_wp2_with fail
          refine HWR.out.mono ?_; rintro e w3 ⟨rfl, hB3⟩
          have HB3 := Lib.hid (HBB.out.trans (hB3.mono HBB.out.size))
          clear hB3
          go_wp2_with fail
          go_roundw
          case rel => exact ⟨k + 1, hkl, by go_num, by rw [HWT.out, bytes_app], HB3.out⟩
          case measure => simp [intOf]; omega
        · obtain rfl : k = reqs.length := by omega
          rw [List.take_length] at *
          have HX := Lib.hid (HWX.out (reqs.map writeL).flatten wr (by omega))
          have hW := HW.out
          generalize (reqs.map writeL).flatten = S at *
          change wholeR (start l S) = _ at hW
          rw [hW] at HX
          dsimp only at HX
          have hszS : (⟨S.toArray⟩ : ByteArray).size = S.length := by simp [ByteArray.size]
          have hzS : 0 + S.length = S.length := by omega
          rw [hzS] at HX
          clear hW hzS
          go_wp2_with fail
          refine HX.out.mono ?_; rintro e w3 ⟨ua, un, uc, rfl, hL2, hB3⟩
          have HB3 := Lib.hid (HBW.out.trans (hB3.mono HBW.out.size))
          have HALL := Lib.hid (all_same hL2 (HLL.out.below HB3.out) (by omega))
          clear hL2 hB3 HX d0 d1 d2
          go_wp2_with fail
          refine HALL.out.mono ?_; rintro e w4 ⟨rfl, k3, rfl⟩
          go_wp2_with fail
          refine (sure_ok _).mono ?_; rintro e w4 ⟨rfl, hB⟩
          go_wp2_with fail
          go_ret
          exact ⟨rfl, (below_drewN HB3.out _).trans (hB.mono (by have := HB3.out.size; simpa using this))⟩
    · rw [decide_eq_false hr]
      clear hr hy0 hy1 hy2
      go_wp2_with fail
      refine (sure_ok _).mono ?_; rintro e w4 ⟨rfl, hB⟩
      go_wp2_with fail
      go_ret
      exact ⟨rfl, HB2.out.trans (hB.mono HB2.out.size)⟩
  · have HC := Lib.hid (fun W => rcheck_bad hl W)
    clear hl hL
    unfold limV at *
    go_enter Try.func8, Try.ntmps8
    go_wp2_with fail
    refine (HC.out _).mono ?_; rintro e w1 ⟨rfl, hB1⟩
    have HB1 := Lib.hid (((Below.refl w.heap.size w).alloc (Nat.le_refl _) _).trans (hB1.mono (by simp)))
    clear hB1
    go_wp2_with fail
    refine (sure_ok _).mono ?_; rintro e w4 ⟨rfl, hB⟩
    go_wp2_with fail
    go_ret
    exact ⟨rfl, HB1.out.trans (hB.mono HB1.out.size)⟩
end Go.Proofs.Ytgdgnpjgemcjgaa
