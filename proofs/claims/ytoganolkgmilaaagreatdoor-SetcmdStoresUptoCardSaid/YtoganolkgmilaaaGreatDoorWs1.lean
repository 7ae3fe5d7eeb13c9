import Derived.Test.YtoganolkgmilaaaGreatDoorXS
import Derived.Test.YtoganolkgmilaaaGreatDoorWs0
import Derived.Deep.DeepCutAuto
namespace Go.Proofs.YtoganolkgmilaaaGreatDoor
open Go Go.RowKit
/-! SetcmdStores: sunion. -/
set_option maxRecDepth 10000 in
set_option maxHeartbeats 20000000 in
theorem stores_w1 {w0 : World} {va vb : Value} {a b : List Tx} (ha : Vw (Old w0) w0 va 1 a.length (a.map txt)) (hb : Vw (Old w0) w0 vb 1 b.length (b.map txt)) (n : Int)
    (hsa : ∀ x ∈ a, x.length ≤ 1048576) (hsb : ∀ x ∈ b, x.length ≤ 1048576) (hla : a.length ≤ 1048576) (hlb : b.length ≤ 1048576) (h0a : a ≠ []) (h0b : b ≠ [])
    (hrm : -3 < n.tmod 3 ∧ n.tmod 3 < 3) (hrw : (n.tmod 3 + 3).tmod 3 = 1) :
    Calls Tryz.prog 3 #[va, vb, .int .i64 n] w0 fun e w' => e = .returned (.bool true) ∧ Below w0.heap.size w0 w' := by
  obtain ⟨aa, ca, rfl, _⟩ := id ha.slice
  obtain ⟨ab, cb, rfl, _⟩ := id hb.slice
  have hl1a : 0 < a.length := List.length_pos_iff.2 h0a
  have e0a : ((a.length : Int) == 0) = false := beq_eq_false_iff_ne.2 (by omega)
  have hl1b : 0 < b.length := List.length_pos_iff.2 h0b
  have e0b : ((b.length : Int) == 0) = false := beq_eq_false_iff_ne.2 (by omega)
  have HN := Lib.hid (jnew_ok none0 w0 [1])
  have HVa := Lib.hid ha
  have HSa := Lib.hid hsa
  have H0a := Lib.hid h0a
  have HVb := Lib.hid hb
  have HSb := Lib.hid hsb
  have H0b := Lib.hid h0b
  obtain ⟨i0, hi0, hz0, hz1, hz2⟩ := info_parts infoS
  have hoa := ofL_len a
  have hob := ofL_len b
  have HSOA := Lib.hid (show ∀ x ∈ nextL true ((fun _ => []) aB) a, x.length ≤ 1048576 from fun x hx => hsa x ((ofL_mem x a).1 hx))
  have HSOB := Lib.hid (show ∀ x ∈ nextL true (upd (fun _ => []) aB (nextL true [] a) bB) b, x.length ≤ 1048576 from fun x hx => hsb x ((ofL_mem x b).1 hx))
  have er : IntKind.i64.wrap (n.tmod 3 + 3) = n.tmod 3 + 3 := by rw [IntKind.wrap_i64]; omega
  clear hrm
  clear ha hsa h0a hb hsb h0b 
  try unfold txt
  go_enter Tryz.func3, Tryz.ntmps3
  go_wp2_with fail
  refine HN.out.mono ?_; rintro e w1 ⟨p, o1, rfl, hj, hs⟩
  have h1 : At w0 o1 w1 p (fun _ => none) ⟨0, 0⟩ 0 := ⟨hj, hs, Nat.le_refl _, Nat.le_refl _⟩
  have H1 := Lib.hid h1
  clear hj hs h1 HN
  go_wp2_with fail
  refine awake_ok.mono ?_; rintro e w2 ⟨rfl, hB2⟩
  have H2 := Lib.hid (H1.out.below hB2)
  clear hB2 H1
  go_wp2_with fail
  refine (lawshort_ok (H2.out.vw HVa.out) HSa.out (by omega)).mono ?_
  rintro e w3 ⟨rfl, rfl⟩
  go_wp2_with fail
  refine (lawshort_ok (H2.out.vw HVb.out) HSb.out (by omega)).mono ?_
  rintro e w3 ⟨rfl, rfl⟩
  have HROWp := Lib.hid (Row.lit o1 w3 [9] 9 [txt saddB, txt aB] (by decide))
  have HSRCp := Lib.hid (((H2.out.vw HVa.out).below (lit_below w3 (.cells [txt saddB, txt aB].toArray 9))).src (P := Tryz.prog) Tryz.underlying22 (one_list a))
  go_wp2_with (
    at_builtin
    refine wpList_app _ rfl _ _ 22 22 rfl 9 i0 _ 1 16 Tryz.underlying22 hi0 hz0 hz1 hz2 rfl rfl HROWp.out rfl HSRCp.out (by unfold maxLen; simp; omega) (by simp; omega) ?_
    intro v' wp4 op4 hrow hst
    obtain ⟨ap4, cp4, rfl, _⟩ := id hrow.slice
    have Hp4 := Lib.hid (H2.out.app _ hst)
    have HVp4 := Lib.hid hrow.vw.old
    clear hrow hst HROWp HSRCp)
  have hvp4 := HVp4.out
  have ep2 : [txt saddB, txt aB].length + a.length = (aB :: a).length + 1 := by simp; omega
  rw [ep2] at hvp4
  rw [show 2 + a.length = (aB :: a).length + 1 from by simp; omega]

  refine (run_change Hp4.out (by decide) Sets.empty true (k := aB) (more := a) (nm := saddB) H0a.out hvp4 (by decide) (by decide) HSOA.out (by simp) (by omega)).mono ?_
  rintro e wp5 hr
  obtain ⟨ap5, nlp5, lp5, rfl, op5, Sp5, kp5, hp5, hKp5, _⟩ := hr.num
  clear hr
  have Hp5 := Lib.hid hp5
  have HKp5 := Lib.hid hKp5
  clear hvp4 hp5 hKp5 Hp4 HVp4 ep2 H2

  have HROWq := Lib.hid (Row.lit op5 wp5 [9] 9 [txt saddB, txt bB] (by decide))
  have HSRCq := Lib.hid (((Hp5.out.vw HVb.out).below (lit_below wp5 (.cells [txt saddB, txt bB].toArray 9))).src (P := Tryz.prog) Tryz.underlying22 (one_list b))
  go_wp2_with (
    at_builtin
    refine wpList_app _ rfl _ _ 22 22 rfl 9 i0 _ 1 16 Tryz.underlying22 hi0 hz0 hz1 hz2 rfl rfl HROWq.out rfl HSRCq.out (by unfold maxLen; simp; omega) (by simp; omega) ?_
    intro v' wq4 oq4 hrow hst
    obtain ⟨aq4, cq4, rfl, _⟩ := id hrow.slice
    have Hq4 := Lib.hid (Hp5.out.app _ hst)
    have HVq4 := Lib.hid hrow.vw.old
    clear hrow hst HROWq HSRCq)
  have hvq4 := HVq4.out
  have eq2 : [txt saddB, txt bB].length + b.length = (bB :: b).length + 1 := by simp; omega
  rw [eq2] at hvq4
  rw [show 2 + b.length = (bB :: b).length + 1 from by simp; omega]

  refine (run_change Hq4.out (by decide) HKp5.out true (k := bB) (more := b) (nm := saddB) H0b.out hvq4 (by decide) (by decide) HSOB.out (by show ([] : List Tx).length ≤ _; simp) (by omega)).mono ?_
  rintro e wq5 hr
  obtain ⟨aq5, nlq5, lq5, rfl, oq5, Sq5, kq5, hq5, hKq5, _⟩ := hr.num
  clear hr
  have Hq5 := Lib.hid hq5
  have HKq5 := Lib.hid hKq5
  clear hvq4 hq5 hKq5 Hq4 HVq4 eq2 Hp5

  have HKK := Lib.hid (show Sets (upd (upd (fun _ => []) aB (ofL a)) bB (ofL b)) Sq5 from HKq5.out)
  clear HKq5 HKp5
  have HPT := Lib.hid (fun (W : World) (hW : Below wq5.heap.size wq5 W) => put_text (Hq5.out.below hW) (by decide) HKK.out dB [120] (by decide) (due := 9) (by decide))
  unfold txt tvV at HPT
  go_wp2_with fail
  refine (HPT.out _ (Below.refl _ _)).mono ?_; rintro e w6 ⟨rfl, o6, S6, c6, h6, hb6, hd6⟩
  obtain ⟨ro, h6r, hr6⟩ : ∃ ro : Roles, At w0 ro w6 p S6 c6 6 ∧ ∀ b, w6.heap.size ≤ b → ro b = [9] := ⟨_, h6.later, fun b hb => later_new hb⟩
  have H6 := Lib.hid h6r
  have HR6 := Lib.hid hr6
  clear h6r hr6
  have HB6 := Lib.hid hb6
  have HD6 := Lib.hid hd6
  clear h6 hb6 hd6 HPT Hq5
  go_wp2_with fail
  obtain ⟨I, hI⟩ : ∃ I, I = (ofL a).filter fun x => decide (x ∈ b) := ⟨_, rfl⟩
  obtain ⟨U, hU⟩ : ∃ U, U = ofL [a, b].flatten := ⟨_, rfl⟩
  obtain ⟨D, hD⟩ : ∃ D, D = (ofL a).filter fun x => !decide (x ∈ b) := ⟨_, rfl⟩
  have hIl : I.length ≤ 1048576 := by rw [hI]; exact Nat.le_trans (List.length_filter_le _ _) (by omega)
  have hDl : D.length ≤ 1048576 := by rw [hD]; exact Nat.le_trans (List.length_filter_le _ _) (by omega)
  have hUl : U.length ≤ 2097152 := by rw [hU]; refine Nat.le_trans (ofL_len _) ?_; simp; omega
  obtain ⟨A7, hA7⟩ := lit_vwSO rfl rfl ((H6.out.below (lit_below w6 (.cells [txt sinterB, txt sunionB, txt sdiffB].toArray 9))).vw HVa.out) ((H6.out.below (lit_below w6 (.cells [txt sinterB, txt sunionB, txt sdiffB].toArray 9))).vw HVb.out)
  have hin := rinter_ok hA7 (by omega) (by omega)
  rw [← hI, show (w6.alloc (.cells [txt sinterB, txt sunionB, txt sdiffB].toArray 9)).heap.size = w6.heap.size + 1 from by simp] at hin
  unfold txt at hin
  have HIN := Lib.hid hin
  have HIE := Lib.hid hI
  have HUE := Lib.hid hU
  have HDE := Lib.hid hD
  clear hA7 hin hI hU hD
  refine HIN.out.mono ?_; rintro e w7 ⟨a7, c7, rfl, hv7, hB7⟩
  have hst7 : ∀ (b2 k : Nat) (u : Value), (w6.alloc (.cells [txt sinterB, txt sunionB, txt sdiffB].toArray 9)).cell? ⟨b2, k, none⟩ = some u → w7.cell? ⟨b2, k, none⟩ = some u := fun b2 k u hu => cell_below ((lit_below _ _).trans (hB7.mono (by simp))) hu
  have s0 : w7.cell? ⟨w6.heap.size, 1, none⟩ = some (.string ⟨#[115, 117, 110, 105, 111, 110]⟩) := hst7 _ _ _ (by simp [go_sem]; rfl)
  have hB7' := ((lit_below w6 (.cells [txt sinterB, txt sunionB, txt sdiffB].toArray 9)).trans ((lit_below _ _).mono (by simp))).trans (hB7.mono (by simp; omega))
  have H7 := Lib.hid (H6.out.below hB7')
  have HV7 := Lib.hid (hv7.imp (fun b hb => HR6.out b (by simp at hb; omega)))
  have HZ7 := Lib.hid hB7'.size
  have HS7 := Lib.hid s0
  have HX7 := Lib.hid (show w6.heap.size < w7.heap.size from by have := hB7.size; simp at this; omega)
  clear hB7 hB7' hv7 HIN H6 hst7 s0
  go_wp2_with fail
  obtain ⟨A8, hA8⟩ := lit_vwSO rfl rfl (H7.out.vw HVa.out) (H7.out.vw HVb.out)
  have hun := runion_ok hA8 (by simp; omega) (by simp)
  rw [← HUE.out] at hun
  have HUN := Lib.hid hun
  clear hA8 hun
  refine HUN.out.mono ?_; rintro e w8 ⟨a8, c8, rfl, hv8, hB8⟩
  have hB8' := (lit_below w7 _).trans (hB8.mono (by simp))
  have H8 := Lib.hid (H7.out.below hB8')
  have HV7 := Lib.hid (HV7.out.below hB8')
  have HY8 := Lib.hid hB8'.size
  have HS8 := Lib.hid (cell_below hB8' HS7.out)
  have HZ8 := Lib.hid (Nat.le_trans HZ7.out hB8'.size)
  have HV8 := Lib.hid (hv8.imp (fun b hb => HR6.out b (by have := HZ7.out; simp at hb; omega)))
  clear hB8 hB8' hv8 HUN H7 HS7
  go_wp2_with fail
  obtain ⟨A9, hA9⟩ := lit_vwSO rfl rfl (H8.out.vw HVa.out) (H8.out.vw HVb.out)
  have hdi := rdiff_ok hA9 (by omega) (by omega)
  rw [← HDE.out] at hdi
  have HDI := Lib.hid hdi
  clear hA9 hdi
  refine HDI.out.mono ?_; rintro e w9 ⟨a9, c9, rfl, hv9, hB9⟩
  have hB9' := (lit_below w8 _).trans (hB9.mono (by simp))
  have H9 := Lib.hid (H8.out.below hB9')
  have HS9 := Lib.hid (cell_below hB9' HS8.out)
  have HV7 := Lib.hid (HV7.out.below hB9')
  have HV8 := Lib.hid (HV8.out.below hB9')
  have HV9 := Lib.hid (hv9.imp (fun b hb => HR6.out b (by have := HZ8.out; simp at hb; omega)))
  have HZ9 := Lib.hid (Nat.le_trans HZ8.out hB9'.size)
  have HLT := Lib.hid hB9'.size
  have HL8 := Lib.hid (show w6.heap.size < w9.heap.size from Nat.lt_of_lt_of_le HX7.out (Nat.le_trans HY8.out hB9'.size))
  clear hB9 hB9' hv9 HDI H8 HS8
  have hB10 := lit_below w9 (.cells #[.slice a7 I.length c7, .slice a8 U.length c8, .slice a9 D.length c9] 22)
  have hk9 : (w9.alloc (.cells #[.slice a7 I.length c7, .slice a8 U.length c8, .slice a9 D.length c9] 22)).cell? ⟨w9.heap.size, 1, none⟩ = some (.slice a8 U.length c8) := by simp [go_sem]
  have hs9 := cell_below hB10 HS9.out
  obtain ⟨w10, hw10⟩ : ∃ w10, w10 = w9.alloc (.cells #[.slice a7 I.length c7, .slice a8 U.length c8, .slice a9 D.length c9] 22) := ⟨_, rfl⟩
  have hz10 : w9.heap.size < w10.heap.size := by rw [hw10]; simp
  rw [← hw10] at hB10 hk9 hs9
  have HJ := Lib.hid ((st_union a b).trans HUE.out.symm)
  have HSM := Lib.hid (show ∀ x ∈ U, x.length ≤ 1048576 from fun x hx => by rw [HUE.out, ofL_mem] at hx; simp at hx; rcases hx with hx | hx; exact HSa.out x hx; exact HSb.out x hx)
  have hjl : U.length ≤ 2097152 := by omega
  have HK10 := Lib.hid (show Kp ro w10 w6.heap.size 1 (.string ⟨#[115, 117, 110, 105, 111, 110]⟩) ∧ Kp ro w10 w9.heap.size 1 (.slice a8 U.length c8) from ⟨⟨by have := HL8.out; omega, HR6.out _ (Nat.le_refl _), hs9⟩, ⟨hz10, HR6.out _ HZ9.out, hk9⟩⟩)
  have H10 := Lib.hid (H9.out.below hB10)
  have HV10 := Lib.hid (HV8.out.below hB10)
  have HSET := Lib.hid hw10
  clear hB10 hk9 hs9 H9 HV7 HV8 HV9 HS9 hw10
  go_wp2_with fail
  rw [← HSET.out]
  go_cut [117] (fun s117 wx => s117 = .bool false ∧ StR w0 p a b U w9.heap.size 1 (.slice a8 U.length c8) wx)
  case first =>
    have HFL := Lib.hid (show (upd (upd (fun _ => []) aB (ofL a)) bB (ofL b) aB).length + (upd (upd (fun _ => []) aB (ofL a)) bB (ofL b) bB).length ≤ 274877906944 from by
      rw [upd_far (show aB ≠ bB by decide), upd_same, upd_same]; omega)
    have HR1 := Lib.hid (fun (W : World) (hW : Below w10.heap.size w10 W) (hV : Vw (Old W) W (.slice (some ⟨w10.heap.size, 0, none⟩) 3 3) 1 3 ([sunionB, aB, bB].map txt)) => show Calls Tryz.prog 12 #[.pointer (some ⟨p, 0, none⟩), .slice (some ⟨w10.heap.size, 0, none⟩) 3 3] W (BksF ro w0 W p 6 U (fun S' => S' = S6)) from runF_join2 (k := aB) (j := bB) (d := dB) (nm := sunionB) (low := sunionB) (way := 1) (H10.out.below hW) HB6.out (.inr (.inl ⟨rfl, rfl⟩)) (by decide) hV (by decide) (by decide) HFL.out HJ.out)
    go_region_held (fun W => W.cell? ⟨w6.heap.size, 1, none⟩ = some (.string ⟨#[115, 117, 110, 105, 111, 110]⟩) ∧ W.cell? ⟨w9.heap.size, 1, none⟩ = some (.slice a8 U.length c8))
      (first | (refine ⟨(HK10.out.1.below ?_).cell, (HK10.out.2.below ?_).cell⟩ <;> (repeat (first | exact Below.refl _ _ | refine Below.drew ?_ | refine below_drewN ?_ _ | refine Below.alloc ?_ (by simp) _)) <;> done) | (refine ⟨(HK11.out.1.below ?_).cell, (HK11.out.2.below ?_).cell⟩ <;> (repeat (first | exact Below.refl _ _ | refine Below.drew ?_ | refine below_drewN ?_ _ | refine Below.alloc ?_ (by simp) _)) <;> done) | (refine ⟨(HK12.out.1.below ?_).cell, (HK12.out.2.below ?_).cell⟩ <;> (repeat (first | exact Below.refl _ _ | refine Below.drew ?_ | refine below_drewN ?_ _ | refine Below.alloc ?_ (by simp) _)) <;> done) | (refine ⟨(HK13.out.1.below ?_).cell, (HK13.out.2.below ?_).cell⟩ <;> (repeat (first | exact Below.refl _ _ | refine Below.drew ?_ | refine below_drewN ?_ _ | refine Below.alloc ?_ (by simp) _)) <;> done) | (refine ⟨(HK14.out.1.below ?_).cell, (HK14.out.2.below ?_).cell⟩ <;> (repeat (first | exact Below.refl _ _ | refine Below.drew ?_ | refine below_drewN ?_ _ | refine Below.alloc ?_ (by simp) _)) <;> done) | (refine ⟨(HK15.out.1.below ?_).cell, (HK15.out.2.below ?_).cell⟩ <;> (repeat (first | exact Below.refl _ _ | refine Below.drew ?_ | refine below_drewN ?_ _ | refine Below.alloc ?_ (by simp) _)) <;> done) | (refine ⟨(HK16.out.1.below ?_).cell, (HK16.out.2.below ?_).cell⟩ <;> (repeat (first | exact Below.refl _ _ | refine Below.drew ?_ | refine below_drewN ?_ _ | refine Below.alloc ?_ (by simp) _)) <;> done)) (first
      | (go_at_call 12
         have hmine := HR1
         clear hmine
         refine (HR1.out _ ?_ ?_).mono ?_
         · exact (by (repeat (first | exact Below.refl _ _ | refine Below.drew ?_ | refine below_drewN ?_ _ | refine Below.alloc ?_ (by simp) _)); done)
         · first | (refine (lit_vw w10 [sunionB, aB, bB] (by decide)).below ?_ <;> (repeat (first | exact Below.refl _ _ | refine Below.drew ?_ | refine below_drewN ?_ _ | refine Below.alloc ?_ (by simp) _)) <;> done) | (refine (lit_vw w10.drew [sunionB, aB, bB] (by decide)).below ?_ <;> (repeat (first | exact Below.refl _ _ | refine Below.drew ?_ | refine below_drewN ?_ _ | refine Below.alloc ?_ (by simp) _)) <;> done) | (refine (lit_vw w10.drew.drew [sunionB, aB, bB] (by decide)).below ?_ <;> (repeat (first | exact Below.refl _ _ | refine Below.drew ?_ | refine below_drewN ?_ _ | refine Below.alloc ?_ (by simp) _)) <;> done)
         rintro e w11 ⟨a11, l11, rfl, hv11, o11, S11, c11, h11, rfl, hs11⟩
         have HK11 := Lib.hid (And.intro ((HK10.out.1.below (by (repeat (first | exact Below.refl _ _ | refine Below.drew ?_ | refine below_drewN ?_ _ | refine Below.alloc ?_ (by simp) _)); done)).keep hs11) ((HK10.out.2.below (by (repeat (first | exact Below.refl _ _ | refine Below.drew ?_ | refine below_drewN ?_ _ | refine Below.alloc ?_ (by simp) _)); done)).keep hs11))
         have HJ11 := Lib.hid ((HV10.out.below (by (repeat (first | exact Below.refl _ _ | refine Below.drew ?_ | refine below_drewN ?_ _ | refine Below.alloc ?_ (by simp) _)); done)).keep hs11 (by decide))
         have H11 := Lib.hid h11
         have HBK := Lib.hid (fun (W : World) (hW : Below w11.heap.size w11 W) => lawbulks_ok (l := U) (hv11.below hW) (HJ11.out.below hW) (by omega))
         clear hv11 h11 hs11 HR1 H10 HV10)
      | (go_at_call 17
         refine (HBK.out _ ?_).mono ?_
         · exact (by (repeat (first | exact Below.refl _ _ | refine Below.drew ?_ | refine below_drewN ?_ _ | refine Below.alloc ?_ (by simp) _)); done)
         rintro e w12 ⟨rfl, hB12⟩
         have hB : Below w11.heap.size w11 w12 := Below.trans (by (repeat (first | exact Below.refl _ _ | refine Below.drew ?_ | refine below_drewN ?_ _ | refine Below.alloc ?_ (by simp) _)); done) hB12
         have HK12 := Lib.hid (And.intro (HK11.out.1.below hB) (HK11.out.2.below hB))
         have HJ12 := Lib.hid (HJ11.out.below hB)
         have H12 := Lib.hid (H11.out.below hB)
         have HR2 := Lib.hid (fun (W : World) (hW : Below w12.heap.size w12 W) (hV : Vw (Old W) W (.slice (some ⟨w12.heap.size, 0, none⟩) 4 4) 1 4 ([sunionstoreB, dB, aB, bB].map txt)) => show Calls Tryz.prog 12 #[.pointer (some ⟨p, 0, none⟩), .slice (some ⟨w12.heap.size, 0, none⟩) 4 4] W (NumF o11 w0 W p 8 U.length (Sets (upd (upd (upd (fun _ => []) aB (ofL a)) bB (ofL b)) dB U))) from runF_store2 (k := aB) (j := bB) (d := dB) (nm := sunionstoreB) (low := sunionstoreB) (way := 1) (H12.out.below hW) HB6.out HD6.out (.inr (.inl ⟨rfl, rfl⟩)) (by decide) hV (by decide) (by decide) HFL.out HJ.out HSM.out (by decide))
         clear hB12 hB HBK H11 HJ11)
      | (go_at_call 12
         have hmine := HR2
         clear hmine
         refine (HR2.out _ ?_ ?_).mono ?_
         · exact (by (repeat (first | exact Below.refl _ _ | refine Below.drew ?_ | refine below_drewN ?_ _ | refine Below.alloc ?_ (by simp) _)); done)
         · first | (refine (lit_vw w12 [sunionstoreB, dB, aB, bB] (by decide)).below ?_ <;> (repeat (first | exact Below.refl _ _ | refine Below.drew ?_ | refine below_drewN ?_ _ | refine Below.alloc ?_ (by simp) _)) <;> done) | (refine (lit_vw w12.drew [sunionstoreB, dB, aB, bB] (by decide)).below ?_ <;> (repeat (first | exact Below.refl _ _ | refine Below.drew ?_ | refine below_drewN ?_ _ | refine Below.alloc ?_ (by simp) _)) <;> done) | (refine (lit_vw w12.drew.drew [sunionstoreB, dB, aB, bB] (by decide)).below ?_ <;> (repeat (first | exact Below.refl _ _ | refine Below.drew ?_ | refine below_drewN ?_ _ | refine Below.alloc ?_ (by simp) _)) <;> done)
         rintro e w13 ⟨a13, n13, l13, rfl, o13, S13, c13, h13, hk13, hs13⟩
         have HK13 := Lib.hid (And.intro ((HK12.out.1.below (by (repeat (first | exact Below.refl _ _ | refine Below.drew ?_ | refine below_drewN ?_ _ | refine Below.alloc ?_ (by simp) _)); done)).keep hs13) ((HK12.out.2.below (by (repeat (first | exact Below.refl _ _ | refine Below.drew ?_ | refine below_drewN ?_ _ | refine Below.alloc ?_ (by simp) _)); done)).keep hs13))
         have HJ13 := Lib.hid ((HJ12.out.below (by (repeat (first | exact Below.refl _ _ | refine Below.drew ?_ | refine below_drewN ?_ _ | refine Below.alloc ?_ (by simp) _)); done)).keep hs13 (by decide))
         have H13 := Lib.hid h13
         have HST13 := Lib.hid hk13
         have HN1 := Lib.hid (fun (W : World) => lawnumber_ok W [] U.length a13 n13 l13)
         clear hk13 h13 hs13 HR2 H12 HJ12)
      | (go_at_call 18
         have hmine := HN1
         clear hmine
         refine (HN1.out _).mono ?_
         rintro e w14 ⟨rfl, hB14⟩
         have hB : Below w13.heap.size w13 w14 := Below.trans (by (repeat (first | exact Below.refl _ _ | refine Below.drew ?_ | refine below_drewN ?_ _ | refine Below.alloc ?_ (by simp) _)); done) hB14
         have HK14 := Lib.hid (And.intro (HK13.out.1.below hB) (HK13.out.2.below hB))
         have HJ14 := Lib.hid (HJ13.out.below hB)
         have H14 := Lib.hid (H13.out.below hB)
         have HR3 := Lib.hid (fun (W : World) (hW : Below w14.heap.size w14 W) (hV : Vw (Old W) W (.slice (some ⟨w14.heap.size, 0, none⟩) 2 2) 1 2 ([scardB, dB].map txt)) => show Calls Tryz.prog 12 #[.pointer (some ⟨p, 0, none⟩), .slice (some ⟨w14.heap.size, 0, none⟩) 2 2] W (NumF o13 w0 W p 10 U.length (Sets (upd (upd (upd (fun _ => []) aB (ofL a)) bB (ofL b)) dB U))) from (by have := runF_card (k := dB) (nm := scardB) (H14.out.below hW) HST13.out hV (by decide) (by decide); rw [upd_same] at this; exact this))
         clear hB14 hB HN1 H13 HJ13)
      | (go_at_call 12
         have hmine := HR3
         clear hmine
         refine (HR3.out _ ?_ ?_).mono ?_
         · exact (by (repeat (first | exact Below.refl _ _ | refine Below.drew ?_ | refine below_drewN ?_ _ | refine Below.alloc ?_ (by simp) _)); done)
         · first | (refine (lit_vw w14 [scardB, dB] (by decide)).below ?_ <;> (repeat (first | exact Below.refl _ _ | refine Below.drew ?_ | refine below_drewN ?_ _ | refine Below.alloc ?_ (by simp) _)) <;> done) | (refine (lit_vw w14.drew [scardB, dB] (by decide)).below ?_ <;> (repeat (first | exact Below.refl _ _ | refine Below.drew ?_ | refine below_drewN ?_ _ | refine Below.alloc ?_ (by simp) _)) <;> done) | (refine (lit_vw w14.drew.drew [scardB, dB] (by decide)).below ?_ <;> (repeat (first | exact Below.refl _ _ | refine Below.drew ?_ | refine below_drewN ?_ _ | refine Below.alloc ?_ (by simp) _)) <;> done)
         rintro e w15 ⟨a15, n15, l15, rfl, o15, S15, c15, h15, hk15, hs15⟩
         have HK15 := Lib.hid (And.intro ((HK14.out.1.below (by (repeat (first | exact Below.refl _ _ | refine Below.drew ?_ | refine below_drewN ?_ _ | refine Below.alloc ?_ (by simp) _)); done)).keep hs15) ((HK14.out.2.below (by (repeat (first | exact Below.refl _ _ | refine Below.drew ?_ | refine below_drewN ?_ _ | refine Below.alloc ?_ (by simp) _)); done)).keep hs15))
         have HJ15 := Lib.hid ((HJ14.out.below (by (repeat (first | exact Below.refl _ _ | refine Below.drew ?_ | refine below_drewN ?_ _ | refine Below.alloc ?_ (by simp) _)); done)).keep hs15 (by decide))
         have H15 := Lib.hid h15
         have HST15 := Lib.hid hk15
         have HN2 := Lib.hid (fun (W : World) => lawnumber_ok W [] U.length a15 n15 l15)
         clear hk15 h15 hs15 HR3 H14 HJ14)
      | (go_at_call 18
         refine (HN2.out _).mono ?_
         rintro e w16 ⟨rfl, hB16⟩
         have hB : Below w15.heap.size w15 w16 := Below.trans (by (repeat (first | exact Below.refl _ _ | refine Below.drew ?_ | refine below_drewN ?_ _ | refine Below.alloc ?_ (by simp) _)); done) hB16
         have HK16 := Lib.hid (And.intro (HK15.out.1.below hB) (HK15.out.2.below hB))
         have HJ16 := Lib.hid (HJ15.out.below hB)
         have H16 := Lib.hid (H15.out.below hB)
         clear hB16 hB HN2 H15 HJ15))
    all_goals (
      have D := Lib.hid (show StR w0 p a b U w9.heap.size 1 (.slice a8 U.length c8) w16 from ⟨_, _, _, H16.out, HST15.out, HK16.out.2, HJ16.out⟩)
      clear HK10 HK11 HK12 HK13 HK14 HK15 HK16 H16 HJ16 HST13 HST15
      go_wp2_with fail
      go_meet
      exact ⟨rfl, D.out⟩)
  case rest =>
    obtain ⟨rfl, o15, S15, c15, h16, hst15, hk16, hj16⟩ := hcut
    have H16 := Lib.hid h16
    have HST15 := Lib.hid hst15
    have HK16 := Lib.hid hk16
    have HJ16 := Lib.hid hj16
    clear h16 hst15 hk16 hj16 HK10 H10 HV10
    obtain ⟨_, _, hd3, hd4⟩ := (HST15.out dB).1.at 0
    rw [upd_same] at hd4
    have hdu := jdue_ok H16.out.sp dB 0
    unfold DueDid at hdu
    rw [hd3, hd4] at hdu
    obtain ⟨bj, hbj⟩ : ∃ bj, bj = !U.isEmpty := ⟨_, rfl⟩
    rw [← hbj] at hdu
    have HDU := Lib.hid hdu
    have hg1 : decide (U = []) = !bj := by rw [hbj]; cases U <;> simp
    have hg2 : (0 < U.length) = (bj = true) := by rw [hbj]; cases U <;> simp
    have hg3 : decide (0 < (U.length : Int)) = bj := by rw [hbj]; cases U <;> simp <;> omega
    clear hd3 hd4 hdu hbj
    unfold txt at HDU
    go_wp2_with fail
    refine HDU.out.mono ?_; rintro e w17 ⟨rfl, hB17⟩
    have HK17 := Lib.hid (HK16.out.below hB17)
    have HJ17 := Lib.hid (HJ16.out.below hB17)
    have H17 := Lib.hid (H16.out.below hB17)
    clear hB17 HDU H16 HJ16 HK16
    have HR4 := Lib.hid (fun (W : World) (hW : Below w17.heap.size w17 W) (hV : Vw (Old W) W (.slice (some ⟨w17.heap.size, 0, none⟩) 2 2) 1 2 ([smembersB, dB].map txt)) => show Calls Tryz.prog 12 #[.pointer (some ⟨p, 0, none⟩), .slice (some ⟨w17.heap.size, 0, none⟩) 2 2] W (BksF o15 w0 W p 12 U (Sets (upd (upd (upd (fun _ => []) aB (ofL a)) bB (ofL b)) dB U))) from (by have := runF_members (k := dB) (nm := smembersB) (H17.out.below hW) HST15.out hV (by decide) (by decide) (by rw [upd_same]; omega); rw [upd_same] at this; exact this))
    go_wp2_with fail
    go_region_held (fun W => W.cell? ⟨w9.heap.size, 1, none⟩ = some (.slice a8 U.length c8))
      (first | (refine (HK17.out.below ?_).cell <;> (repeat (first | exact Below.refl _ _ | refine Below.drew ?_ | refine below_drewN ?_ _ | refine Below.alloc ?_ (by simp) _)) <;> done) | (refine (HK18.out.below ?_).cell <;> (repeat (first | exact Below.refl _ _ | refine Below.drew ?_ | refine below_drewN ?_ _ | refine Below.alloc ?_ (by simp) _)) <;> done) | (refine (HK19.out.below ?_).cell <;> (repeat (first | exact Below.refl _ _ | refine Below.drew ?_ | refine below_drewN ?_ _ | refine Below.alloc ?_ (by simp) _)) <;> done) | (refine (HK20.out.below ?_).cell <;> (repeat (first | exact Below.refl _ _ | refine Below.drew ?_ | refine below_drewN ?_ _ | refine Below.alloc ?_ (by simp) _)) <;> done) | (refine (HK21.out.below ?_).cell <;> (repeat (first | exact Below.refl _ _ | refine Below.drew ?_ | refine below_drewN ?_ _ | refine Below.alloc ?_ (by simp) _)) <;> done) | (refine (HK22.out.below ?_).cell <;> (repeat (first | exact Below.refl _ _ | refine Below.drew ?_ | refine below_drewN ?_ _ | refine Below.alloc ?_ (by simp) _)) <;> done)) (first
      | (go_at_call 12
         have hmine := HR4
         clear hmine
         refine (HR4.out _ ?_ ?_).mono ?_
         · exact (by (repeat (first | exact Below.refl _ _ | refine Below.drew ?_ | refine below_drewN ?_ _ | refine Below.alloc ?_ (by simp) _)); done)
         · first | (refine (lit_vw w17 [smembersB, dB] (by decide)).below ?_ <;> (repeat (first | exact Below.refl _ _ | refine Below.drew ?_ | refine below_drewN ?_ _ | refine Below.alloc ?_ (by simp) _)) <;> done) | (refine (lit_vw w17.drew [smembersB, dB] (by decide)).below ?_ <;> (repeat (first | exact Below.refl _ _ | refine Below.drew ?_ | refine below_drewN ?_ _ | refine Below.alloc ?_ (by simp) _)) <;> done) | (refine (lit_vw w17.drew.drew [smembersB, dB] (by decide)).below ?_ <;> (repeat (first | exact Below.refl _ _ | refine Below.drew ?_ | refine below_drewN ?_ _ | refine Below.alloc ?_ (by simp) _)) <;> done)
         rintro e w18 ⟨a18, l18, rfl, hv18, o18, S18, c18, h18, hk18, hs18⟩
         have HK18 := Lib.hid ((HK17.out.below (by (repeat (first | exact Below.refl _ _ | refine Below.drew ?_ | refine below_drewN ?_ _ | refine Below.alloc ?_ (by simp) _)); done)).keep hs18)
         have HJ18 := Lib.hid ((HJ17.out.below (by (repeat (first | exact Below.refl _ _ | refine Below.drew ?_ | refine below_drewN ?_ _ | refine Below.alloc ?_ (by simp) _)); done)).keep hs18 (by decide))
         have H18 := Lib.hid h18
         have HST18 := Lib.hid hk18
         have HBK4 := Lib.hid (fun (W : World) (hW : Below w18.heap.size w18 W) => lawbulks_ok (l := U) (hv18.below hW) (HJ18.out.below hW) (by omega))
         clear hv18 h18 hs18 hk18 HR4 H17 HJ17)
      | (go_at_call 17
         have hmine := HBK4
         clear hmine
         refine (HBK4.out _ ?_).mono ?_
         · exact (by (repeat (first | exact Below.refl _ _ | refine Below.drew ?_ | refine below_drewN ?_ _ | refine Below.alloc ?_ (by simp) _)); done)
         rintro e w19 ⟨rfl, hB19⟩
         have hB : Below w18.heap.size w18 w19 := Below.trans (by (repeat (first | exact Below.refl _ _ | refine Below.drew ?_ | refine below_drewN ?_ _ | refine Below.alloc ?_ (by simp) _)); done) hB19
         have HK19 := Lib.hid (HK18.out.below hB)
         have H19 := Lib.hid (H18.out.below hB)
         have HR5 := Lib.hid (fun (W : World) (hW : Below w19.heap.size w19 W) (hV : Vw (Old W) W (.slice (some ⟨w19.heap.size, 0, none⟩) 2 2) 1 2 ([smembersB, aB].map txt)) => show Calls Tryz.prog 12 #[.pointer (some ⟨p, 0, none⟩), .slice (some ⟨w19.heap.size, 0, none⟩) 2 2] W (BksF o18 w0 W p 14 (ofL a) (Sets (upd (upd (upd (fun _ => []) aB (ofL a)) bB (ofL b)) dB U))) from (by have := runF_members (k := aB) (nm := smembersB) (H19.out.below hW) HST18.out hV (by decide) (by decide) (by rw [upd_far (show aB ≠ dB by decide), upd_far (show aB ≠ bB by decide), upd_same]; omega); rw [upd_far (show aB ≠ dB by decide), upd_far (show aB ≠ bB by decide), upd_same] at this; exact this))
         clear hB19 hB HBK4 H18)
      | (go_at_call 12
         have hmine := HR5
         clear hmine
         refine (HR5.out _ ?_ ?_).mono ?_
         · exact (by (repeat (first | exact Below.refl _ _ | refine Below.drew ?_ | refine below_drewN ?_ _ | refine Below.alloc ?_ (by simp) _)); done)
         · first | (refine (lit_vw w19 [smembersB, aB] (by decide)).below ?_ <;> (repeat (first | exact Below.refl _ _ | refine Below.drew ?_ | refine below_drewN ?_ _ | refine Below.alloc ?_ (by simp) _)) <;> done) | (refine (lit_vw w19.drew [smembersB, aB] (by decide)).below ?_ <;> (repeat (first | exact Below.refl _ _ | refine Below.drew ?_ | refine below_drewN ?_ _ | refine Below.alloc ?_ (by simp) _)) <;> done) | (refine (lit_vw w19.drew.drew [smembersB, aB] (by decide)).below ?_ <;> (repeat (first | exact Below.refl _ _ | refine Below.drew ?_ | refine below_drewN ?_ _ | refine Below.alloc ?_ (by simp) _)) <;> done)
         rintro e w20 ⟨a20, l20, rfl, hv20, o20, S20, c20, h20, hk20, hs20⟩
         have HK20 := Lib.hid ((HK19.out.below (by (repeat (first | exact Below.refl _ _ | refine Below.drew ?_ | refine below_drewN ?_ _ | refine Below.alloc ?_ (by simp) _)); done)).keep hs20)
         have H20 := Lib.hid h20
         have HV20 := Lib.hid hv20
         have HO5 := Lib.hid (fun (W : World) (hW : Below w20.heap.size w20 W) => rof_ok ((h20.below hW).vw HVa.out) (by omega))
         clear hv20 h20 hs20 hk20 HR5 H19)
      | (go_at_call 20
         refine (HO5.out _ ?_).mono ?_
         · exact (by (repeat (first | exact Below.refl _ _ | refine Below.drew ?_ | refine below_drewN ?_ _ | refine Below.alloc ?_ (by simp) _)); done)
         rintro e w21 ⟨a21, c21, rfl, hv21, hB21⟩
         have hB : Below w20.heap.size w20 w21 := Below.trans (by (repeat (first | exact Below.refl _ _ | refine Below.drew ?_ | refine below_drewN ?_ _ | refine Below.alloc ?_ (by simp) _)); done) hB21
         have HK21 := Lib.hid (HK20.out.below hB)
         have H21 := Lib.hid (H20.out.below hB)
         have HBK5 := Lib.hid (fun (W : World) (hW : Below w21.heap.size w21 W) => lawbulks_ok (l := ofL a) ((HV20.out.below hB).below hW) (hv21.below hW) (by omega))
         clear hB21 hB hv21 HO5 H20 HV20)
      | (go_at_call 17
         refine (HBK5.out _ ?_).mono ?_
         · exact (by (repeat (first | exact Below.refl _ _ | refine Below.drew ?_ | refine below_drewN ?_ _ | refine Below.alloc ?_ (by simp) _)); done)
         rintro e w22 ⟨rfl, hB22⟩
         have hB : Below w21.heap.size w21 w22 := Below.trans (by (repeat (first | exact Below.refl _ _ | refine Below.drew ?_ | refine below_drewN ?_ _ | refine Below.alloc ?_ (by simp) _)); done) hB22
         have HK22 := Lib.hid (HK21.out.below hB)
         have H22 := Lib.hid (H21.out.below hB)
         clear hB22 hB HBK5 H21))
    all_goals (
      go_wp2_with fail
      go_ret
      exact ⟨rfl, H22.out.since⟩)

end Go.Proofs.YtoganolkgmilaaaGreatDoor
