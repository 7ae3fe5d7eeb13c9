import Derived.Test.YtoganolkgmilaaaGreatDoorXS
import Derived.Test.YtoganolkgmilaaaGreatDoorXT
import Derived.Test.YtoganolkgmilaaaGreatDoorKf
import Derived.Test.YtoganolkgmilaaaGreatDoorKs
import Derived.Deep.RegionHeld
import Derived.Deep.DeepCutAuto
namespace Go.Proofs.YtoganolkgmilaaaGreatDoor
open Go Go.RowKit
/-! SetcmdKeeps. -/
set_option maxRecDepth 10000 in
set_option maxHeartbeats 20000000 in
theorem setLawKeeps_few {w0 : World} {va : Value} {a : List Tx} (ha : Vw (Old w0) w0 va 1 a.length (a.map txt)) {vb : Value} {b : List Tx} (hb : Vw (Old w0) w0 vb 1 b.length (b.map txt))  (hab : a = [] ∨ b = []) :
    Calls Tryz.prog 7 #[va, vb] w0 fun e w' => e = .returned (.bool true) ∧ Below w0.heap.size w0 w' := by
  obtain ⟨aa, ca, rfl, _⟩ := id ha.slice
  obtain ⟨ab, cb, rfl, _⟩ := id hb.slice
  have HN := Lib.hid (jnew_ok none0 w0 [1])
  have hab' : ((a.length : Int) == 0) = true ∨ ((a.length : Int) == 0) = false ∧ ((b.length : Int) == 0) = true := by
    rcases hab with rfl | rfl
    · exact .inl rfl
    · cases a with
      | nil => exact .inl rfl
      | cons x t => exact .inr ⟨beq_eq_false_iff_ne.2 (by simp; omega), rfl⟩
  clear ha hb hab
  generalize a.length = na at *
  generalize b.length = nb at *
  go_enter Tryz.func7, Tryz.ntmps7
  go_wp2_with fail
  refine HN.out.mono ?_; rintro e w1 ⟨p, o1, rfl, hj, hs⟩
  have HB1 := Lib.hid hs.below0
  clear hj hs HN
  go_wp2_with fail
  refine awake_ok.mono ?_; rintro e w2 ⟨rfl, hB2⟩
  have HB2 := Lib.hid (HB1.out.trans (hB2.mono HB1.out.size))
  clear hB2
  rcases hab' with h0 | h0
  · go_wp2_with fail
    refine awake_ok.mono ?_; rintro e w3 ⟨rfl, hB3⟩
    have HB3 := Lib.hid (HB2.out.trans (hB3.mono HB2.out.size))
    clear hB3
    go_wp2_with fail
    go_ret
    exact ⟨rfl, HB3.out⟩
  · obtain ⟨h0, h1⟩ := h0
    go_wp2_with fail
    refine awake_ok.mono ?_; rintro e w3 ⟨rfl, hB3⟩
    have HB3 := Lib.hid (HB2.out.trans (hB3.mono HB2.out.size))
    clear hB3
    go_wp2_with fail
    go_ret
    exact ⟨rfl, HB3.out⟩

def Kd1 (w0 : World) (p : Nat) (L : List Tx) (vL : Value) (nb : Nat) (i : Value) (wr : World) : Prop :=
  ∃ (k : Nat) (o : Roles) (S : SP) (c : Cnt), k ≤ nb ∧ i = .int .i64 (k : Int) ∧ At w0 o wr p S c (10 + 2 * k) ∧ Sets (upd (fun _ => []) kB L) S ∧ Vw (fun b => o b = [9]) wr vL 1 L.length (L.map txt)
def Kd2 (wS : World) (na : Nat) (i : Value) (wr : World) : Prop := ∃ k : Nat, k ≤ na ∧ i = .int .i64 (k : Int) ∧ Below wS.heap.size wS wr
theorem upd_upd (f : Tx → List Tx) (k : Tx) (a b : List Tx) : upd (upd f k a) k b = upd f k b := by
  funext j
  by_cases h : j = k
  · subst h; rw [upd_same, upd_same]
  · rw [upd_far h, upd_far h, upd_far h]
set_option maxRecDepth 10000 in
set_option maxHeartbeats 20000000 in
theorem keeps_law {w0 : World} {va vb : Value} {a b : List Tx} (ha : Vw (Old w0) w0 va 1 a.length (a.map txt)) (hb : Vw (Old w0) w0 vb 1 b.length (b.map txt))
    (hsa : ∀ x ∈ a, x.length ≤ 1048576) (hsb : ∀ x ∈ b, x.length ≤ 1048576) (hla : a.length ≤ 1048576) (hlb : b.length ≤ 1048576) :
    Calls Tryz.prog 7 #[va, vb] w0 fun e w' => e = .returned (.bool true) ∧ Below w0.heap.size w0 w' := by
  by_cases h0a : a = []
  · exact setLawKeeps_few ha hb (.inl h0a)
  by_cases h0b : b = []
  · exact setLawKeeps_few ha hb (.inr h0b)
  obtain ⟨aa, ca, rfl, _⟩ := id ha.slice
  obtain ⟨ab, cb, rfl, _⟩ := id hb.slice
  have hl1a : 0 < a.length := List.length_pos_iff.2 h0a
  have e0a : ((a.length : Int) == 0) = false := beq_eq_false_iff_ne.2 (by omega)
  have hl1b : 0 < b.length := List.length_pos_iff.2 h0b
  have e0b : ((b.length : Int) == 0) = false := beq_eq_false_iff_ne.2 (by omega)
  have HN := Lib.hid (jnew_ok none0 w0 [1])
  have HVa := Lib.hid ha
  have HSa := Lib.hid hsa
  have H0a := Lib.hid h0a
  have HVb := Lib.hid hb
  have HSb := Lib.hid hsb
  have H0b := Lib.hid h0b
  obtain ⟨i0, hi0, hz0, hz1, hz2⟩ := info_parts infoS
  have HSOA := Lib.hid (show ∀ x ∈ nextL true ((fun _ => []) kB) a, x.length ≤ 1048576 from fun x hx => hsa x ((ofL_mem x a).1 hx))
  obtain ⟨L, hL⟩ : ∃ L, L = ofL a := ⟨_, rfl⟩
  obtain ⟨R, hR⟩ : ∃ R, R = L.filter fun x => !decide (x ∈ b) := ⟨_, rfl⟩
  have HLA := Lib.hid (show Asc L from by rw [hL]; exact ofL_asc a)
  have hLl : L.length ≤ a.length := by rw [hL]; exact ofL_len a
  have hRl : R.length ≤ L.length := by rw [hR]; exact List.length_filter_le _ _
  have HRA := Lib.hid (show Asc R from by rw [hR]; exact HLA.out.sub List.filter_sublist)
  have HRM := Lib.hid (show ∀ x ∈ R, x.length ≤ 1048576 from fun x hx => by rw [hR, List.mem_filter, hL, ofL_mem] at hx; exact hsa x hx.1)
  have HN1 := Lib.hid (show nextN true ((fun _ => []) kB) a = (L.length : Int) from by rw [hL]; exact nextN_first a)
  have HX1 := Lib.hid (show nextL true ((fun _ => []) kB) a = L from hL.symm)
  have HN2 := Lib.hid (show nextN false L b = (L.length : Int) - (R.length : Int) from by rw [hR]; exact nextN_less HLA.out b)
  have HX2 := Lib.hid (show nextL false L b = R from by rw [hR]; exact less_filter HLA.out b)
  have HRN := Lib.hid (show ∀ x ∈ b, x ∉ R from fun x hx h => by rw [hR, List.mem_filter] at h; simp [hx] at h)
  have HOF := Lib.hid (show ∀ (W : World), Vw (Old W) W (.slice aa a.length ca) 1 a.length (a.map txt) → Calls Tryz.prog 20 #[.slice aa a.length ca] W (MDid W L) from fun W h => by rw [hL]; exact rof_ok h (by omega))
  have HRE := Lib.hid (show ∀ (W : World), Vw (Old W) W (.slice aa a.length ca) 1 a.length (a.map txt) → Vw (Old W) W (.slice ab b.length cb) 1 b.length (b.map txt) → Calls Tryz.prog 30 #[.slice aa a.length ca, .slice ab b.length cb] W (RemDid W R ((L.length : Int) - (R.length : Int))) from fun W h1 h2 => by
    have := rremove_ok h1 h2 (by omega) (by omega) (R := R) (by rw [hR, hL])
    rw [← hL] at this
    exact this)
  unfold RemDid at HRE
  clear hL hR
  clear ha hsa h0a hb hsb h0b
  try unfold txt
  go_enter Tryz.func7, Tryz.ntmps7
  go_wp2_with fail
  refine HN.out.mono ?_; rintro e w1 ⟨p, o1, rfl, hj, hs⟩
  have h1 : At w0 o1 w1 p (fun _ => none) ⟨0, 0⟩ 0 := ⟨hj, hs, Nat.le_refl _, Nat.le_refl _⟩
  have H1 := Lib.hid h1
  clear hj hs h1 HN
  go_wp2_with fail
  refine awake_ok.mono ?_; rintro e w2 ⟨rfl, hB2⟩
  have H2 := Lib.hid (H1.out.below hB2)
  clear hB2 H1
  go_wp2_with fail
  refine (lawshort_ok (H2.out.vw HVa.out) HSa.out (by omega)).mono ?_
  rintro e w3 ⟨rfl, rfl⟩
  go_wp2_with fail
  refine (HOF.out _ (H2.out.vw HVa.out)).mono ?_; rintro e w4 ⟨a4, c4, rfl, hv4, hB4⟩
  obtain ⟨o4, h4, hr4⟩ : ∃ ro : Roles, At w0 ro w3 p (fun _ => none) ⟨0, 0⟩ 0 ∧ ∀ b, w3.heap.size ≤ b → ro b = [9] := ⟨_, H2.out.later, fun b hb => later_new hb⟩
  have H4 := Lib.hid (h4.below hB4)
  have HA4 := Lib.hid (hv4.imp (B := fun b => o4 b = [9]) fun b hb => hr4 b hb)
  clear h4 hr4 hv4 hB4 HOF H2
  have HROW := Lib.hid (Row.lit o4 w4 [7] 9 [txt saddB, txt kB] (by decide))
  have HSRC := Lib.hid (((H4.out.vw HVa.out).below (lit_below w4 (.cells [txt saddB, txt kB].toArray 9))).src (P := Tryz.prog) Tryz.underlying22 (one_list a))
  go_wp2_with (
    at_builtin
    refine wpList_app _ rfl _ _ 22 22 rfl 9 i0 _ 1 16 Tryz.underlying22 hi0 hz0 hz1 hz2 rfl rfl HROW.out rfl HSRC.out (by unfold maxLen; simp; omega) (by simp; omega) ?_
    intro v' w5 o5 hrow hst
    obtain ⟨a5, c5, rfl, _⟩ := id hrow.slice
    obtain ⟨h5, hs5⟩ := H4.out.app7 _ hst
    have H5 := Lib.hid h5
    have HA5 := Lib.hid (HA4.out.keep hs5 (by decide))
    have HAP := Lib.hid hrow.vw.old
    clear hrow hst h5 hs5 HROW HSRC H4 HA4)
  have hap := HAP.out
  have hlen : [txt saddB, txt kB].length + a.length = (kB :: a).length + 1 := by simp; omega
  rw [hlen] at hap
  rw [show 2 + a.length = (kB :: a).length + 1 from by simp; omega]

  refine (runF_change H5.out (by decide) Sets.empty true (k := kB) (more := a) (nm := saddB) H0a.out hap (by decide) (by decide) HSOA.out (by simp) (by omega)).mono ?_
  rw [HN1.out, HX1.out]
  rintro e w6 ⟨a6, k6, l6, rfl, o6, S6, t6, h6, hK6, hs6⟩
  have H6 := Lib.hid h6
  have HK6 := Lib.hid (show Sets (upd (fun _ => []) kB L) S6 from hK6)
  have HA6 := Lib.hid (HA5.out.keep hs6 (by decide))
  clear h6 hK6 hs6 H5 HA5 hap HAP hlen
  go_wp2_with fail
  refine (lawnumber_ok _ _ _ _ _ _).mono ?_; rintro e w7 ⟨rfl, hB7⟩
  have H7 := Lib.hid (H6.out.below hB7)
  have HK7 := HK6
  have HA7 := Lib.hid (HA6.out.below hB7)
  clear hB7 H6 HK6 HA6
  go_wp2_with fail

  refine (runF_card (k := kB) (nm := scardB) (H7.out.below (lit_below w7 _)) HK7.out (lit_vw w7 [scardB, kB] (by decide)) (by decide) (by decide)).mono ?_
  rw [upd_same]
  rintro e w8 ⟨a8, k8, l8, rfl, o8, S8, t8, h8, hK8, hs8⟩
  have H8 := Lib.hid h8
  have HK8 := Lib.hid (show Sets (upd (fun _ => []) kB L) S8 from hK8)
  have HA8 := Lib.hid ((HA7.out.below (lit_below w7 (.cells ([scardB, kB].map txt).toArray 9))).keep hs8 (by decide))
  clear h8 hK8 hs8 H7 HA7 
  go_wp2_with fail
  refine (lawnumber_ok _ _ _ _ _ _).mono ?_; rintro e w9 ⟨rfl, hB9⟩
  have H9 := Lib.hid (H8.out.below hB9)
  have HK9 := HK8
  have HA9 := Lib.hid (HA8.out.below hB9)
  clear hB9 H8 HK8 HA8
  go_wp2_with fail

  refine (runF_members (k := kB) (nm := smembersB) (H9.out.below (lit_below w9 _)) HK9.out (lit_vw w9 [smembersB, kB] (by decide)) (by decide) (by decide) (by rw [upd_same]; omega)).mono ?_
  rw [upd_same]
  rintro e w10 ⟨a10, l10, rfl, hv10, o10, S10, t10, h10, hK10, hs10⟩
  have H10 := Lib.hid h10
  have HK10 := Lib.hid (show Sets (upd (fun _ => []) kB L) S10 from hK10)
  have HA10 := Lib.hid ((HA9.out.below (lit_below w9 (.cells ([smembersB, kB].map txt).toArray 9))).keep hs10 (by decide))
  have HBK := Lib.hid (lawbulks_ok (l := L) hv10 HA10.out (by omega))
  clear hv10 h10 hK10 hs10 H9 HA9 
  go_wp2_with fail
  refine HBK.out.mono ?_; rintro e w11 ⟨rfl, hB11⟩
  have H11 := Lib.hid (H10.out.below hB11)
  have HK11 := HK10
  have HA11 := Lib.hid (HA10.out.below hB11)
  clear hB11 H10 HK10 HBK HA10
  go_wp2_with fail

  refine (HRE.out _ (H11.out.vw HVa.out) (H11.out.vw HVb.out)).mono ?_; rintro e w12 ⟨a12, c12, rfl, hv12, hB12⟩
  obtain ⟨o12, h12, hr12⟩ : ∃ ro : Roles, At w0 ro w11 p S10 t10 6 ∧ ∀ b, w11.heap.size ≤ b → ro b = [9] := ⟨_, H11.out.later, fun b hb => later_new hb⟩
  have H12 := Lib.hid (h12.below hB12)
  have HK12 := Lib.hid HK11.out
  have HR12 := Lib.hid (hv12.imp (B := fun b => o12 b = [9]) fun b hb => hr12 b hb)
  clear h12 hr12 hv12 hB12 HRE H11 HK11 HA11
  have HROW := Lib.hid (Row.lit o12 w12 [7] 9 [txt sremB, txt kB] (by decide))
  have HSRC := Lib.hid (((H12.out.vw HVb.out).below (lit_below w12 (.cells [txt sremB, txt kB].toArray 9))).src (P := Tryz.prog) Tryz.underlying22 (one_list b))
  go_wp2_with (
    at_builtin
    refine wpList_app _ rfl _ _ 22 22 rfl 9 i0 _ 1 16 Tryz.underlying22 hi0 hz0 hz1 hz2 rfl rfl HROW.out rfl HSRC.out (by unfold maxLen; simp; omega) (by simp; omega) ?_
    intro v' w13 o13 hrow hst
    obtain ⟨a13, c13, rfl, _⟩ := id hrow.slice
    obtain ⟨h13, hs13⟩ := H12.out.app7 _ hst
    have H13 := Lib.hid h13
    have HR13 := Lib.hid (HR12.out.keep hs13 (by decide))
    have HAP := Lib.hid hrow.vw.old
    clear hrow hst h13 hs13 HROW HSRC H12 HR12)
  have hap := HAP.out
  have hlen : [txt sremB, txt kB].length + b.length = (kB :: b).length + 1 := by simp; omega
  rw [hlen] at hap
  rw [show 2 + b.length = (kB :: b).length + 1 from by simp; omega]

  refine (runF_change H13.out (by decide) HK12.out false (k := kB) (more := b) (nm := sremB) H0b.out hap (by decide) (by decide) (by rw [upd_same, HX2.out]; exact HRM.out) (by rw [upd_same]; omega) (by omega)).mono ?_
  rw [upd_same, HN2.out, HX2.out, upd_upd]
  rintro e w14 ⟨a14, k14, l14, rfl, o14, S14, t14, h14, hK14, hs14⟩
  have H14 := Lib.hid h14
  have HK14 := Lib.hid (show Sets (upd (fun _ => []) kB R) S14 from hK14)
  have HR14 := Lib.hid (HR13.out.keep hs14 (by decide))
  clear h14 hK14 hs14 H13 HR13 hap HAP hlen HK12
  go_wp2_with fail
  refine (lawnumber_ok _ _ _ _ _ _).mono ?_; rintro e w15 ⟨rfl, hB15⟩
  have H15 := Lib.hid (H14.out.below hB15)
  have HK15 := HK14
  have HR15 := Lib.hid (HR14.out.below hB15)
  clear hB15 H14 HK14 HR14
  go_wp2_with fail

  refine (runF_members (k := kB) (nm := smembersB) (H15.out.below (lit_below w15 _)) HK15.out (lit_vw w15 [smembersB, kB] (by decide)) (by decide) (by decide) (by rw [upd_same]; omega)).mono ?_
  rw [upd_same]
  rintro e w16 ⟨a16, l16, rfl, hv16, o16, S16, t16, h16, hK16, hs16⟩
  have H16 := Lib.hid h16
  have HK16 := Lib.hid (show Sets (upd (fun _ => []) kB R) S16 from hK16)
  have HR16 := Lib.hid ((HR15.out.below (lit_below w15 (.cells ([smembersB, kB].map txt).toArray 9))).keep hs16 (by decide))
  have HBK := Lib.hid (lawbulks_ok (l := R) hv16 HR16.out (by omega))
  clear hv16 h16 hK16 hs16 H15 HR15 
  go_wp2_with fail
  refine HBK.out.mono ?_; rintro e w17 ⟨rfl, hB17⟩
  have H17 := Lib.hid (H16.out.below hB17)
  have HK17 := HK16
  have HR17 := Lib.hid (HR16.out.below hB17)
  clear hB17 H16 HK16 HBK HR16
  go_wp2_with fail

  have hat : Kd1 w0 p R (.slice a12 R.length c12) b.length (.int .i64 0) w17 := ⟨0, _, _, _, Nat.zero_le _, rfl, H17.out.mono (by omega), HK17.out, HR17.out⟩
  clear H17 HK17 HR17
  go_loopw [9] (fun i wr => Kd1 w0 p R (.slice a12 R.length c12) b.length i wr) (fun i _ => b.length - (intOf i).toNat)
  case atStart => exact hat
  case round =>
    clear hat
    obtain ⟨k, o18, S18, t18, hk, rfl, h18, hK18, hv18⟩ := hrel
    by_cases hkl : k < b.length
    · obtain ⟨x, hx⟩ : ∃ x, b[k]? = some x := ⟨_, List.getElem?_eq_getElem hkl⟩
      obtain ⟨bb, off, rfl, hbl, hcap, hg⟩ := vw_get HVb.out (by omega)
      have hc := h18.cell (hg k x hx)
      have hkI : (0 : Int) ≤ k ∧ (k : Int) < b.length := by omega
      have HU := Lib.hid (runF_ismember (k := kB) (nm := sismemberB) (x := x) (h18.below (lit_below wr _)) hK18 (lit_vw wr [sismemberB, kB, x] (by simp)) (by decide) (by decide) (by rw [upd_same]; omega))
      have HIN := Lib.hid (show (if decide (x ∈ upd (fun _ => []) kB R kB) = true then (1 : Int) else 0) = 0 from by rw [upd_same, decide_eq_false (HRN.out x (List.mem_of_getElem? hx))]; rfl)
      have HV18 := Lib.hid (hv18.below (lit_below wr (.cells ([sismemberB, kB, x].map txt).toArray 9)))
      clear h18 hK18 hv18 hg hx
      go_wp2_with fail
      refine HU.out.mono ?_
      rw [HIN.out]
      rintro e w19 ⟨a19, k19, l19, rfl, o19, S19, t19, h19, hK19, hs19⟩
      have H19 := Lib.hid h19
      have HK19 := Lib.hid hK19
      have HV19 := Lib.hid (HV18.out.keep hs19 (by decide))
      clear h19 hK19 hs19 HU HIN HV18 hc
      go_wp2_with fail
      refine (lawnumber_ok _ _ _ _ _ _).mono ?_; rintro e w20 ⟨rfl, hB20⟩
      have D := Lib.hid (show Kd1 w0 p R (.slice a12 R.length c12) b.length (.int .i64 ((k + 1 : Nat) : Int)) w20 from ⟨k + 1, o19, S19, t19, hkl, rfl, (H19.out.below hB20).mono (by omega), HK19.out, HV19.out.below hB20⟩)
      clear hB20 H19 HK19 HV19
      go_wp2_with fail
      go_roundw
      case rel => exact D.out
      case measure => simp [intOf]; omega
    · obtain rfl : k = b.length := by omega
      have H18 := Lib.hid h18
      have HK18 := Lib.hid hK18
      have HR18 := Lib.hid hv18
      clear h18 hK18 hv18
      obtain ⟨w18, hw18⟩ : ∃ w18, w18 = wr := ⟨_, rfl⟩
      subst hw18
      have HROW := Lib.hid (Row.lit o18 w18 [7] 9 [txt smismemberB, txt kB] (by decide))
      have HSRC := Lib.hid (((H18.out.vw HVa.out).below (lit_below w18 (.cells [txt smismemberB, txt kB].toArray 9))).src (P := Tryz.prog) Tryz.underlying22 (one_list a))
      go_wp2_with (
        at_builtin
        refine wpList_app _ rfl _ _ 22 22 rfl 9 i0 _ 1 16 Tryz.underlying22 hi0 hz0 hz1 hz2 rfl rfl HROW.out rfl HSRC.out (by unfold maxLen; simp; omega) (by simp; omega) ?_
        intro v' w19 o19 hrow hst
        obtain ⟨a19, c19, rfl, _⟩ := id hrow.slice
        obtain ⟨h19, hs19⟩ := H18.out.app7 _ hst
        have H19 := Lib.hid h19
        have HR19 := Lib.hid (HR18.out.keep hs19 (by decide))
        have HAP := Lib.hid hrow.vw.old
        clear hrow hst h19 hs19 HROW HSRC H18 HR18)
      have hap := HAP.out
      have hlen : [txt smismemberB, txt kB].length + a.length = (kB :: a).length + 1 := by simp; omega
      rw [hlen] at hap
      rw [show 2 + a.length = (kB :: a).length + 1 from by simp; omega]

      refine (runF_mismember H19.out HK18.out (k := kB) (ms := a) (nm := smismemberB) H0a.out hap (by decide) (by decide) (by rw [upd_same]; omega) (by omega)).mono ?_
      rw [upd_same]
      rintro e w20 ⟨a20, l20, rfl, hv20, o20, S20, t20, h20, hK20, hs20⟩
      obtain ⟨wS, hwS⟩ : ∃ wS, wS = w20.alloc (.cells #[.int .i64 6, .string ⟨#[]⟩, .int .i64 0, .slice a20 a.length l20] 29) := ⟨_, rfl⟩
      have hBS : Below w20.heap.size w20 wS := by rw [hwS]; exact lit_below _ _
      have HBLK := Lib.hid (show Blk none0 wS [] w20.heap.size #[.int .i64 6, .string ⟨#[]⟩, .int .i64 0, .slice a20 a.length l20] 29 from ⟨by rw [hwS]; exact heap_alloc_new w20 _, rfl⟩)
      have H20 := Lib.hid (h20.below hBS)
      have HK20 := Lib.hid hK20
      have HR20 := Lib.hid ((HR19.out.keep hs20 (by decide)).below hBS)
      have HV20 := Lib.hid (hv20.below hBS)
      have HSET := Lib.hid hwS
      clear hv20 h20 hK20 hs20 hBS hwS hap HAP hlen H19 HR19 HK18
      go_wp2_with fail
      rw [← HSET.out]
      go_loopw [11] (fun i wr => Kd2 wS a.length i wr) (fun i _ => a.length - (intOf i).toNat)
      case atStart => exact ⟨0, Nat.zero_le _, rfl, Below.refl _ _⟩
      case round =>
        obtain ⟨k, hk, rfl, hB⟩ := hrel
        by_cases hkl : k < a.length
        · obtain ⟨x, hx⟩ : ∃ x, a[k]? = some x := ⟨_, List.getElem?_eq_getElem hkl⟩
          obtain ⟨bb, off, rfl, hbl, hcap, hg⟩ := vw_get HVa.out (by omega)
          have hc := (H20.out.below hB).cell (hg k x hx)
          have hkI : (0 : Int) ≤ k ∧ (k : Int) < a.length := by omega
          have hbc := (HBLK.out.below hB).cell
          have hha := rhas_ok (HR20.out.below hB) (by omega) x
          obtain ⟨b2, off2, rfl, hcap2, hbl2, d0, d1, d2, d3⟩ := vw_rf (HV20.out.below hB) (k := k) (y := memF R x) (by rw [List.getElem?_map, hx]; rfl)
          have HB := Lib.hid hB
          unfold HasDid txt at hha
          clear hg hx hB
          by_cases hin : x ∈ R
          · rw [decide_eq_true hin] at hha
            have e1 : memF R x = numF 1 := by unfold memF; rw [decide_eq_true hin]; rfl
            rw [e1] at d0 d1 d2
            have d0 : _ = some (Value.int .i64 3) := d0
            have d1 : _ = some (Value.string ⟨#[]⟩) := d1
            have d2 : _ = some (Value.int .i64 1) := d2
            have HHA := Lib.hid hha
            clear hin hha e1
            go_wp2_with fail
            refine HHA.out.mono ?_; rintro e w21 ⟨rfl, rfl⟩
            go_wp2_with fail
            refine (lawnumber_ok _ [] 1 none 0 0).mono ?_; rintro e w22 ⟨rfl, hB22⟩
            have D := Lib.hid (show Kd2 wS a.length (.int .i64 ((k + 1 : Nat) : Int)) w22 from ⟨k + 1, hkl, rfl, HB.out.trans (hB22.mono HB.out.size)⟩)
            clear hB22 HHA d0 d1 d2 d3 hbc hc
            go_wp2_with fail
            go_roundw
            case rel => exact D.out
            case measure => simp [intOf]; omega
          · rw [decide_eq_false hin] at hha
            have e1 : memF R x = numF 0 := by unfold memF; rw [decide_eq_false hin]; rfl
            rw [e1] at d0 d1 d2
            have d0 : _ = some (Value.int .i64 3) := d0
            have d1 : _ = some (Value.string ⟨#[]⟩) := d1
            have d2 : _ = some (Value.int .i64 0) := d2
            have HHA := Lib.hid hha
            clear hin hha e1
            go_wp2_with fail
            refine HHA.out.mono ?_; rintro e w21 ⟨rfl, rfl⟩
            go_wp2_with fail
            refine (lawnumber_ok _ [] 0 none 0 0).mono ?_; rintro e w22 ⟨rfl, hB22⟩
            have D := Lib.hid (show Kd2 wS a.length (.int .i64 ((k + 1 : Nat) : Int)) w22 from ⟨k + 1, hkl, rfl, HB.out.trans (hB22.mono HB.out.size)⟩)
            clear hB22 HHA d0 d1 d2 d3 hbc hc
            go_wp2_with fail
            go_roundw
            case rel => exact D.out
            case measure => simp [intOf]; omega
        · obtain rfl : k = a.length := by omega
          obtain ⟨bq, hbq⟩ : ∃ bq, ((R.length : Int) == 0) = bq := ⟨_, rfl⟩
          have hQb : R.isEmpty = bq := by
            rw [← hbq]
            cases R with
            | nil => rfl
            | cons z zs => symm; simp; omega
          obtain ⟨LK, hLKe⟩ : ∃ LK : List Tx, LK = (if bq then [] else [kB]) := ⟨_, rfl⟩
          have hLA : Asc LK := by rw [hLKe]; cases bq <;> simp [Asc]
          have he : (((LK.length : Nat) : Int) == 0) = bq := by rw [hLKe]; cases bq <;> rfl
          have hLM : ∀ z : Tx, z ∈ LK ↔ (S20.at 0 z).isSome = true := fun z => by
            rw [hLKe, ((HK20.out z).1.at 0).2.2.2]
            by_cases hz : z = kB
            · subst hz
              rw [upd_same, hQb]
              cases bq <;> simp
            · rw [upd_far hz]
              cases bq <;> simp [hz]
          have hLK : ∀ z : Tx, S20 z ≠ none → z ∈ [kB] := fun z hz => by
            by_cases hk : z = kB
            · simp [hk]
            · rcases (HK20.out z).1 with ⟨_, h⟩ | ⟨h, _⟩
              · exact absurd h hz
              · rw [upd_far hk] at h; exact absurd rfl h
          have H21 := Lib.hid (H20.out.below hB)
          have HLE := Lib.hid (jlen_is H21.out.sp hLK (by decide) hLA hLM)
          clear hB hLA hLM hLK hLKe hQb H20 HK20 HR20 HV20 HBLK HSET HLA HRA HRM HRN HSOA HN1 HN2 HX1 HX2
          go_wp2_with fail
          refine HLE.out.mono ?_; rintro e w22 ⟨rfl, hB22⟩
          have HB := Lib.hid (H21.out.below hB22).since
          clear hB22 HLE H21
          go_wp2_with fail
          go_ret
          exact ⟨by simp, HB.out⟩
theorem keeps_con (w0 : World) (_ : Tbl w0) (a : List (List UInt8)) (va : Value) (ha : Vw (Old w0) w0 va 1 a.length (a.map txt)) (hsa : ∀ x ∈ a, x.length ≤ 1048576) (hla : a.length ≤ 1048576)
    (b : List (List UInt8)) (vb : Value) (hb : Vw (Old w0) w0 vb 1 b.length (b.map txt)) (hsb : ∀ x ∈ b, x.length ≤ 1048576) (hlb : b.length ≤ 1048576) :
    Calls Tryz.prog 7 #[va, vb] w0 fun e w' => e = .returned (.bool true) ∧ Below w0.heap.size w0 w' := keeps_law ha hb hsa hsb hla hlb
end Go.Proofs.YtoganolkgmilaaaGreatDoor
