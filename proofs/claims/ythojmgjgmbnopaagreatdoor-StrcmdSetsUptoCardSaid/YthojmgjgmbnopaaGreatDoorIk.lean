import Derived.Test.YthojmgjgmbnopaaGreatDoorJJ
import Derived.Test.YthojmgjgmbnopaaGreatDoorUh
import Derived.Test.YthojmgjgmbnopaaGreatDoorIl
namespace Go.Proofs.YthojmgjgmbnopaaGreatDoor
open Go Go.RowKit
/-! StrcmdSets. -/
set_option maxRecDepth 10000 in
set_option maxHeartbeats 20000000 in
theorem sets_law {w0 : World} (hT : Tbl w0) {v : Value} {L : List ST} (hv : Vw (Old w0) w0 v 7 L.length (stC L)) (hok : StsOk (Old w0) w0 L) (hn : L.length ≤ 1048577) (k t : Tx) :
    Calls Tryz.prog 3 #[v, txt k, txt t] w0 fun e w' => e = .returned (.bool true) ∧ Below w0.heap.size w0 w' := by
  obtain ⟨av, cv, rfl, _⟩ := id hv.slice
  have HBG := Lib.hid (begun_any hv hok (by omega))
  have HT := Lib.hid hT
  have HLE := Lib.hid (begS_le L zeroS)
  clear hv hok hT
  unfold txt
  by_cases hl : t.length ≤ 1048576
  · have hlI : ¬ (1048576 : Int) < (t.length : Int) := by omega
    go_enter Tryz.func3, Tryz.ntmps3
    go_wp2_with fail
    refine HBG.out.mono ?_; rintro e w1 ⟨p, x, o1, X, rfl, hj, hx, hag, hXl, hst⟩
    have h1 : At w0 o1 w1 p (begS L zeroS).1 ⟨(begS L zeroS).2, (begS L zeroS).2⟩ L.length := ⟨hj, hst, by have := HLE.out; show (begS L zeroS).2 ≤ _; simpa [zeroS] using this, by have := HLE.out; show (begS L zeroS).2 ≤ _; simpa [zeroS] using this⟩
    have H1 := Lib.hid h1
    clear hj hx hag hXl hst h1 HBG
    go_wp2_with fail
    refine (awake_ok (HT.out.below H1.out.since)).mono ?_; rintro e w2 ⟨rfl, hB2⟩
    have G0 := Lib.hid (H1.out.below hB2)
    clear hB2 H1
    have HRUN := Lib.hid (run_set G0.out (by omega) (k := k) hl)
    clear G0
    go_wp2_with fail
    refine HRUN.out.mono ?_; rintro e w3 ⟨v3, rfl, hv3, o3, S3, c3, h3, hK3⟩
    obtain ⟨a3, l3, rfl, _⟩ := id hv3.slice
    have G3 := Lib.hid h3
    have K3 := Lib.hid hK3
    clear hv3 h3 hK3 HRUN
    dsimp only
    have V3 := Lib.hid (G3.out.below (lit_below0 w3 (.cells #[.int .i64 1, .string ⟨#[79, 75]⟩, .int .i64 0, .slice a3 0 l3] 30)))
    clear G3
    have hrun := run_get V3.out (by omega) K3.out
    rw [show (w3.alloc (.cells #[.int .i64 1, .string ⟨#[79, 75]⟩, .int .i64 0, .slice a3 0 l3] 30)).heap.size = w3.heap.size + 1 by simp] at hrun
    have HRUN := Lib.hid hrun
    clear V3 K3 hrun
    go_wp2_with fail
    refine HRUN.out.mono ?_; rintro e w4 ⟨v4, rfl, hv4, o4, S4, c4, h4, hK4⟩
    obtain ⟨a4, l4, rfl, _⟩ := id hv4.slice
    have G4 := Lib.hid h4
    have K4 := Lib.hid hK4
    clear hv4 h4 hK4 HRUN
    dsimp only
    go_wp2_with fail
    refine (lawbulk_ok _ t _ _ _ _).mono ?_; rintro e w5 ⟨rfl, hB5⟩
    have G5 := Lib.hid (G4.out.below hB5)
    clear hB5 G4
    have HRUN := Lib.hid (run_strlen G5.out (by omega) K4.out)
    clear G5 K4
    go_wp2_with fail
    refine HRUN.out.mono ?_; rintro e w6 ⟨v6, rfl, hv6, o6, S6, c6, h6, hK6⟩
    obtain ⟨a6, l6, rfl, _⟩ := id hv6.slice
    have G6 := Lib.hid h6
    have K6 := Lib.hid hK6
    clear hv6 h6 hK6 HRUN
    dsimp only
    go_wp2_with fail
    refine (lawnumber_ok _ _ _ _ _ _).mono ?_; rintro e w7 ⟨rfl, hB7⟩
    have G7 := Lib.hid (G6.out.below hB7)
    clear hB7 G6
    have HRUN := Lib.hid (run_getset G7.out (by omega) K6.out)
    clear G7 K6
    go_wp2_with fail
    refine HRUN.out.mono ?_; rintro e w8 ⟨v8, rfl, hv8, o8, S8, c8, h8, hK8⟩
    obtain ⟨a8, l8, rfl, _⟩ := id hv8.slice
    have G8 := Lib.hid h8
    have K8 := Lib.hid hK8
    clear hv8 h8 hK8 HRUN
    dsimp only
    go_wp2_with fail
    refine (lawbulk_ok _ t _ _ _ _).mono ?_; rintro e w9 ⟨rfl, hB9⟩
    have G9 := Lib.hid (G8.out.below hB9)
    clear hB9 G8
    have HRUN := Lib.hid (run_get G9.out (by omega) K8.out)
    clear G9 K8
    go_wp2_with fail
    refine HRUN.out.mono ?_; rintro e w10 ⟨v10, rfl, hv10, o10, S10, c10, h10, hK10⟩
    obtain ⟨a10, l10, rfl, _⟩ := id hv10.slice
    have G10 := Lib.hid h10
    have K10 := Lib.hid hK10
    clear hv10 h10 hK10 HRUN
    dsimp only
    go_wp2_with fail
    refine (lawbulk_ok _ [120] _ _ _ _).mono ?_; rintro e w11 ⟨rfl, hB11⟩
    have G11 := Lib.hid (G10.out.below hB11)
    clear hB11 G10
    have HRUN := Lib.hid (run_setnx_there (v := t) G11.out (by omega) K10.out)
    clear G11 K10
    go_wp2_with fail
    refine HRUN.out.mono ?_; rintro e w12 ⟨v12, rfl, hv12, o12, S12, c12, h12, hK12⟩
    obtain ⟨a12, l12, rfl, _⟩ := id hv12.slice
    have G12 := Lib.hid h12
    have K12 := Lib.hid hK12
    clear hv12 h12 hK12 HRUN
    dsimp only
    go_wp2_with fail
    refine (lawnumber_ok _ _ _ _ _ _).mono ?_; rintro e w13 ⟨rfl, hB13⟩
    have G13 := Lib.hid (G12.out.below hB13)
    clear hB13 G12
    have HRUN := Lib.hid (run_getdel G13.out (by omega) K12.out)
    clear G13 K12
    go_wp2_with fail
    refine HRUN.out.mono ?_; rintro e w14 ⟨v14, rfl, hv14, o14, S14, c14, h14, hK14⟩
    obtain ⟨a14, l14, rfl, _⟩ := id hv14.slice
    have G14 := Lib.hid h14
    have K14 := Lib.hid hK14
    clear hv14 h14 hK14 HRUN
    dsimp only
    go_wp2_with fail
    refine (lawbulk_ok _ [120] _ _ _ _).mono ?_; rintro e w15 ⟨rfl, hB15⟩
    have G15 := Lib.hid (G14.out.below hB15)
    clear hB15 G14
    have HRUN := Lib.hid (run_get_none G15.out (by omega) K14.out)
    clear G15 K14
    go_wp2_with fail
    refine HRUN.out.mono ?_; rintro e w16 ⟨v16, rfl, hv16, o16, S16, c16, h16, hK16⟩
    obtain ⟨a16, l16, rfl, _⟩ := id hv16.slice
    have G16 := Lib.hid h16
    have K16 := Lib.hid hK16
    clear hv16 h16 hK16 HRUN
    dsimp only
    have hfd : ∀ W, (Instr.field 30 (repV 5 [] 0 (.slice a16 0 l16)) 0).run Tryz.prog W = .ok (.int .i64 5) W := fun W => by kernel_rfl
    have HRUN := Lib.hid (run_setnx_put G16.out (by omega) K16.out hl)
    clear G16 K16
    go_wp2_with fail
    refine HRUN.out.mono ?_; rintro e w17 ⟨v17, rfl, hv17, o17, S17, c17, h17, hK17⟩
    obtain ⟨a17, l17, rfl, _⟩ := id hv17.slice
    have G17 := Lib.hid h17
    have K17 := Lib.hid hK17
    clear hv17 h17 hK17 HRUN
    dsimp only
    go_wp2_with fail
    refine (lawnumber_ok _ _ _ _ _ _).mono ?_; rintro e w18 ⟨rfl, hB18⟩
    have G18 := Lib.hid (G17.out.below hB18)
    clear hB18 G17
    have HRUN := Lib.hid (run_getrange (HT.out.below G18.out.since) G18.out (by omega) K17.out hl)
    clear G18 K17
    go_wp2_with fail
    refine HRUN.out.mono ?_; rintro e w19 ⟨v19, rfl, hv19, o19, S19, c19, h19, hK19⟩
    obtain ⟨a19, l19, rfl, _⟩ := id hv19.slice
    have G19 := Lib.hid h19
    have K19 := Lib.hid hK19
    clear hv19 h19 hK19 HRUN
    dsimp only
    go_wp2_with fail
    refine (lawbulk_ok _ t _ _ _ _).mono ?_; rintro e w20 ⟨rfl, hB20⟩
    have G20 := Lib.hid (G19.out.below hB20)
    clear hB20 G19
    have HRUN := Lib.hid (run_mset G20.out (by omega) (k := k) hl)
    clear G20 K19
    go_wp2_with fail
    refine HRUN.out.mono ?_; rintro e w21 ⟨v21, rfl, hv21, o21, S21, c21, h21, hK21⟩
    obtain ⟨a21, l21, rfl, _⟩ := id hv21.slice
    have G21 := Lib.hid h21
    have K21 := Lib.hid hK21
    clear hv21 h21 hK21 HRUN
    dsimp only
    have V21 := Lib.hid (G21.out.below (lit_below0 w21 (.cells #[.int .i64 1, .string ⟨#[79, 75]⟩, .int .i64 0, .slice a21 0 l21] 30)))
    clear G21
    have hrun := run_get V21.out (by omega) K21.out
    rw [show (w21.alloc (.cells #[.int .i64 1, .string ⟨#[79, 75]⟩, .int .i64 0, .slice a21 0 l21] 30)).heap.size = w21.heap.size + 1 by simp] at hrun
    have HRUN := Lib.hid hrun
    clear V21 K21 hrun
    go_wp2_with fail
    refine HRUN.out.mono ?_; rintro e w22 ⟨v22, rfl, hv22, o22, S22, c22, h22, hK22⟩
    obtain ⟨a22, l22, rfl, _⟩ := id hv22.slice
    have G22 := Lib.hid h22
    have K22 := Lib.hid hK22
    clear hv22 h22 hK22 HRUN
    dsimp only
    go_wp2_with fail
    refine (lawbulk_ok _ t _ _ _ _).mono ?_; rintro e w23 ⟨rfl, hB23⟩
    have G23 := Lib.hid (G22.out.below hB23)
    clear hB23 G22
    have HRUN := Lib.hid (run_msetnx G23.out (by omega) K22.out)
    clear G23 K22
    go_wp2_with fail
    refine HRUN.out.mono ?_; rintro e w24 ⟨v24, rfl, hv24, o24, S24, c24, h24, hK24⟩
    obtain ⟨a24, l24, rfl, _⟩ := id hv24.slice
    have G24 := Lib.hid h24
    have K24 := Lib.hid hK24
    clear hv24 h24 hK24 HRUN
    dsimp only
    go_wp2_with fail
    refine (lawnumber_ok _ _ _ _ _ _).mono ?_; rintro e w25 ⟨rfl, hB25⟩
    have G25 := Lib.hid (G24.out.below hB25)
    clear hB25 G24
    obtain ⟨j, hj⟩ := K24.out.at
    have hdue := jdue_ok G25.out.sp k 0
    unfold DueDid at hdue
    rw [hj] at hdue
    simp only [Option.getD_some, Option.isSome_some] at hdue
    have HDU := Lib.hid hdue
    unfold txt at HDU
    clear hdue hj
    go_wp2_with fail
    refine HDU.out.mono ?_; rintro e w90 ⟨rfl, hB90⟩
    have G90 := Lib.hid (G25.out.below hB90)
    clear hB90 G25 HDU
    have HRUN := Lib.hid (run_get G90.out (by omega) K24.out)
    clear G90 K24
    go_wp2_with fail
    refine HRUN.out.mono ?_; rintro e w26 ⟨v26, rfl, hv26, o26, S26, c26, h26, hK26⟩
    obtain ⟨a26, l26, rfl, _⟩ := id hv26.slice
    have G26 := Lib.hid h26
    have K26 := Lib.hid hK26
    clear hv26 h26 hK26 HRUN
    dsimp only
    go_wp2_with fail
    refine (lawbulk_ok _ t _ _ _ _).mono ?_; rintro e w27 ⟨rfl, hB27⟩
    have G27 := Lib.hid (G26.out.below hB27)
    clear hB27 G26
    have HE := Lib.hid G27.out.since
    clear G27 K26
    go_wp2_with fail
    go_ret
    exact ⟨rfl, HE.out⟩
  · have hlI : (1048576 : Int) < (t.length : Int) := by omega
    go_enter Tryz.func3, Tryz.ntmps3
    go_wp2_with fail
    refine HBG.out.mono ?_; rintro e w1 ⟨p, x, o1, X, rfl, hj, hx, hag, hXl, hst⟩
    have HS1 := Lib.hid hst.below0
    clear hj hx hag hXl hst HBG
    go_wp2_with fail
    refine (awake_ok (HT.out.below HS1.out)).mono ?_; rintro e w2 ⟨rfl, hB2⟩
    have HS2 := Lib.hid (HS1.out.trans (hB2.mono HS1.out.size))
    clear hB2 HS1
    go_wp2_with fail
    refine (awake_ok (HT.out.below HS2.out)).mono ?_; rintro e w3 ⟨rfl, hB3⟩
    have HS3 := Lib.hid (HS2.out.trans (hB3.mono HS2.out.size))
    clear hB3 HS2
    go_wp2_with fail
    go_ret
    exact ⟨rfl, HS3.out⟩
end Go.Proofs.YthojmgjgmbnopaaGreatDoor
