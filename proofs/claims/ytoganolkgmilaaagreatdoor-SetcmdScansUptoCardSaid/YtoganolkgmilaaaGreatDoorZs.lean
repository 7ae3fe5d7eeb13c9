import Derived.Test.YtoganolkgmilaaaGreatDoorXS
import Derived.Test.YtoganolkgmilaaaGreatDoorXT
import Derived.Test.YtoganolkgmilaaaGreatDoorSk
import Derived.Test.YtoganolkgmilaaaGreatDoorKf
import Derived.Test.YtoganolkgmilaaaGreatDoorKr
import Derived.Deep.RegionHeld
import Derived.Deep.DeepCutAuto
namespace Go.Proofs.YtoganolkgmilaaaGreatDoor
open Go Go.RowKit
/-! SetcmdScans. -/
set_option maxRecDepth 10000 in
set_option maxHeartbeats 20000000 in
theorem setLawScans_few {w0 : World} {vl : Value} {l : List Tx} (hl : Vw (Old w0) w0 vl 1 l.length (l.map txt)) (n : Int) (m : Tx) (hab : l = []) :
    Calls Tryz.prog 5 #[vl, .int .i64 n, txt m] w0 fun e w' => e = .returned (.bool true) ∧ Below w0.heap.size w0 w' := by
  obtain ⟨al, cl, rfl, _⟩ := id hl.slice
  have HN := Lib.hid (jnew_ok none0 w0 [1])
  have hab' : ((l.length : Int) == 0) = true ∨ False := by subst hab; exact .inl rfl
  clear hl hab
  generalize l.length = nl at *
  go_enter Tryz.func5, Tryz.ntmps5
  go_wp2_with fail
  refine HN.out.mono ?_; rintro e w1 ⟨p, o1, rfl, hj, hs⟩
  have HB1 := Lib.hid hs.below0
  clear hj hs HN
  go_wp2_with fail
  refine awake_ok.mono ?_; rintro e w2 ⟨rfl, hB2⟩
  have HB2 := Lib.hid (HB1.out.trans (hB2.mono HB1.out.size))
  clear hB2
  rcases hab' with h0 | h0
  · go_wp2_with fail
    refine awake_ok.mono ?_; rintro e w3 ⟨rfl, hB3⟩
    have HB3 := Lib.hid (HB2.out.trans (hB3.mono HB2.out.size))
    clear hB3
    go_wp2_with fail
    go_ret
    exact ⟨rfl, HB3.out⟩
  · exact h0.elim

theorem later_stp (s : List Nat) (o : Roles) (w : World) : Stp s o w (later o w) w := ⟨rfl, rfl, rfl, Nat.le_refl _, fun _ hb => if_pos hb, fun _ _ _ => rfl⟩
theorem At.keep7 {w0 : World} {o o' : Roles} {w w' : World} {p n : Nat} {S : SP} {c : Cnt} (h : At w0 o w p S c n) (s1 : Stp [7] o w o' w') : At w0 o' w' p S c n :=
  ⟨h.sp.keep s1 (by intro t ht; simp at ht), h.st.hide s1 (fun b _ => by unfold none0; simp), h.num, h.few⟩
theorem vw_cells {A : Nat → Prop} {w : World} {b off n cap sz : Nat} {xs : List Value} (h : Vw A w (.slice (some ⟨b, off, none⟩) n cap) sz n xs) (hn : 0 < n) : A b ∧ ∀ (k : Nat) u, xs[k]? = some u → w.cell? ⟨b, off + k, none⟩ = some u := by
  obtain ⟨⟨a', c', e, g1, g2, g3⟩, g4⟩ := h
  injection e with e1 e2 e3
  subst e1
  rcases g3 with g3 | ⟨b2, off2, e4, g5, g6, g7⟩
  · omega
  · injection e4 with e4
    injection e4 with e5 e6 _
    subst e5 e6
    exact ⟨g6, g7⟩
theorem upd_upd (f : Tx → List Tx) (k : Tx) (a b : List Tx) : upd (upd f k a) k b = upd f k b := by
  funext j
  by_cases h : j = k
  · subst h; rw [upd_same, upd_same]
  · rw [upd_far h, upd_far h, upd_far h]
def ScRel (w0 : World) (p : Nat) (L : List Tx) (wv : Value) (hb : Bool) (other : Tx) (g c i : Value) (wr : World) : Prop :=
  ∃ (k : Nat) (cu : Option Tx) (G F : List Tx) (o : Roles) (S : SP) (t : Cnt), i = .int .i64 (k : Int) ∧ c = .string ⟨(curT cu).toArray⟩ ∧ G ++ restL L cu = L ∧ FOk hb L other k F ∧ k + 2 * (restL L cu).length + (if hb then 0 else k % 2) ≤ 2 * L.length ∧
    At w0 o wr p S t (2 + 2 * k) ∧ Sets (upd (fun _ => []) kB F) S ∧ Vw (fun b => o b = [9]) wr wv 1 L.length (L.map txt) ∧ Row o wr [7] 9 1 g G.length (G.map txt)
def InRel (oS : Roles) (wS : World) (G T : List Tx) (P : Tx → Bool) (g i : Value) (wr : World) : Prop :=
  ∃ (k : Nat) (o : Roles), k ≤ T.length ∧ i = .int .i64 (k : Int) ∧ Row o wr [7] 9 1 g (G ++ (T.take k).filter P).length ((G ++ (T.take k).filter P).map txt) ∧ Stp [7] oS wS o wr
set_option maxRecDepth 10000 in
set_option maxHeartbeats 20000000 in
theorem scans_law {w0 : World} (hT : Tbl w0) {vl : Value} {l : List Tx} (hl : Vw (Old w0) w0 vl 1 l.length (l.map txt)) (n : Int) (hn : -9223372036854775808 ≤ n ∧ n ≤ 9223372036854775807) (other : Tx)
    (hsl : ∀ x ∈ l, x.length ≤ 1048576) (hll : l.length ≤ 1048576) (hol : other.length ≤ 1048576) :
    Calls Tryz.prog 5 #[vl, .int .i64 n, txt other] w0 fun e w' => e = .returned (.bool true) ∧ Below w0.heap.size w0 w' := by
  by_cases h0l : l = []
  · exact setLawScans_few hl n other h0l
  obtain ⟨al, cl, rfl, _⟩ := id hl.slice
  have hl1l : 0 < l.length := List.length_pos_iff.2 h0l
  have e0l : ((l.length : Int) == 0) = false := beq_eq_false_iff_ne.2 (by omega)
  have HN := Lib.hid (jnew_ok none0 w0 [1])
  have HVl := Lib.hid hl
  have HSl := Lib.hid hsl
  have H0l := Lib.hid h0l
  obtain ⟨i0, hi0, hz0, hz1, hz2⟩ := info_parts infoS
  have HSOL := Lib.hid (show ∀ x ∈ nextL true ((fun _ => []) kB) l, x.length ≤ 1048576 from fun x hx => hsl x ((ofL_mem x l).1 hx))
  obtain ⟨L, hL⟩ : ∃ L, L = ofL l := ⟨_, rfl⟩
  have HLA := Lib.hid (show Asc L from by rw [hL]; exact ofL_asc l)
  have hLl : L.length ≤ l.length := by rw [hL]; exact ofL_len l
  have HSM := Lib.hid (show ∀ x ∈ L, x.length ≤ 1048576 from fun x hx => by rw [hL, ofL_mem] at hx; exact hsl x hx)
  have HX1 := Lib.hid (show nextL true ((fun _ => []) kB) l = L from hL.symm)
  obtain ⟨m, hm1, hmr, hmc⟩ : ∃ m : Int, 1 ≤ m ∧ m ≤ 9223372036854775807 ∧ ((n < 1 ∧ m = 1) ∨ (1 ≤ n ∧ m = n)) := by
    by_cases h : n < 1
    · exact ⟨1, by omega, by omega, .inl ⟨h, rfl⟩⟩
    · exact ⟨n, by omega, by omega, .inr ⟨by omega, rfl⟩⟩
  have HPR := Lib.hid (fun W => print_ok W (n := m) ⟨by omega, by omega⟩)
  have HPN := Lib.hid (And.intro (parseN_itoa (n := m) ⟨by omega, by omega⟩) (itoa_len (n := m) ⟨by omega, by omega⟩))
  obtain ⟨hb, hbe⟩ : ∃ hb, hb = decide (other ∈ L) := ⟨_, rfl⟩
  have HBE := Lib.hid hbe
  have HHA := Lib.hid (show ∀ (W : World), Vw (Old W) W (.slice al l.length cl) 1 l.length (l.map txt) → Calls Tryz.prog 21 #[.slice al l.length cl, txt other] W fun e w' => e = .returned (.bool hb) ∧ w' = W from fun W h => by
    have := rhas_ok h (by omega) other
    unfold HasDid at this
    rw [show decide (other ∈ l) = hb from by rw [hbe, hL]; simp [ofL_mem]] at this
    exact this)
  have HOF := Lib.hid (show ∀ (W : World), Vw (Old W) W (.slice al l.length cl) 1 l.length (l.map txt) → Calls Tryz.prog 20 #[.slice al l.length cl] W (MDid W L) from fun W h => by rw [hL]; exact rof_ok h (by omega))
  have hbs := bsz other
  have hot : ¬ (1048576 : Int) < (other.length : Int) := by omega
  have HT := Lib.hid hT
  have HOL := Lib.hid hol
  unfold txt at HHA
  clear hbe hL hT hol
  clear hl hsl h0l 
  try unfold txt
  go_enter Tryz.func5, Tryz.ntmps5
  go_wp2_with fail
  refine HN.out.mono ?_; rintro e w1 ⟨p, o1, rfl, hj, hs⟩
  have h1 : At w0 o1 w1 p (fun _ => none) ⟨0, 0⟩ 0 := ⟨hj, hs, Nat.le_refl _, Nat.le_refl _⟩
  have H1 := Lib.hid h1
  clear hj hs h1 HN
  go_wp2_with fail
  refine awake_ok.mono ?_; rintro e w2 ⟨rfl, hB2⟩
  have H2 := Lib.hid (H1.out.below hB2)
  clear hB2 H1
  go_wp2_with fail
  refine (lawshort_ok (H2.out.vw HVl.out) HSl.out (by omega)).mono ?_
  rintro e w3 ⟨rfl, rfl⟩
  go_upto_if 43 with fail
  go_cut [1] (fun s1 wx => s1 = .int .i64 m ∧ At w0 o1 wx p (fun _ => none) ⟨0, 0⟩ 0)
  case first =>
    clear HSOL HLA HSM HX1 HPR HPN HBE HHA HOF HT HOL HVl HSl H0l
    rcases hmc with ⟨h1, rfl⟩ | ⟨h1, rfl⟩
    · have d0 : decide (n < 1) = true := decide_eq_true h1
      go_wp2_with fail
      go_meet
      exact ⟨rfl, H2.out⟩
    · have d0 : decide (m < 1) = false := decide_eq_false (by omega)
      go_wp2_with fail
      go_meet
      exact ⟨rfl, H2.out⟩
  case rest =>
    obtain ⟨rfl, h3⟩ := hcut
    have HC := Lib.hid h3
    clear h3 hmc H2
    have HROWp := Lib.hid (Row.lit o1 wc [9] 9 [txt saddB, txt kB] (by decide))
    have HSRCp := Lib.hid (((HC.out.vw HVl.out).below (lit_below wc (.cells [txt saddB, txt kB].toArray 9))).src (P := Tryz.prog) Tryz.underlying22 (one_list l))
    go_wp2_with (
      at_builtin
      refine wpList_app _ rfl _ _ 22 22 rfl 9 i0 _ 1 16 Tryz.underlying22 hi0 hz0 hz1 hz2 rfl rfl HROWp.out rfl HSRCp.out (by unfold maxLen; simp; omega) (by simp; omega) ?_
      intro v' wp4 op4 hrow hst
      obtain ⟨ap4, cp4, rfl, _⟩ := id hrow.slice
      have Hp4 := Lib.hid (HC.out.app _ hst)
      have HVp4 := Lib.hid hrow.vw.old
      clear hrow hst HROWp HSRCp)
    have hvp4 := HVp4.out
    have ep2 : [txt saddB, txt kB].length + l.length = (kB :: l).length + 1 := by simp; omega
    rw [ep2] at hvp4
    rw [show 2 + l.length = (kB :: l).length + 1 from by simp; omega]

    refine (run_change Hp4.out (by decide) Sets.empty true (k := kB) (more := l) (nm := saddB) H0l.out hvp4 (by decide) (by decide) HSOL.out (by simp) (by omega)).mono ?_
    rintro e wp5 hr
    obtain ⟨ap5, nlp5, lp5, rfl, op5, Sp5, kp5, hp5, hKp5, _⟩ := hr.num
    clear hr
    have Hp5 := Lib.hid hp5
    have HKp5 := Lib.hid hKp5
    clear hvp4 hp5 hKp5 Hp4 HVp4 ep2 HC

    have HKK := Lib.hid (show Sets (upd (fun _ => []) kB L) Sp5 from by have := HKp5.out; rw [HX1.out] at this; exact this)
    clear HKp5
    go_wp2_with fail
    refine (HOF.out _ (Hp5.out.vw HVl.out)).mono ?_; rintro e w6 ⟨a6, c6, rfl, hv6, hB6⟩
    obtain ⟨o6, h6, hr6⟩ : ∃ ro : Roles, At w0 ro wp5 p Sp5 kp5 2 ∧ ∀ b, wp5.heap.size ≤ b → ro b = [9] := ⟨_, Hp5.out.later, fun b hb => later_new hb⟩
    have hat : ScRel w0 p L (.slice a6 L.length c6) hb other (.slice none 0 0) (.string ⟨#[48]⟩) (.int .i64 0) w6 :=
      ⟨0, none, [], L, o6, Sp5, kp5, rfl, rfl, rfl, by unfold FOk; split <;> simp, by show 0 + 2 * L.length + _ ≤ _; split <;> omega, h6.below hB6, HKK.out, hv6.imp (fun b h => hr6 b h), Row.nil _ _ _ _ _⟩
    have HAT := Lib.hid hat
    clear h6 hr6 hv6 hB6 HOF HKK Hp5 hat
    go_wp2_with fail
    go_loopw [9, 10, 11] (fun g c i wr => ScRel w0 p L (.slice a6 L.length c6) hb other g c i wr) (fun _ _ i _ => 2 * L.length + 3 - (intOf i).toNat)
    case atStart => exact HAT.out
    case round =>
      clear HAT
      obtain ⟨k, cu, G, F, o9, S9, t9, rfl, rfl, hG, hF, hm, h9, hK9, hv9, hrow⟩ := hrel
      obtain ⟨ag, cg, rfl, _⟩ := id hrow.slice
      have hk2 : k ≤ 2 * L.length := by split at hm <;> omega
      have hkI : (k : Int) ≤ 2 * (L.length : Int) + 2 := by omega
      have hw1 : IntKind.i64.wrap (2 * (L.length : Int)) = 2 * (L.length : Int) := by rw [IntKind.wrap_i64]; omega
      have hw2 : IntKind.i64.wrap (2 * (L.length : Int) + 2) = 2 * (L.length : Int) + 2 := by rw [IntKind.wrap_i64]; omega
      have hGl : G.length ≤ L.length := by rw [← hG]; simp
      obtain ⟨R, hR⟩ : ∃ R, restL F cu = R := ⟨_, rfl⟩
      obtain ⟨j, hj⟩ : ∃ j : Nat, (j : Int) = min m (R.length : Int) := ⟨(min m (R.length : Int)).toNat, by omega⟩
      have hjl : j ≤ R.length := by omega
      have hj0 : j < R.length → 0 < j := by omega
      obtain ⟨hFa, hFP⟩ := fok_filter HLA.out HBE.out hF
      have hFl := fok_len hF
      have hRl : R.length ≤ F.length := by
        rw [← hR]
        cases cu with
        | none => exact Nat.le_refl _
        | some m0 => exact List.length_filter_le _ _
      have hst := scan_step hFa hFP hG hR hjl hj0
      have hfar := fun (h : 0 < j) r' => scan_far (r' := r') HBE.out hF hR hjl h hm
      obtain ⟨T, hTe⟩ : ∃ T, T = R.take j := ⟨_, rfl⟩
      obtain ⟨nx, hnx⟩ : ∃ nx, nx = nextC R j := ⟨_, rfl⟩
      obtain ⟨P, hP⟩ : ∃ P, P = keepP hb other := ⟨_, rfl⟩
      have hTl : T.length ≤ L.length + 1 := by rw [hTe]; simp; omega
      have hjn : ∀ m0, nx = some m0 → 0 < j := fun m0 h => by
        rw [hnx] at h
        unfold nextC at h
        split at h
        · exact hj0 (by assumption)
        · cases h
      rw [← hTe, ← hnx, ← hP] at hst
      rw [← hTe, ← hP] at hfar
      have HST := Lib.hid (And.intro hst (And.intro hfar hjn))
      have HP := Lib.hid hP
      have hrun : ∀ (W : World), Below wr.heap.size wr W → ∀ sv, Vw (Old W) W sv 1 5 ([sscanB, kB, curT cu, COUNTB, Lib.itoa m].map txt) → Calls Tryz.prog 12 #[.pointer (some ⟨p, 0, none⟩), sv] W (ScanDid W (curT nx) T) := fun W hW sv hV => by
        rw [hnx, hTe]
        exact runF_scan (k := kB) (nm := sscanB) (cu := cu) (y := Lib.itoa m) (h9.below hW) (HT.out.below (h9.below hW).since) hK9 hV (by decide) (by decide) HPN.out.1 (by have := HPN.out.2; omega) hm1 (by rw [upd_same]; omega) (by rw [upd_same]; intro x hx; rcases fok_mem hF hx with h | h; exact HSM.out x h; rw [h]; exact HOL.out) (by rw [upd_same]; exact hR) hj
      have HRUN := Lib.hid hrun
      have H9 := Lib.hid h9
      have HK9 := Lib.hid hK9
      have HV9 := Lib.hid hv9
      have HROW := Lib.hid hrow
      have HF := Lib.hid (And.intro hF (And.intro hFa hFl))
      clear h9 hK9 hv9 hrow hst hfar hjn hP hrun hR hj hjl hj0 hFa hFP hFl hRl hTe hnx hG hm hF
      go_wp2_with fail
      refine (HPR.out _).mono ?_; rintro e w10 ⟨rfl, hB10⟩
      obtain ⟨wL, hwL⟩ : ∃ wL, wL = w10.alloc (.cells ([sscanB, kB, curT cu, COUNTB, Lib.itoa m].map txt).toArray 9) := ⟨_, rfl⟩
      have hBL : Below wr.heap.size wr wL := hB10.trans (by rw [hwL]; exact (lit_below w10 _).mono hB10.size)
      have HU := Lib.hid (show Calls Tryz.prog 12 #[.pointer (some ⟨p, 0, none⟩), .slice (some ⟨w10.heap.size, 0, none⟩) 5 5] (w10.alloc (.cells ([sscanB, kB, curT cu, COUNTB, Lib.itoa m].map txt).toArray 9)) (ScanDid wL (curT nx) T) from by
        have := HRUN.out wL hBL (.slice (some ⟨w10.heap.size, 0, none⟩) 5 5) (by rw [hwL]; exact lit_vw w10 [sscanB, kB, curT cu, COUNTB, Lib.itoa m] (by simp))
        rw [hwL] at this ⊢
        exact this)
      have HL := Lib.hid ((H9.out.below hBL).later)
      have HVL := Lib.hid ((HV9.out.below hBL).keep (later_stp [5] o9 wL) (by decide))
      have HROWL := Lib.hid ((HROW.out.below hBL).keep (later_stp [5] o9 wL) (by decide))
      have HNEW := Lib.hid (show ∀ b, wL.heap.size ≤ b → later o9 wL b = [9] from fun b hb => later_new hb)
      clear hB10 hBL hwL HRUN H9 HV9 HROW
      generalize later o9 wL = oL at *
      go_wp2_with fail
      refine HU.out.mono ?_
      rintro e w11 ⟨v, a, c, rfl, hv, hu, hB⟩
      obtain ⟨⟨a2, c2, rfl, hc2, hm2, h3⟩, _⟩ := id hv
      rcases h3 with h3 | ⟨b2, off2, rfl, _⟩
      · exact absurd h3 (by decide)
      obtain ⟨wS, hwS⟩ : ∃ wS, wS = w11.alloc (.cells #[.int .i64 6, .string ⟨#[]⟩, .int .i64 0, .slice (some ⟨b2, off2, none⟩) 2 c2] 29) := ⟨_, rfl⟩
      have hBS : Below w11.heap.size w11 wS := by rw [hwS]; exact lit_below _ _
      have HBLK := Lib.hid (show Blk oL wS [9] w11.heap.size #[.int .i64 6, .string ⟨#[]⟩, .int .i64 0, .slice (some ⟨b2, off2, none⟩) 2 c2] 29 from ⟨by rw [hwS]; exact heap_alloc_new w11 _, HNEW.out _ hB.size⟩)
      have hpair := (hv.imp (B := fun b => oL b = [9]) fun b hb => HNEW.out b hb).below hBS
      have htold := (hu.imp (B := fun b => oL b = [9]) fun b hb => HNEW.out b hb).below hBS
      have HS := Lib.hid ((HL.out.below hB).below hBS)
      have HVS := Lib.hid ((HVL.out.below hB).below hBS)
      have HROWS := Lib.hid ((HROWL.out.below hB).below hBS)
      have HPA := Lib.hid hpair
      have HTO := Lib.hid htold
      have HSET := Lib.hid hwS
      obtain ⟨_, hcs⟩ := vw_cells hpair (by decide)
      have x0 := hcs 0 _ rfl
      have x4 := hcs 4 _ rfl
      rw [hwS] at x0 x4
      rw [Nat.add_zero] at x0
      clear hv hu hB hBS hwS hpair htold HU HL HVL HROWL HNEW hcs
      go_wp2_with fail
      try rw [← HSET.out]
      clear x0 x4
      go_loopw [9, 13] (fun g i wr => InRel oL wS G T P g i wr) (fun _ i _ => T.length - (intOf i).toNat)
      case atStart => exact ⟨0, oL, Nat.zero_le _, rfl, by simpa using HROWS.out, Stp.refl _ _ _⟩
      case round =>
        obtain ⟨q, o12, hq, rfl, hrow, hst⟩ := hrel
        obtain ⟨ag2, cg2, rfl, _⟩ := id hrow.slice
        have hpr := HPA.out.keep hst (by decide)
        obtain ⟨_, hcs⟩ := vw_cells hpr (by decide)
        have x1 := hcs 1 _ rfl
        have x7 := hcs 7 _ rfl
        have hbc := (HBLK.out.keep hst (by decide)).cell
        by_cases hqt : q < T.length
        · obtain ⟨x, hx⟩ : ∃ x, T[q]? = some x := ⟨_, List.getElem?_eq_getElem hqt⟩
          obtain ⟨b3, off3, rfl, hcap3, hbl3, d0, d1, d2, d3⟩ := vw_rf (HTO.out.keep hst (by decide)) (k := q) (y := bulkF x) (by rw [List.getElem?_map, hx]; rfl)
          replace d1 : _ = some (Value.string ⟨x.toArray⟩) := d1
          have hqI : (0 : Int) ≤ q ∧ (q : Int) < T.length := by omega
          obtain ⟨Gq, hGq⟩ : ∃ Gq, Gq = G ++ (T.take q).filter P := ⟨_, rfl⟩
          rw [← hGq] at hrow ⊢
          have hGql : Gq.length ≤ 2 * L.length + 1 := by
            rw [hGq, List.length_append]
            have := List.length_filter_le P (T.take q)
            have h2 : (T.take q).length ≤ T.length := by simp; omega
            omega
          have HGQ := Lib.hid (show G ++ (T.take (q + 1)).filter P = Gq ++ [x].filter P from by rw [List.take_add_one, hx, List.filter_append, ← List.append_assoc, hGq]; rfl)
          have HRW := Lib.hid hrow
          have HSTP := Lib.hid hst
          have HVO := Lib.hid ((HS.out.keep7 hst).vw HVl.out)
          have hPx : P x = (decide (x ≠ other) || hb) := by rw [HP.out]; rfl
          clear hrow hst hpr hcs x1 hx d0 d2 d3 hGq
          go_upto_region 20 with fail
          go_cut [116] (fun s116 wx => s116 = .bool (P x) ∧ wx = wr)
          case first =>
            clear HRW HSTP HGQ hGql
            clear x7 hbc
            by_cases hxo : x = other
            · subst hxo
              have HP2 := Lib.hid (show P x = hb from by rw [hPx]; simp)
              go_wp2_with fail
              refine (HHA.out _ HVO.out).mono ?_; rintro e w13 ⟨rfl, rfl⟩
              go_wp2_with fail
              go_meet
              exact ⟨by rw [HP2.out], rfl⟩
            · have HP2 := Lib.hid (show P x = true from by rw [hPx]; simp [hxo])
              have hd : (x == other) = false := by simpa using hxo
              have hd2 : (x != other) = true := by simpa using hxo
              go_wp2_with fail
              go_meet
              exact ⟨by rw [HP2.out], rfl⟩
          case rest =>
            obtain ⟨rfl, hw⟩ := hcut
            subst hw
            clear hPx d1 hbc x7
            cases hp : P x with
            | false =>
              have D := Lib.hid (show InRel oL wS G T P (.slice ag2 Gq.length cg2) (.int .i64 ((q + 1 : Nat) : Int)) wc from ⟨q + 1, o12, hqt, rfl, by rw [HGQ.out]; simpa [hp] using HRW.out, HSTP.out⟩)
              clear HRW HSTP HGQ hp
              go_wp2_with fail
              go_roundw
              case rel => exact D.out
              case measure => simp [intOf]; omega
            | true =>
              have HR3 := Lib.hid (HRW.out.below (lit_below wc (.cells #[txt x] 9)))
              have HST3 := Lib.hid (HSTP.out.trans (Stp.ofBelow [7] o12 (lit_below wc (.cells #[txt x] 9))))
              have HSRC := Lib.hid ((vw_new1 wc x 9).src (P := Tryz.prog) Tryz.underlying22 (one_list [x]))
              have HGQ := Lib.hid (show G ++ (T.take (q + 1)).filter P = Gq ++ [x] from by rw [HGQ.out]; simp [hp])
              unfold txt at HR3 HST3 HSRC
              clear HRW HSTP hp
              have hm1 : Gq.length + 1 ≤ maxLen := by unfold maxLen; omega
              have hm2 : (Gq.length + 1) * 16 ≤ 140737488355328 := by omega
              go_wp2_with (
                at_builtin
                refine wpList_app _ rfl _ _ 22 22 rfl 9 i0 _ 1 16 Tryz.underlying22 hi0 hz0 hz1 hz2 rfl rfl HR3.out rfl HSRC.out hm1 hm2 ?_
                intro v' w14 o14 hrow14 hst14
                obtain ⟨a14, c14, rfl, _⟩ := id hrow14.slice
                have e1 : (G ++ (T.take (q + 1)).filter P).length = Gq.length + 1 := by rw [HGQ.out]; simp
                have e2 : Row o14 w14 [7] 9 1 (.slice a14 (Gq.length + 1) c14) (G ++ (T.take (q + 1)).filter P).length ((G ++ (T.take (q + 1)).filter P).map txt) := by rw [HGQ.out, List.map_append, List.length_append]; exact hrow14
                have D := Lib.hid (show InRel oL wS G T P (.slice a14 (Gq.length + 1) c14) (.int .i64 ((q + 1 : Nat) : Int)) w14 from ⟨q + 1, o14, hqt, rfl, e2, HST3.out.trans hst14⟩)
                clear hrow14 hst14 HR3 HST3 HSRC e1 e2 hm1 hm2)
              go_roundw
              case rel => exact D.out
              case measure => simp [intOf]; omega
        · obtain rfl : q = T.length := by omega
          rw [List.take_length] at hrow
          obtain ⟨G2, hG2⟩ : ∃ G2, G2 = G ++ T.filter P := ⟨_, rfl⟩
          rw [List.take_length, ← hG2]
          rw [← hG2] at hrow
          have H12 := Lib.hid (HS.out.keep7 hst)
          have HV12 := Lib.hid (HVS.out.keep hst (by decide))
          have HRW := Lib.hid hrow
          have hst2 := HST.out
          rw [← hG2] at hst2
          have HG2 := Lib.hid hG2
          clear hrow hst hpr hcs hG2 HS HVS HPA HTO HROWS
          cases nx with
          | none =>
            simp only [curT] at x1
            have hGL : G2 = L := hst2.1.2 rfl
            have HSA := Lib.hid (rsame_ok HRW.out.vw HV12.out (by have := congrArg List.length hGL; omega) (by omega))
            unfold SameDid at HSA
            rw [decide_eq_true hGL] at HSA
            clear hst2 HST HG2 hGL
            go_wp2_with fail
            refine HSA.out.mono ?_; rintro e w13 ⟨rfl, hB13⟩
            have HB := Lib.hid (H12.out.below hB13).since
            clear hB13 HSA H12
            go_wp2_with fail
            go_ret
            exact ⟨rfl, HB.out⟩
          | some m1 =>
            simp only [curT] at x1
            obtain ⟨hgg, hrr⟩ := hst2.1.1 m1 rfl
            have hff := hst2.2.1 (hst2.2.2 m1 rfl) _ hrr
            have HGG := Lib.hid hgg
            have HFF := Lib.hid hff
            clear hst2 HST HG2 hgg hrr hff
            go_wp2_with fail
            refine (HHA.out _ (H12.out.vw HVl.out)).mono ?_; rintro e w13 ⟨rfl, rfl⟩
            clear x1 x7 hbc
            cases hb with
            | true =>
              have D := Lib.hid (show ScRel w0 p L (.slice a6 L.length c6) true other (.slice ag2 G2.length cg2) (.string ⟨(62 :: m1).toArray⟩) (.int .i64 ((k + 1 : Nat) : Int)) w13 from
                ⟨k + 1, some m1, G2, F, _, _, _, rfl, rfl, HGG.out, (fok_true HF.out.1).2, HFF.out, H12.out.mono (by omega), HK9.out, HV12.out, HRW.out⟩)
              clear H12 HK9 HV12 HRW HGG HFF HF
              go_wp2_with fail
              go_roundw
              case rel => exact D.out
              case measure => simp [intOf]; omega
            | false =>
              have hno : other ∉ L := of_decide_eq_false HBE.out.symm
              have hmod : Int.tmod (k : Int) 2 = ((k % 2 : Nat) : Int) := rfl
              by_cases hev : k % 2 = 0
              · have he0 : ((k % 2 : Nat) : Int) = 0 := by omega
                rw [he0] at hmod
                obtain ⟨hFL, hF2⟩ := fok_even hev HF.out.1
                have HU := Lib.hid (runF_change (k := kB) (more := [other]) (nm := saddB) (H12.out.below (lit_below w13 _)) (by omega) HK9.out true (by simp) (lit_vw w13 [saddB, kB, other] (by simp)) (by decide) (by decide) (by
                  rw [upd_same]
                  intro z hz
                  rcases fok_mem hF2 hz with h | h
                  · exact HSM.out z h
                  · rw [h]; exact HOL.out) (by rw [upd_same]; have := HF.out.2.2; omega) (by simp))
                have HF2 := Lib.hid hF2
                have HV13 := Lib.hid (HV12.out.below (lit_below w13 (.cells ([saddB, kB, other].map txt).toArray 9)))
                have HRW13 := Lib.hid (HRW.out.below (lit_below w13 (.cells ([saddB, kB, other].map txt).toArray 9)))
                clear hFL hF2 HF H12 HK9 HV12 HRW
                go_wp2_with fail
                refine HU.out.mono ?_
                rw [upd_same, upd_upd]
                rintro e w14 ⟨a14, k14, l14, rfl, o14, S14, t14, h14, hK14, hs14⟩
                have D := Lib.hid (show ScRel w0 p L (.slice a6 L.length c6) false other (.slice ag2 G2.length cg2) (.string ⟨(62 :: m1).toArray⟩) (.int .i64 ((k + 1 : Nat) : Int)) w14 from
                  ⟨k + 1, some m1, G2, _, _, _, _, rfl, rfl, HGG.out, HF2.out, HFF.out, h14.mono (by omega), hK14, HV13.out.keep hs14 (by decide), HRW13.out.keep hs14 (by decide)⟩)
                clear h14 hK14 hs14 HU HV13 HRW13 HGG HFF HF2
                go_wp2_with fail
                go_roundw
                case rel => exact D.out
                case measure => simp [intOf]; omega
              · have he0 : ((k % 2 : Nat) : Int) = 1 := by omega
                rw [he0] at hmod
                have hF2 := fok_odd HLA.out hno (by omega) HF.out.1
                have HU := Lib.hid (runF_change (k := kB) (more := [other]) (nm := sremB) (H12.out.below (lit_below w13 _)) (by omega) HK9.out false (by simp) (lit_vw w13 [sremB, kB, other] (by simp)) (by decide) (by decide) (by
                  rw [upd_same]
                  intro z hz
                  rcases fok_mem hF2 hz with h | h
                  · exact HSM.out z h
                  · rw [h]; exact HOL.out) (by rw [upd_same]; have := HF.out.2.2; omega) (by simp))
                have HF2 := Lib.hid hF2
                have HV13 := Lib.hid (HV12.out.below (lit_below w13 (.cells ([sremB, kB, other].map txt).toArray 9)))
                have HRW13 := Lib.hid (HRW.out.below (lit_below w13 (.cells ([sremB, kB, other].map txt).toArray 9)))
                clear hF2 HF H12 HK9 HV12 HRW
                go_wp2_with fail
                refine HU.out.mono ?_
                rw [upd_same, upd_upd]
                rintro e w14 ⟨a14, k14, l14, rfl, o14, S14, t14, h14, hK14, hs14⟩
                have D := Lib.hid (show ScRel w0 p L (.slice a6 L.length c6) false other (.slice ag2 G2.length cg2) (.string ⟨(62 :: m1).toArray⟩) (.int .i64 ((k + 1 : Nat) : Int)) w14 from
                  ⟨k + 1, some m1, G2, _, _, _, _, rfl, rfl, HGG.out, HF2.out, HFF.out, h14.mono (by omega), hK14, HV13.out.keep hs14 (by decide), HRW13.out.keep hs14 (by decide)⟩)
                clear h14 hK14 hs14 HU HV13 HRW13 HGG HFF HF2
                go_wp2_with fail
                go_roundw
                case rel => exact D.out
                case measure => simp [intOf]; omega
theorem scans_con (w0 : World) (hT : Tbl w0) (l : List (List UInt8)) (va : Value) (ha : Vw (Old w0) w0 va 1 l.length (l.map txt)) (hsl : ∀ x ∈ l, x.length ≤ 1048576) (hll : l.length ≤ 1048576)
    (n : Int) (hn : -9223372036854775808 ≤ n ∧ n ≤ 9223372036854775807) (m : List UInt8) (hm : m.length ≤ 1048576) :
    Calls Tryz.prog 5 #[va, .int .i64 n, txt m] w0 fun e w' => e = .returned (.bool true) ∧ Below w0.heap.size w0 w' := scans_law hT ha n hn m hsl hll hm
end Go.Proofs.YtoganolkgmilaaaGreatDoor
