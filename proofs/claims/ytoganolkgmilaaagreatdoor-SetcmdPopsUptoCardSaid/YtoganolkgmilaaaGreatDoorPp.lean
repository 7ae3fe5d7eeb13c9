import Derived.Test.YtoganolkgmilaaaGreatDoorXS
import Derived.Test.YtoganolkgmilaaaGreatDoorXT
import Derived.Test.YtoganolkgmilaaaGreatDoorPv
import Derived.Test.YtoganolkgmilaaaGreatDoorKs
import Derived.Deep.RegionHeld
import Derived.Deep.DeepCutAuto
namespace Go.Proofs.YtoganolkgmilaaaGreatDoor
open Go Go.RowKit
/-! SetcmdPops. -/
set_option maxRecDepth 10000 in
set_option maxHeartbeats 20000000 in
theorem setLawPops_few {w0 : World} {vl : Value} {l : List Tx} (hl : Vw (Old w0) w0 vl 1 l.length (l.map txt)) (vs : Value) (hab : l = []) :
    Calls Tryz.prog 8 #[vl, vs] w0 fun e w' => e = .returned (.bool true) ∧ Below w0.heap.size w0 w' := by
  obtain ⟨al, cl, rfl, _⟩ := id hl.slice
  have HN := Lib.hid (jnew_ok none0 w0 [1])
  have hab' : ((l.length : Int) == 0) = true ∨ False := by subst hab; exact .inl rfl
  clear hl hab
  generalize l.length = nl at *
  go_enter Tryz.func8, Tryz.ntmps8
  go_wp2_with fail
  refine HN.out.mono ?_; rintro e w1 ⟨p, o1, rfl, hj, hs⟩
  have HB1 := Lib.hid hs.below0
  clear hj hs HN
  go_wp2_with fail
  refine awake_ok.mono ?_; rintro e w2 ⟨rfl, hB2⟩
  have HB2 := Lib.hid (HB1.out.trans (hB2.mono HB1.out.size))
  clear hB2
  rcases hab' with h0 | h0
  · go_wp2_with fail
    refine awake_ok.mono ?_; rintro e w3 ⟨rfl, hB3⟩
    have HB3 := Lib.hid (HB2.out.trans (hB3.mono HB2.out.size))
    clear hB3
    go_wp2_with fail
    go_ret
    exact ⟨rfl, HB3.out⟩
  · exact h0.elim

theorem vw_at {A : Nat → Prop} {w : World} {a : Option Addr} {n cap : Nat} {xs : List Value} (h : Vw A w (.slice a n cap) 1 n xs) (hn : 0 < n) : ∃ b off, a = some ⟨b, off, none⟩ ∧ A b ∧ n ≤ cap ∧ ∀ (k : Nat) u, xs[k]? = some u → w.cell? ⟨b, off + k, none⟩ = some u := by
  obtain ⟨⟨a', c', e, g1, g2, g3⟩, g4⟩ := h
  injection e with e1 e2 e3
  subst e1 e3
  rcases g3 with g3 | ⟨b, off, rfl, g5, g6, g7⟩
  · omega
  · exact ⟨b, off, rfl, g6, g1, g7⟩
def PpRel (w0 : World) (p : Nat) (W : List Tx) (wv : Value) (L : Nat) (at' i : Value) (wr : World) : Prop :=
  ∃ (k t : Nat) (o : Roles) (S : SP) (c : Cnt), k ≤ L ∧ t ≤ W.length ∧ at' = .int .i64 (t : Int) ∧ i = .int .i64 (k : Int) ∧ At w0 o wr p S c (8 + 4 * k) ∧ Sets (upd (fun _ => []) kB (W.drop t)) S ∧ Vw (fun b => o b = [9]) wr wv 1 W.length (W.map txt)
theorem upd_upd (f : Tx → List Tx) (k : Tx) (a b : List Tx) : upd (upd f k a) k b = upd f k b := by
  funext j
  by_cases h : j = k
  · subst h; rw [upd_same, upd_same]
  · rw [upd_far h, upd_far h, upd_far h]
set_option maxRecDepth 10000 in
set_option maxHeartbeats 20000000 in
theorem pops_law {w0 : World} (hT : Tbl w0) {vl vs : Value} {l : List Tx} {st : List Int} (hl : Vw (Old w0) w0 vl 1 l.length (l.map txt)) (hst : Vw (Old w0) w0 vs 1 st.length (st.map (Value.int .i64)))
    (hr : ∀ n ∈ st, -9223372036854775808 ≤ n ∧ n ≤ 9223372036854775807) (hsl : ∀ x ∈ l, x.length ≤ 1048576) (hll : l.length ≤ 1048576) (hsn : st.length ≤ 1048576) :
    Calls Tryz.prog 8 #[vl, vs] w0 fun e w' => e = .returned (.bool true) ∧ Below w0.heap.size w0 w' := by
  by_cases h0l : l = []
  · exact setLawPops_few hl vs h0l
  obtain ⟨al, cl, rfl, _⟩ := id hl.slice
  have hl1l : 0 < l.length := List.length_pos_iff.2 h0l
  have e0l : ((l.length : Int) == 0) = false := beq_eq_false_iff_ne.2 (by omega)
  have HN := Lib.hid (jnew_ok none0 w0 [1])
  have HVl := Lib.hid hl
  have HSl := Lib.hid hsl
  have H0l := Lib.hid h0l
  obtain ⟨i0, hi0, hz0, hz1, hz2⟩ := info_parts infoS
  have hol := ofL_len l
  have HSOL := Lib.hid (show ∀ x ∈ nextL true ((fun _ => []) kB) l, x.length ≤ 1048576 from fun x hx => hsl x ((ofL_mem x l).1 hx))
  have HSW := Lib.hid (show ∀ x ∈ ofL l, x.length ≤ 1048576 from fun x hx => hsl x ((ofL_mem x l).1 hx))
  obtain ⟨ast, cst, rfl, _⟩ := id hst.slice
  have HST := Lib.hid hst
  have HRN := Lib.hid hr
  have HT := Lib.hid hT
  clear hl hsl h0l hst hr hT
  try unfold txt
  go_enter Tryz.func8, Tryz.ntmps8
  go_wp2_with fail
  refine HN.out.mono ?_; rintro e w1 ⟨p, o1, rfl, hj, hs⟩
  have h1 : At w0 o1 w1 p (fun _ => none) ⟨0, 0⟩ 0 := ⟨hj, hs, Nat.le_refl _, Nat.le_refl _⟩
  have H1 := Lib.hid h1
  clear hj hs h1 HN
  go_wp2_with fail
  refine awake_ok.mono ?_; rintro e w2 ⟨rfl, hB2⟩
  have H2 := Lib.hid (H1.out.below hB2)
  clear hB2 H1
  go_wp2_with fail
  refine (lawshort_ok (H2.out.vw HVl.out) HSl.out (by omega)).mono ?_
  rintro e w3 ⟨rfl, rfl⟩
  have HROWp := Lib.hid (Row.lit o1 w3 [9] 9 [txt saddB, txt kB] (by decide))
  have HSRCp := Lib.hid (((H2.out.vw HVl.out).below (lit_below w3 (.cells [txt saddB, txt kB].toArray 9))).src (P := Tryz.prog) Tryz.underlying22 (one_list l))
  go_wp2_with (
    at_builtin
    refine wpList_app _ rfl _ _ 22 22 rfl 9 i0 _ 1 16 Tryz.underlying22 hi0 hz0 hz1 hz2 rfl rfl HROWp.out rfl HSRCp.out (by unfold maxLen; simp; omega) (by simp; omega) ?_
    intro v' wp4 op4 hrow hst
    obtain ⟨ap4, cp4, rfl, _⟩ := id hrow.slice
    have Hp4 := Lib.hid (H2.out.app _ hst)
    have HVp4 := Lib.hid hrow.vw.old
    clear hrow hst HROWp HSRCp)
  have hvp4 := HVp4.out
  have ep2 : [txt saddB, txt kB].length + l.length = (kB :: l).length + 1 := by simp; omega
  rw [ep2] at hvp4
  rw [show 2 + l.length = (kB :: l).length + 1 from by simp; omega]

  refine (run_change Hp4.out (by decide) Sets.empty true (k := kB) (more := l) (nm := saddB) H0l.out hvp4 (by decide) (by decide) HSOL.out (by simp) (by omega)).mono ?_
  rintro e wp5 hr
  obtain ⟨ap5, nlp5, lp5, rfl, op5, Sp5, kp5, hp5, hKp5, _⟩ := hr.num
  clear hr
  have Hp5 := Lib.hid hp5
  have HKp5 := Lib.hid hKp5
  clear hvp4 hp5 hKp5 Hp4 HVp4 ep2 H2

  obtain ⟨W, hW⟩ : ∃ W, W = ofL l := ⟨_, rfl⟩
  have HKK := Lib.hid (show Sets (upd (fun _ => []) kB W) Sp5 from by rw [hW]; exact HKp5.out)
  have hof := rof_ok (Hp5.out.vw HVl.out) (by omega)
  have HWA := Lib.hid (show Asc W from by rw [hW]; exact ofL_asc l)
  have hsw := HSW.out
  rw [← hW] at hof hol hsw
  have HSW := Lib.hid hsw
  have HOF := Lib.hid hof
  clear hW hof HKp5 hsw
  go_wp2_with fail
  refine HOF.out.mono ?_; rintro e w6 ⟨a6, c6, rfl, hv6, hB6⟩
  obtain ⟨ro, h6, hr6⟩ : ∃ ro : Roles, At w0 ro wp5 p Sp5 kp5 2 ∧ ∀ b, wp5.heap.size ≤ b → ro b = [9] := ⟨_, Hp5.out.later, fun b hb => later_new hb⟩
  have hat : PpRel w0 p W (.slice a6 W.length c6) st.length (.int .i64 0) (.int .i64 0) w6 := ⟨0, 0, ro, Sp5, kp5, Nat.zero_le _, Nat.zero_le _, rfl, rfl, (h6.below hB6).mono (by omega), HKK.out, hv6.imp fun b hb => hr6 b hb⟩
  clear h6 hr6 hv6 hB6 HOF Hp5 HKK
  go_wp2_with fail
  go_loopw [7, 8] (fun a i wr => PpRel w0 p W (.slice a6 W.length c6) st.length a i wr) (fun _ i _ => st.length - (intOf i).toNat)
  case atStart => exact hat
  case round =>
    obtain ⟨k, t, o9, S9, c9, hk, ht, rfl, rfl, h9, hK9, hv9⟩ := hrel
    clear hat
    by_cases hb : k < st.length ∧ t < W.length
    · obtain ⟨hkl, htl⟩ := hb
      obtain ⟨x, hx⟩ : ∃ x, st[k]? = some x := ⟨_, List.getElem?_eq_getElem hkl⟩
      obtain ⟨b, off, rfl, hbl, hcap, hg⟩ := vw_at HST.out (by omega)
      have HC := Lib.hid (hg k (.int .i64 x) (by rw [List.getElem?_map, hx]; rfl))
      have hc := h9.cell HC.out
      have hxr := HRN.out x (List.mem_of_getElem? hx)
      obtain ⟨y, hy⟩ : ∃ y, W[t]? = some y := ⟨_, List.getElem?_eq_getElem htl⟩
      have hdr : W.drop t = y :: W.drop (t + 1) := by
        rw [List.drop_eq_getElem_cons htl]
        congr 1
        rw [List.getElem?_eq_getElem htl] at hy
        cases hy; rfl
      have hkI : (0 : Int) ≤ k ∧ (k : Int) < st.length := by omega
      have htI : (0 : Int) ≤ t ∧ (t : Int) < W.length := by omega
      have HPR := Lib.hid (fun W => print_ok W hxr)
      have HPN := Lib.hid (And.intro (parseN_itoa hxr) (itoa_len hxr))
      have H9 := Lib.hid h9
      have HK9 := Lib.hid hK9
      have HV9 := Lib.hid hv9
      have HDR := Lib.hid hdr
      have HY := Lib.hid hy
      clear h9 hK9 hv9 hdr hy hg hx
      by_cases hneg : x < 0
      · have hn0 : decide (x < 0) = true := decide_eq_true hneg
        go_wp2_with fail
        refine (HPR.out _).mono ?_; rintro e w10 ⟨rfl, hB10⟩
        have HU := Lib.hid (runF_pop_bad (k := kB) (nm := spopB) ((H9.out.below hB10).below (lit_below w10 _)) (HT.out.below ((H9.out.below hB10).below (lit_below w10 _)).since) HK9.out (lit_vw w10 [spopB, kB, Lib.itoa x] (by simp)) (by decide) (by decide) HPN.out.1 hneg (by have := HPN.out.2; omega))
        have HV10 := Lib.hid ((HV9.out.below hB10).below (lit_below w10 (.cells ([spopB, kB, Lib.itoa x].map txt).toArray 9)))
        clear hB10 HPR H9 HV9 HK9 hc
        go_wp2_with fail
        refine HU.out.mono ?_; rintro e w11 ⟨a11, k11, l11, rfl, o11, S11, c11, h11, hK11, hs11⟩
        obtain ⟨wA, hwA⟩ : ∃ wA, wA = w11.alloc (.cells #[.int .i64 2, .string ⟨numErr.toArray⟩, .int .i64 0, .slice a11 k11 l11] 29) := ⟨_, rfl⟩
        have hBA : Below w11.heap.size w11 wA := by rw [hwA]; exact lit_below _ _
        have H11 := Lib.hid (h11.below hBA)
        have HK11 := Lib.hid hK11
        have hvA := (HV10.out.keep hs11 (by decide)).below hBA
        have HVA := Lib.hid hvA
        have HSET := Lib.hid hwA
        clear h11 hK11 hs11 hBA hwA HU HV10
        go_wp2_with fail
        try rw [← HSET.out]
        obtain ⟨b2, off2, rfl, hb2, hcap2, hg2⟩ := vw_get HVA.out (by omega)
        have hcw := hg2 t y HY.out
        have HKA := Lib.hid (show Kp o11 wA b2 (off2 + t) (.string ⟨y.toArray⟩) from ⟨cell_lt hcw, hb2, hcw⟩)
        have HR1 := Lib.hid (fun (W2 : World) (hW : Below wA.heap.size wA W2) (hV : Vw (Old W2) W2 (.slice (some ⟨wA.heap.size, 0, none⟩) 2 2) 1 2 ([spopB, kB].map txt)) => runF_pop_one (k := kB) (nm := spopB) (x := y) (L := W.drop (t + 1)) (H11.out.below hW) (by omega) HK11.out (by rw [upd_same]; exact HDR.out) hV (by decide) (by decide) (fun z hz => HSW.out z (List.mem_of_mem_drop hz)) (by simp; omega))
        clear hg2 hcw HC
        go_region_held (fun W2 => W2.cell? ⟨b2, off2 + t, none⟩ = some (.string ⟨y.toArray⟩))
          (first | (refine (HKA.out.below ?_).cell <;> (repeat (first | exact Below.refl _ _ | refine Below.drew ?_ | refine below_drewN ?_ _ | refine Below.alloc ?_ (by first | exact Nat.le_refl _ | simp | (simp; omega)) _)) <;> done) | (refine (HK12.out.below ?_).cell <;> (repeat (first | exact Below.refl _ _ | refine Below.drew ?_ | refine below_drewN ?_ _ | refine Below.alloc ?_ (by first | exact Nat.le_refl _ | simp | (simp; omega)) _)) <;> done) | (refine (HK13.out.below ?_).cell <;> (repeat (first | exact Below.refl _ _ | refine Below.drew ?_ | refine below_drewN ?_ _ | refine Below.alloc ?_ (by first | exact Nat.le_refl _ | simp | (simp; omega)) _)) <;> done)) (first
          | (go_at_call 12
             refine (HR1.out _ ?_ ?_).mono ?_
             · exact (by (repeat (first | exact Below.refl _ _ | refine Below.drew ?_ | refine below_drewN ?_ _ | refine Below.alloc ?_ (by first | exact Nat.le_refl _ | simp | (simp; omega)) _)); done)
             · first | (refine (lit_vw wA [spopB, kB] (by simp)).below ?_ <;> (repeat (first | exact Below.refl _ _ | refine Below.drew ?_ | refine below_drewN ?_ _ | refine Below.alloc ?_ (by first | exact Nat.le_refl _ | simp | (simp; omega)) _)) <;> done) | (refine (lit_vw wA.drew [spopB, kB] (by simp)).below ?_ <;> (repeat (first | exact Below.refl _ _ | refine Below.drew ?_ | refine below_drewN ?_ _ | refine Below.alloc ?_ (by first | exact Nat.le_refl _ | simp | (simp; omega)) _)) <;> done) | (refine (lit_vw wA.drew.drew [spopB, kB] (by simp)).below ?_ <;> (repeat (first | exact Below.refl _ _ | refine Below.drew ?_ | refine below_drewN ?_ _ | refine Below.alloc ?_ (by first | exact Nat.le_refl _ | simp | (simp; omega)) _)) <;> done) | (refine (lit_vw wA.drew.drew.drew [spopB, kB] (by simp)).below ?_ <;> (repeat (first | exact Below.refl _ _ | refine Below.drew ?_ | refine below_drewN ?_ _ | refine Below.alloc ?_ (by first | exact Nat.le_refl _ | simp | (simp; omega)) _)) <;> done)
             rintro e w12 ⟨a12, k12, l12, rfl, o12, S12, c12, h12, hK12, hs12⟩
             have HK12 := Lib.hid ((HKA.out.below (by (repeat (first | exact Below.refl _ _ | refine Below.drew ?_ | refine below_drewN ?_ _ | refine Below.alloc ?_ (by first | exact Nat.le_refl _ | simp | (simp; omega)) _)); done)).keep hs12)
             have HV12 := Lib.hid ((HVA.out.below (by (repeat (first | exact Below.refl _ _ | refine Below.drew ?_ | refine below_drewN ?_ _ | refine Below.alloc ?_ (by first | exact Nat.le_refl _ | simp | (simp; omega)) _)); done)).keep hs12 (by decide))
             have H12 := Lib.hid h12
             have HST12 := Lib.hid (show Sets (upd (fun _ => []) kB (W.drop (t + 1))) S12 from by rw [upd_upd] at hK12; exact hK12)
             clear h12 hK12 hs12 HR1 H11 HVA)
          | (go_at_call 32
             refine (lawbulk_ok _ _ _ _ _ _).mono ?_
             rintro e w13 ⟨rfl, hB13⟩
             have hB : Below w12.heap.size w12 w13 := Below.trans (by (repeat (first | exact Below.refl _ _ | refine Below.drew ?_ | refine below_drewN ?_ _ | refine Below.alloc ?_ (by first | exact Nat.le_refl _ | simp | (simp; omega)) _)); done) hB13
             have HK13 := Lib.hid (HK12.out.below hB)
             have D := Lib.hid (show PpRel w0 p W (.slice (some ⟨b2, off2, none⟩) W.length c6) st.length (.int .i64 ((t + 1 : Nat) : Int)) (.int .i64 ((k + 1 : Nat) : Int)) w13 from
               ⟨k + 1, t + 1, o12, S12, c12, hkl, htl, rfl, rfl, (H12.out.below hB).mono (by omega), HST12.out, HV12.out.below hB⟩)
             clear hB13 hB H12 HV12 HST12))
        all_goals (
          clear HKA HK12 HK13 HK11 HPN HDR HY
          go_wp2_with fail
          go_roundw
          case rel => exact D.out
          case measure => simp [intOf]; omega)
      · have hn0 : decide (x < 0) = false := decide_eq_false hneg
        obtain ⟨j, hj⟩ : ∃ j : Nat, (j : Int) = min x ((W.length : Int) - t) := ⟨(min x ((W.length : Int) - t)).toNat, by omega⟩
        have hmin : min x ((W.length : Int) - t) = (j : Int) := hj.symm
        have hws : IntKind.i64.wrap ((W.length : Int) - (t : Int)) = (W.length : Int) - t := by rw [IntKind.wrap_i64]; omega
        have htj : t + j ≤ W.length := by omega
        have hwa : IntKind.i64.wrap ((t : Int) + (j : Int)) = (t : Int) + j := by rw [IntKind.wrap_i64]; omega
        obtain ⟨Q, hQ⟩ : ∃ Q, Q = (W.drop t).take j := ⟨_, rfl⟩
        have hQl : Q.length = j := by rw [hQ]; simp; omega
        obtain ⟨a7, c7, hcut7, _, _, hv7⟩ := vw_cut HV9.out t (t + j) (by omega) htj
        have hcutw : ∀ W2, (Instr.slice 22 (.slice a6 W.length c6) (some (.int .i64 (t : Int))) (some (.int .i64 ((t : Int) + (j : Int)))) none).run Tryz.prog W2 = .ok (.slice a7 Q.length c7) W2 := fun W2 => by
          have := hcut7 W2
          rw [Nat.add_sub_cancel_left, Int.natCast_add] at this
          rw [hQl]; exact this
        rw [Nat.add_sub_cancel_left] at hv7
        have hQm : ((W.map txt).drop t).take j = Q.map txt := by rw [hQ, List.map_take, List.map_drop]
        rw [hQm, ← hQl] at hv7
        clear hcut7
        have HV7 := Lib.hid hv7
        have HQ := Lib.hid (And.intro hQ hQl)
        have HMI := Lib.hid (show (j : Int) = min x ((W.drop t).length : Int) from by rw [hj, List.length_drop]; omega)
        clear hj hv7 hQ hQm hQl
        have H9B := Lib.hid (fun (W2 : World) (hW : Below wr.heap.size wr W2) => cell_below hW hc)
        go_wp2_with fail
        go_region_held (fun W2 => W2.cell? ⟨b, off + k, none⟩ = some (.int .i64 x))
          (first | (refine H9B.out _ ?_ <;> (repeat (first | exact Below.refl _ _ | refine Below.drew ?_ | refine below_drewN ?_ _ | refine Below.alloc ?_ (by first | exact Nat.le_refl _ | simp | (simp; omega)) _)) <;> done) | (refine H10B.out _ ?_ <;> (repeat (first | exact Below.refl _ _ | refine Below.drew ?_ | refine below_drewN ?_ _ | refine Below.alloc ?_ (by first | exact Nat.le_refl _ | simp | (simp; omega)) _)) <;> done) | (refine H11B.out _ ?_ <;> (repeat (first | exact Below.refl _ _ | refine Below.drew ?_ | refine below_drewN ?_ _ | refine Below.alloc ?_ (by first | exact Nat.le_refl _ | simp | (simp; omega)) _)) <;> done) | (refine H12B.out _ ?_ <;> (repeat (first | exact Below.refl _ _ | refine Below.drew ?_ | refine below_drewN ?_ _ | refine Below.alloc ?_ (by first | exact Nat.le_refl _ | simp | (simp; omega)) _)) <;> done)) (first
          | (go_at_call 22
             refine (HPR.out _).mono ?_
             rintro e w10 ⟨rfl, hB10⟩
             have hB : Below wr.heap.size wr w10 := Below.trans (by (repeat (first | exact Below.refl _ _ | refine Below.drew ?_ | refine below_drewN ?_ _ | refine Below.alloc ?_ (by first | exact Nat.le_refl _ | simp | (simp; omega)) _)); done) hB10
             have hc10 := H9B.out _ hB
             have H10B := Lib.hid (fun (W2 : World) (hW : Below w10.heap.size w10 W2) => cell_below hW hc10)
             have HV10 := Lib.hid (HV9.out.below hB)
             have HV7A := Lib.hid (HV7.out.below hB)
             have HR1 := Lib.hid (fun (W2 : World) (hW : Below w10.heap.size w10 W2) (hV : Vw (Old W2) W2 (.slice (some ⟨w10.heap.size, 0, none⟩) 3 3) 1 3 ([spopB, kB, Lib.itoa x].map txt)) => runF_pop_n (k := kB) (nm := spopB) (L := W.drop t) (j := j) ((H9.out.below hB).below hW) (by omega) (HT.out.below ((H9.out.below hB).below hW).since) HK9.out hV (by decide) (by decide) HPN.out.1 (by omega) (by have := HPN.out.2; omega) (upd_same _ _ _) (fun z hz => HSW.out z (List.mem_of_mem_drop hz)) (by simp; omega) HMI.out)
             rw [← HQ.out.1] at HR1
             clear hc10 hB hB10 HPR H9 HV9 HV7)
          | (go_at_call 12
             refine (HR1.out _ ?_ ?_).mono ?_
             · exact (by (repeat (first | exact Below.refl _ _ | refine Below.drew ?_ | refine below_drewN ?_ _ | refine Below.alloc ?_ (by first | exact Nat.le_refl _ | simp | (simp; omega)) _)); done)
             · first | (refine (lit_vw w10 [spopB, kB, Lib.itoa x] (by simp)).below ?_ <;> (repeat (first | exact Below.refl _ _ | refine Below.drew ?_ | refine below_drewN ?_ _ | refine Below.alloc ?_ (by first | exact Nat.le_refl _ | simp | (simp; omega)) _)) <;> done) | (refine (lit_vw w10.drew [spopB, kB, Lib.itoa x] (by simp)).below ?_ <;> (repeat (first | exact Below.refl _ _ | refine Below.drew ?_ | refine below_drewN ?_ _ | refine Below.alloc ?_ (by first | exact Nat.le_refl _ | simp | (simp; omega)) _)) <;> done) | (refine (lit_vw w10.drew.drew [spopB, kB, Lib.itoa x] (by simp)).below ?_ <;> (repeat (first | exact Below.refl _ _ | refine Below.drew ?_ | refine below_drewN ?_ _ | refine Below.alloc ?_ (by first | exact Nat.le_refl _ | simp | (simp; omega)) _)) <;> done) | (refine (lit_vw w10.drew.drew.drew [spopB, kB, Lib.itoa x] (by simp)).below ?_ <;> (repeat (first | exact Below.refl _ _ | refine Below.drew ?_ | refine below_drewN ?_ _ | refine Below.alloc ?_ (by first | exact Nat.le_refl _ | simp | (simp; omega)) _)) <;> done)
             rintro e w11 ⟨a11, l11, rfl, hv11, o11, S11, c11, h11, hK11, hs11⟩
             have hc11 := h11.cell HC.out
             have H11B := Lib.hid (fun (W2 : World) (hW : Below w11.heap.size w11 W2) => cell_below hW hc11)
             have HV11 := Lib.hid ((HV10.out.below (by (repeat (first | exact Below.refl _ _ | refine Below.drew ?_ | refine below_drewN ?_ _ | refine Below.alloc ?_ (by first | exact Nat.le_refl _ | simp | (simp; omega)) _)); done)).keep hs11 (by decide))
             have HV7B := Lib.hid ((HV7A.out.below (by (repeat (first | exact Below.refl _ _ | refine Below.drew ?_ | refine below_drewN ?_ _ | refine Below.alloc ?_ (by first | exact Nat.le_refl _ | simp | (simp; omega)) _)); done)).keep hs11 (by decide))
             have H11 := Lib.hid h11
             have HST11 := Lib.hid (show Sets (upd (fun _ => []) kB (W.drop (t + j))) S11 from by rw [upd_upd, List.drop_drop] at hK11; exact hK11)
             have HBK := Lib.hid (fun (W2 : World) (hW : Below w11.heap.size w11 W2) => lawbulks_ok (l := Q) (hv11.below hW) (HV7B.out.below hW) (by have := HQ.out.2; omega))
             clear hc11 hv11 h11 hK11 hs11 HR1 HV10 HV7A)
          | (go_at_call 17
             refine (HBK.out _ ?_).mono ?_
             · exact (by (repeat (first | exact Below.refl _ _ | refine Below.drew ?_ | refine below_drewN ?_ _ | refine Below.alloc ?_ (by first | exact Nat.le_refl _ | simp | (simp; omega)) _)); done)
             rintro e w12 ⟨rfl, hB12⟩
             have hB : Below w11.heap.size w11 w12 := Below.trans (by (repeat (first | exact Below.refl _ _ | refine Below.drew ?_ | refine below_drewN ?_ _ | refine Below.alloc ?_ (by first | exact Nat.le_refl _ | simp | (simp; omega)) _)); done) hB12
             have hc12 := H11B.out _ hB
             have H12B := Lib.hid (fun (W2 : World) (hW : Below w12.heap.size w12 W2) => cell_below hW hc12)
             have D := Lib.hid (show PpRel w0 p W (.slice a6 W.length c6) st.length (.int .i64 ((t + j : Nat) : Int)) (.int .i64 ((k + 1 : Nat) : Int)) w12 from
               ⟨k + 1, t + j, o11, S11, c11, hkl, htj, rfl, rfl, (H11.out.below hB).mono (by omega), HST11.out, HV11.out.below hB⟩)
             clear hc12 hB12 hB H11 HV11 HST11 HBK HV7B))
        all_goals (
          clear H9B H10B H11B H12B HPN HDR HY HK9 HQ HMI HC
          go_wp2_with fail
          go_roundw
          case rel => exact D.out
          case measure => simp [intOf]; omega)
    · have hcs : ¬ (k : Int) < (st.length : Int) ∨ ((k : Int) < (st.length : Int) ∧ ¬ (t : Int) < (W.length : Int)) := by
        by_cases h : k < st.length
        · exact .inr ⟨by omega, by have := fun h2 => hb ⟨h, h2⟩; omega⟩
        · exact .inl (by omega)
      obtain ⟨Q, hQ⟩ : ∃ Q, Q = W.drop t := ⟨_, rfl⟩
      have hQl : Q.length = W.length - t := by rw [hQ]; simp
      obtain ⟨a7, c7, _, hcut7, _, hv7⟩ := vw_cut hv9 t W.length ht (Nat.le_refl _)
      have hcut7 := hcut7 rfl
      have hQm : ((W.map txt).drop t).take (W.length - t) = Q.map txt := by rw [List.take_of_length_le (by simp), hQ, List.map_drop]
      rw [hQm, ← hQl] at hv7
      rw [← hQl] at hcut7
      rw [← hQ] at hK9
      obtain ⟨bq, hbq⟩ : ∃ bq, ((t : Int) == (W.length : Int)) = bq := ⟨_, rfl⟩
      have hQb : Q.isEmpty = bq := by
        rw [← hbq]
        cases hQe : Q with
        | nil => rw [hQe] at hQl; simp at hQl; symm; simp; omega
        | cons z zs => rw [hQe] at hQl; simp at hQl; symm; simp; omega
      have HQL := Lib.hid hQl
      have H9 := Lib.hid h9
      have HK9 := Lib.hid hK9
      have HV7 := Lib.hid hv7
      have HQB := Lib.hid hQb
      have HR1 := Lib.hid (fun (W2 : World) (hW : Below wr.heap.size wr W2) (hV : Vw (Old W2) W2 (.slice (some ⟨wr.heap.size, 0, none⟩) 2 2) 1 2 ([smembersB, kB].map txt)) => show Calls Tryz.prog 12 #[.pointer (some ⟨p, 0, none⟩), .slice (some ⟨wr.heap.size, 0, none⟩) 2 2] W2 (BksF o9 w0 W2 p (8 + 4 * k) Q (Sets (upd (fun _ => []) kB Q))) from (by have := runF_members (k := kB) (nm := smembersB) (h9.below hW) HK9.out hV (by decide) (by decide) (by rw [upd_same]; omega); rw [upd_same] at this; exact this))
      clear hb h9 hK9 hv9 hv7 hQ hQm hQl hQb
      rcases hcs with hkl | ⟨hkl, htl⟩
      all_goals (
        go_wp2_with fail
        go_region_held (fun _ => True) (trivial) (first
        | (go_at_call 12
           refine (HR1.out _ ?_ ?_).mono ?_
           · exact (by (repeat (first | exact Below.refl _ _ | refine Below.drew ?_ | refine below_drewN ?_ _ | refine Below.alloc ?_ (by first | exact Nat.le_refl _ | simp | (simp; omega)) _)); done)
           · first | (refine (lit_vw wr [smembersB, kB] (by simp)).below ?_ <;> (repeat (first | exact Below.refl _ _ | refine Below.drew ?_ | refine below_drewN ?_ _ | refine Below.alloc ?_ (by first | exact Nat.le_refl _ | simp | (simp; omega)) _)) <;> done) | (refine (lit_vw wr.drew [smembersB, kB] (by simp)).below ?_ <;> (repeat (first | exact Below.refl _ _ | refine Below.drew ?_ | refine below_drewN ?_ _ | refine Below.alloc ?_ (by first | exact Nat.le_refl _ | simp | (simp; omega)) _)) <;> done) | (refine (lit_vw wr.drew.drew [smembersB, kB] (by simp)).below ?_ <;> (repeat (first | exact Below.refl _ _ | refine Below.drew ?_ | refine below_drewN ?_ _ | refine Below.alloc ?_ (by first | exact Nat.le_refl _ | simp | (simp; omega)) _)) <;> done) | (refine (lit_vw wr.drew.drew.drew [smembersB, kB] (by simp)).below ?_ <;> (repeat (first | exact Below.refl _ _ | refine Below.drew ?_ | refine below_drewN ?_ _ | refine Below.alloc ?_ (by first | exact Nat.le_refl _ | simp | (simp; omega)) _)) <;> done)
           rintro e w11 ⟨a11, l11, rfl, hv11, o11, S11, c11, h11, hK11, hs11⟩
           have HV7B := Lib.hid ((HV7.out.below (by (repeat (first | exact Below.refl _ _ | refine Below.drew ?_ | refine below_drewN ?_ _ | refine Below.alloc ?_ (by first | exact Nat.le_refl _ | simp | (simp; omega)) _)); done)).keep hs11 (by decide))
           have H11 := Lib.hid h11
           have HK11 := Lib.hid hK11
           have HBK := Lib.hid (fun (W2 : World) (hW : Below w11.heap.size w11 W2) => lawbulks_ok (l := Q) (hv11.below hW) (HV7B.out.below hW) (by have := HQL.out; omega))
           clear hv11 h11 hK11 hs11 HR1 HV7 H9)
        | (go_at_call 17
           refine (HBK.out _ ?_).mono ?_
           · exact (by (repeat (first | exact Below.refl _ _ | refine Below.drew ?_ | refine below_drewN ?_ _ | refine Below.alloc ?_ (by first | exact Nat.le_refl _ | simp | (simp; omega)) _)); done)
           rintro e w12 ⟨rfl, hB12⟩
           have hB : Below w11.heap.size w11 w12 := Below.trans (by (repeat (first | exact Below.refl _ _ | refine Below.drew ?_ | refine below_drewN ?_ _ | refine Below.alloc ?_ (by first | exact Nat.le_refl _ | simp | (simp; omega)) _)); done) hB12
           obtain ⟨LK, hLKe⟩ : ∃ LK : List Tx, LK = (if bq then [] else [kB]) := ⟨_, rfl⟩
           have hLA : Asc LK := by rw [hLKe]; cases bq <;> simp [Asc]
           have he : (((LK.length : Nat) : Int) == 0) = bq := by rw [hLKe]; cases bq <;> rfl
           have hLM : ∀ z : Tx, z ∈ LK ↔ (S11.at 0 z).isSome = true := fun z => by
             rw [hLKe]
             rw [((HK11.out z).1.at 0).2.2.2]
             by_cases hz : z = kB
             · subst hz
               rw [upd_same, HQB.out]
               cases bq <;> simp
             · rw [upd_far hz]
               cases bq <;> simp [hz]
           have hLK : ∀ z : Tx, S11 z ≠ none → z ∈ [kB] := fun z hz => by
             by_cases hk : z = kB
             · simp [hk]
             · rcases (HK11.out z).1 with ⟨_, h⟩ | ⟨h, _⟩
               · exact absurd h hz
               · rw [upd_far hk] at h; exact absurd rfl h
           have H12 := Lib.hid (H11.out.below hB)
           have HLE := Lib.hid (fun (W2 : World) (hW : Below w12.heap.size w12 W2) => jlen_is (H12.out.below hW).sp hLK (by decide) hLA hLM)
           clear hB12 hB hLA hLM hLK hLKe HBK H11 HV7B)
        | (go_at_call 31
           refine (HLE.out _ ?_).mono ?_
           · exact (by (repeat (first | exact Below.refl _ _ | refine Below.drew ?_ | refine below_drewN ?_ _ | refine Below.alloc ?_ (by first | exact Nat.le_refl _ | simp | (simp; omega)) _)); done)
           rintro e w13 ⟨rfl, hB13⟩
           have HB := Lib.hid (H12.out.below (Below.trans (by (repeat (first | exact Below.refl _ _ | refine Below.drew ?_ | refine below_drewN ?_ _ | refine Below.alloc ?_ (by first | exact Nat.le_refl _ | simp | (simp; omega)) _)); done) hB13)).since
           clear hB13 H12 HLE))
        all_goals (
          go_wp2_with fail
          go_ret
          exact ⟨by simp, HB.out⟩))
theorem pops_con (w0 : World) (hT : Tbl w0) (l : List (List UInt8)) (va : Value) (ha : Vw (Old w0) w0 va 1 l.length (l.map txt)) (hsl : ∀ x ∈ l, x.length ≤ 1048576) (hll : l.length ≤ 1048576)
    (st : List Int) (vb : Value) (hb : Vw (Old w0) w0 vb 1 st.length (st.map (Value.int .i64))) (hr : ∀ n ∈ st, -9223372036854775808 ≤ n ∧ n ≤ 9223372036854775807) (hsn : st.length ≤ 1048576) :
    Calls Tryz.prog 8 #[va, vb] w0 fun e w' => e = .returned (.bool true) ∧ Below w0.heap.size w0 w' := pops_law hT ha hb hr hsl hll hsn
end Go.Proofs.YtoganolkgmilaaaGreatDoor
