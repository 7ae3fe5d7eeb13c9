import Derived.Test.YthojmgjgmbnopaaGreatDoorCu
import Derived.Deep.RegionHeld
namespace Go.Proofs.YthojmgjgmbnopaaGreatDoor
open Go Go.RowKit
/-! StrcmdCounts. -/
theorem vw_at {A : Nat → Prop} {w : World} {a : Option Addr} {n cap : Nat} {xs : List Value} (h : Vw A w (.slice a n cap) 1 n xs) (hn : 0 < n) : ∃ b off, a = some ⟨b, off, none⟩ ∧ A b ∧ n ≤ cap ∧ ∀ (k : Nat) u, xs[k]? = some u → w.cell? ⟨b, off + k, none⟩ = some u := by
  obtain ⟨⟨a', c', e, g1, g2, g3⟩, g4⟩ := h
  injection e with e1 e2 e3
  subst e1 e3
  rcases g3 with g3 | ⟨b, off, rfl, g5, g6, g7⟩
  · omega
  · exact ⟨b, off, rfl, g6, g1, g7⟩
def CtRel (w0 : World) (p L : Nat) (nv i : Value) (wr : World) : Prop :=
  ∃ (k : Nat) (n : Int) (o : Roles) (S : SP) (c : Cnt), k ≤ L ∧ nv = .int .i64 n ∧ i = .int .i64 (k : Int) ∧ InR n ∧ At w0 o wr p S c (1 + 6 * k) ∧ NumAt S n
set_option maxRecDepth 10000 in
set_option maxHeartbeats 20000000 in
theorem counts_law {w0 : World} (hT : Tbl w0) {vs : Value} {start : Int} {st : List Int} (hs0 : InR start) (hst : Vw (Old w0) w0 vs 1 st.length (st.map (Value.int .i64)))
    (hr : ∀ n ∈ st, InR n) (hsn : st.length ≤ 1048576) :
    Calls Tryz.prog 4 #[.int .i64 start, vs] w0 fun e w' => e = .returned (.bool true) ∧ Below w0.heap.size w0 w' := by
  obtain ⟨ast, cst, rfl, _⟩ := id hst.slice
  have HST := Lib.hid hst
  have HRN := Lib.hid hr
  have HT := Lib.hid hT
  have HP0 := Lib.hid (print_ok w0 hs0)
  have HIL := Lib.hid (itoa_len hs0)
  clear hst hr hT
  go_enter Tryz.func4, Tryz.ntmps4
  go_wp2_with fail
  refine HP0.out.mono ?_; rintro e w1 ⟨rfl, hB1⟩
  have hsa : StartAt (w1.alloc (.cells #[.string ⟨#[110]⟩, .int .i64 1, .string ⟨(Lib.itoa start).toArray⟩, .slice none 0 0, .slice none 0 0, .slice none 0 0, .int .i64 9] 45)) w1.heap.size nB (Lib.itoa start) 9 := by
    refine ⟨?_, ?_, ?_, ?_, ?_, ?_, ?_⟩ <;> · unfold World.cell?; rw [heap_alloc_new]; rfl
  have HBG := Lib.hid (begun_ok hsa (by decide) (by have := HIL.out; omega))
  have HB1 := Lib.hid (hB1.trans ((lit_below0 w1 (.cells #[.string ⟨#[110]⟩, .int .i64 1, .string ⟨(Lib.itoa start).toArray⟩, .slice none 0 0, .slice none 0 0, .slice none 0 0, .int .i64 9] 45)).mono hB1.size))
  clear hsa hB1 HP0
  go_wp2_with fail
  refine HBG.out.mono ?_; rintro e w2 ⟨p, x, o2, rfl, hj, hs⟩
  have h2 : At w0 o2 w2 p (oneS nB (Lib.itoa start) 9) ⟨1, 1⟩ 1 := ⟨hj, (Stp.ofBelow [1] none0 HB1.out).trans hs, Nat.le_refl _, Nat.le_refl _⟩
  have H2 := Lib.hid h2
  clear hj hs h2 HB1 HBG
  go_wp2_with fail
  refine (awake_ok (HT.out.below H2.out.since)).mono ?_; rintro e w3 ⟨rfl, hB3⟩
  have hat : CtRel w0 p st.length (.int .i64 start) (.int .i64 0) w3 := ⟨0, start, o2, _, _, Nat.zero_le _, rfl, rfl, hs0, H2.out.below hB3, 1, if_pos rfl⟩
  have HAT := Lib.hid hat
  clear hB3 H2 hat
  go_wp2_with fail
  go_loopw [7, 8] (fun a i wr => CtRel w0 p st.length a i wr) (fun _ i _ => st.length - (intOf i).toNat)
  case atStart => exact HAT.out
  case round =>
    obtain ⟨k, n, o9, S9, c9, hk, rfl, rfl, hn, h9, hS9⟩ := hrel
    clear HAT
    by_cases hkl : k < st.length
    · obtain ⟨y, hy⟩ : ∃ y, st[k]? = some y := ⟨_, List.getElem?_eq_getElem hkl⟩
      obtain ⟨b, off, rfl, hbl, hcap, hg⟩ := vw_at HST.out (by omega)
      have HC := Lib.hid (hg k (.int .i64 y) (by rw [List.getElem?_map, hy]; rfl))
      have hc := h9.cell HC.out
      have hyr := HRN.out y (List.mem_of_getElem? hy)
      have hkI : (0 : Int) ≤ k ∧ (k : Int) < st.length := by omega
      have HPR := Lib.hid (fun W => print_ok W hyr)
      have H9 := Lib.hid h9
      have HS9 := Lib.hid hS9
      have hadd := radd_ok wr hn hyr
      unfold SumDid at hadd
      have HR9 := Lib.hid (And.intro hn hyr)
      clear h9 hS9 hg hy
      by_cases hb : inR (n + y) = true
      · simp only [hb, if_true] at hadd
        have HADD := Lib.hid hadd
        have HB := Lib.hid hb
        clear hadd hb
        go_wp2_with fail
        refine HADD.out.mono ?_; rintro e w10 ⟨rfl, rfl⟩
        go_wp2_with fail
        refine (HPR.out _).mono ?_; rintro e w11 ⟨rfl, hB11⟩
        have HRUN := Lib.hid (run_by_in (H9.out.below hB11) HT.out HS9.out HR9.out.1 HR9.out.2 false (by simp) (by omega) (s := n + y) (by simp) HB.out)
        clear hB11 hc HADD H9 HS9
        go_wp2_with fail
        refine HRUN.out.mono ?_; rintro e w12 ⟨v12, rfl, hv12, o12, S12, c12, h12, hK12, _⟩
        obtain ⟨a12, l12, rfl, _⟩ := id hv12.slice
        have H12 := Lib.hid h12
        have HK12 := Lib.hid hK12
        clear hv12 h12 hK12 HRUN
        simp only [Rf.rp]
        go_wp2_with fail
        refine (lawnumber_ok _ _ _ _ _ _).mono ?_; rintro e w13 ⟨rfl, hB13⟩
        have h13 := H12.out.below ((lit_below0 w12 _).trans (hB13.mono (by simp)))
        have hc := h13.cell HC.out
        have H13 := Lib.hid h13
        clear hB13 H12 h13
        by_cases hl : y = -9223372036854775808
        · have hl0 : (y != -9223372036854775808) = false := by simp [hl]
          have D := Lib.hid (show CtRel w0 p st.length (.int .i64 (n + y)) (.int .i64 ((k + 1 : Nat) : Int)) w13 from ⟨k + 1, n + y, o12, S12, c12, hkl, rfl, rfl, inR_true HB.out, H13.out.mono (by omega), HK12.out⟩)
          clear H13 HK12 hl
          go_wp2_with fail
          go_roundw
          case rel => exact D.out
          case measure => simp [intOf]; omega
        · have hl0 : (y != -9223372036854775808) = true := by simp [hl]
          have HL := Lib.hid hl
          clear hl
          go_wp2_with fail
          refine (HPR.out _).mono ?_; rintro e w14 ⟨rfl, hB14⟩
          have HRUN := Lib.hid (run_by_in (H13.out.below hB14) HT.out HK12.out (inR_true HB.out) HR9.out.2 true (fun _ => HL.out) (by omega) (s := n) (by rw [if_pos rfl]; omega) (by unfold inR; have := HR9.out.1; simp; exact this))
          clear hB14 hc H13 HK12
          go_wp2_with fail
          refine HRUN.out.mono ?_; rintro e w15 ⟨v15, rfl, hv15, o15, S15, c15, h15, hK15, _⟩
          obtain ⟨a15, l15, rfl, _⟩ := id hv15.slice
          have H15 := Lib.hid h15
          have HK15 := Lib.hid hK15
          clear hv15 h15 hK15 HRUN
          simp only [Rf.rp]
          go_wp2_with fail
          refine (lawnumber_ok _ _ _ _ _ _).mono ?_; rintro e w16 ⟨rfl, hB16⟩
          have h16 := H15.out.below ((lit_below0 w15 _).trans (hB16.mono (by simp)))
          have hc := h16.cell HC.out
          have H16 := Lib.hid h16
          clear hB16 H15 h16
          go_wp2_with fail
          refine (HPR.out _).mono ?_; rintro e w17 ⟨rfl, hB17⟩
          have HRUN := Lib.hid (run_by_in (H16.out.below hB17) HT.out HK15.out HR9.out.1 HR9.out.2 false (by simp) (by omega) (s := n + y) (by simp) HB.out)
          clear hB17 hc H16 HK15
          go_wp2_with fail
          refine HRUN.out.mono ?_; rintro e w18 ⟨v18, rfl, hv18, o18, S18, c18, h18, hK18, _⟩
          obtain ⟨a18, l18, rfl, _⟩ := id hv18.slice
          have D := Lib.hid (show CtRel w0 p st.length (.int .i64 (n + y)) (.int .i64 ((k + 1 : Nat) : Int)) w18 from ⟨k + 1, n + y, o18, S18, c18, hkl, rfl, rfl, inR_true HB.out, h18.mono (by omega), hK18⟩)
          clear hv18 h18 hK18 HRUN
          simp only [Rf.rp]
          go_wp2_with fail
          go_roundw
          case rel => exact D.out
          case measure => simp [intOf]; omega
      · have hb : inR (n + y) = false := by simpa using hb
        simp only [hb, Bool.false_eq_true, if_false] at hadd
        have HADD := Lib.hid hadd
        have HB := Lib.hid hb
        clear hadd hb
        go_wp2_with fail
        refine HADD.out.mono ?_; rintro e w10 ⟨rfl, rfl⟩
        go_wp2_with fail
        refine (HPR.out _).mono ?_; rintro e w11 ⟨rfl, hB11⟩
        have HRUN := Lib.hid (run_by_out (H9.out.below hB11) HT.out HS9.out HR9.out.1 HR9.out.2 (by omega) HB.out)
        clear hB11 hc HADD H9 HS9
        go_wp2_with fail
        refine HRUN.out.mono ?_; rintro e w12 ⟨v12, rfl, hv12, o12, S12, c12, h12, hK12, _⟩
        obtain ⟨a12, l12, rfl, _⟩ := id hv12.slice
        have D := Lib.hid (fun x => (show CtRel w0 p st.length (.int .i64 n) (.int .i64 ((k + 1 : Nat) : Int)) (w12.alloc x) from ⟨k + 1, n, o12, S12, c12, hkl, rfl, rfl, HR9.out.1, (h12.below (lit_below0 w12 x)).mono (by omega), hK12⟩))
        clear hv12 h12 hK12 HRUN
        simp only [Rf.rp]
        go_wp2_with fail
        go_roundw
        case rel => exact D.out _
        case measure => simp [intOf]; omega
    · obtain rfl : k = st.length := by omega
      obtain ⟨HH, e1, e2, e3⟩ := hS9.at
      have hget := jget_ok h9.sp nB 5
      rw [e1] at hget
      simp only [Option.getD_some, Option.isSome_some, e2] at hget
      have hdue := fun (W : World) (hW : Below wr.heap.size wr W) => jdue_ok (h9.below hW).sp nB 5
      unfold DueDid at hdue
      rw [e1] at hdue
      simp only [Option.getD_some, Option.isSome_some, e3] at hdue
      have HGET := Lib.hid hget
      have HDUE := Lib.hid hdue
      have HPN := Lib.hid (fun W => print_ok W hn)
      have H9 := Lib.hid h9
      unfold txt at HGET HDUE
      clear hget hdue h9 hS9 e1 e2 e3 hkl hk
      go_wp2_with fail
      refine HGET.out.mono ?_; rintro e w2 ⟨l, f, r, rfl, hv, hB2⟩
      obtain ⟨b1, d1, rfl, _⟩ := id hv.list.slice
      obtain ⟨b2, d2, rfl, _⟩ := id hv.fields.slice
      obtain ⟨b3, d3, rfl, _⟩ := id hv.ranked.slice
      have hB3 := hB2.trans ((lit_below0 w2 (.cells #[.int .i64 1, .string ⟨(Lib.itoa n).toArray⟩, .slice b1 0 d1, .slice b2 0 d2, .slice b3 0 d3] 43)).mono hB2.size)
      have HDU := Lib.hid (HDUE.out _ hB3)
      have HVB := Lib.hid (show Blk none0 (w2.alloc (.cells #[.int .i64 1, .string ⟨(Lib.itoa n).toArray⟩, .slice b1 0 d1, .slice b2 0 d2, .slice b3 0 d3] 43)) [] w2.heap.size #[.int .i64 1, .string ⟨(Lib.itoa n).toArray⟩, .slice b1 0 d1, .slice b2 0 d2, .slice b3 0 d3] 43 from ⟨heap_alloc_new _ _, rfl⟩)
      have H3 := Lib.hid (H9.out.below hB3)
      clear hv hB2 hB3 HGET HDUE H9
      go_wp2_with fail
      refine HDU.out.mono ?_; rintro e w4 ⟨rfl, hB4⟩
      have hvb := HVB.out.below hB4
      have HV4 := Lib.hid hvb
      have H4 := Lib.hid (H3.out.below hB4)
      clear hB4 hvb HVB HDU H3
      go_wp2_with fail
      go_region_held (fun W => W.cell? ⟨w2.heap.size, 1, none⟩ = some (.string ⟨(Lib.itoa n).toArray⟩))
        (first | (refine (HV4.out.below ?_).cell 1 <;> (repeat (first | exact Below.refl _ _ | refine Below.drew ?_ | refine below_drewN ?_ _)) <;> done) | (refine (HV5.out.below ?_).cell 1 <;> (repeat (first | exact Below.refl _ _ | refine Below.drew ?_ | refine below_drewN ?_ _)) <;> done)) (first
        | (go_at_call 21
           (with_reducible refine (HPN.out _).mono ?_)
           rintro e w5 ⟨rfl, hB5⟩
           have hB05 : Below w4.heap.size w4 w5 := Below.trans (by repeat (first | exact Below.refl _ _ | refine Below.drew ?_ | refine below_drewN ?_ _)) hB5
           have HV5 := Lib.hid (HV4.out.below hB05)
           have HBB := Lib.hid (H4.out.below hB05).since
           clear hB5 hB05))
      all_goals (
        clear HV4 H4 HPN HV5
        go_wp2_with fail
        go_ret
        exact ⟨rfl, HBB.out⟩)
theorem counts_con (w0 : World) (hT : Tbl w0) (n : Int) (hn : InR n) (zs : List Int) (v : Value) (T : Vw (Old w0) w0 v 1 zs.length (zs.map (Value.int .i64))) (rg : ∀ n ∈ zs, InR n) (hl : zs.length ≤ 1048576) :
    Calls Tryz.prog 4 #[.int .i64 n, v] w0 fun e w' => e = .returned (.bool true) ∧ Below w0.heap.size w0 w' := counts_law hT hn T rg hl
end Go.Proofs.YthojmgjgmbnopaaGreatDoor
