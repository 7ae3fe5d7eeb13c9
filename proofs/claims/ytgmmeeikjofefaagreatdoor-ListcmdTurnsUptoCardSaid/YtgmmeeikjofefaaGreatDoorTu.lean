import Derived.Test.YtgmmeeikjofefaaGreatDoorAw
import Derived.Test.YtgmmeeikjofefaaGreatDoorPw
namespace Go.Proofs.YtgmmeeikjofefaaGreatDoor
open Go Go.RowKit
/-! ListcmdTurns. -/
def TuRel (w0 : World) (p : Nat) (l : List (List UInt8)) (right : Bool) (i : Value) (wr : World) : Prop :=
  ∃ k o S c, k ≤ l.length ∧ i = .int .i64 ((k : Nat) : Int) ∧ At w0 o wr p S c (2 * k + 2) ∧ KeyIs S kB (turnL right l k)
set_option maxRecDepth 10000 in
set_option maxHeartbeats 20000000 in
theorem turns_none {w0 : World} (hT : Tbl w0) (a : Option Addr) (cap : Nat) (right : Bool) :
    Calls Tryz.prog 4 #[.slice a 0 cap, .bool right] w0 fun e w' => e = .returned (.bool true) ∧ Below w0.heap.size w0 w' := by
  have HN := Lib.hid (jnew_ok none0 w0 [1])
  have HT := Lib.hid hT
  clear hT
  go_enter Tryz.func4, Tryz.ntmps4
  go_wp2_with fail
  refine HN.out.mono ?_; rintro e w1 ⟨p, o1, rfl, hj, hs⟩
  have HAW := Lib.hid (awake_ok (HT.out.below hs.below0))
  have HB1 := Lib.hid hs.below0
  clear hj hs HN
  go_wp2_with fail
  refine HAW.out.mono ?_; rintro e w2 ⟨rfl, hB2⟩
  have hB02 := HB1.out.trans (hB2.mono HB1.out.size)
  have HAW2 := Lib.hid (awake_ok (HT.out.below hB02))
  have HB2 := Lib.hid hB02
  clear hB2 hB02 HAW
  go_wp2_with fail
  refine HAW2.out.mono ?_; rintro e w3 ⟨rfl, hB3⟩
  have HB3 := Lib.hid (HB2.out.trans (hB3.mono HB2.out.size))
  clear hB3 HAW2
  go_wp2_with fail
  go_ret
  exact ⟨rfl, HB3.out⟩
set_option maxRecDepth 10000 in
set_option maxHeartbeats 20000000 in
theorem turns_law {w0 : World} (hT : Tbl w0) {va : Value} {l : List (List UInt8)} (ha : Vw (Old w0) w0 va 1 l.length (l.map txt)) (right : Bool) (hsl : ∀ x ∈ l, x.length ≤ 1048576) (hll : l.length ≤ 1048576) :
    Calls Tryz.prog 4 #[va, .bool right] w0 fun e w' => e = .returned (.bool true) ∧ Below w0.heap.size w0 w' := by
  obtain ⟨aa, ca, rfl, _⟩ := id ha.slice
  by_cases hl0 : l = []
  · subst hl0
    exact turns_none hT aa ca right
  have hl1 : 0 < l.length := List.length_pos_iff.2 hl0
  have e0 : ((l.length : Int) == 0) = false := beq_eq_false_iff_ne.2 (by omega)
  have HN := Lib.hid (jnew_ok none0 w0 [1])
  have HT := Lib.hid hT
  have HA := Lib.hid ha
  have HSL := Lib.hid hsl
  have HL0 := Lib.hid hl0
  obtain ⟨i0, hi0, hz0, hz1, hz2⟩ := info_parts infoS
  clear hT ha hsl hl0
  go_enter Tryz.func4, Tryz.ntmps4
  go_wp2_with fail
  refine HN.out.mono ?_; rintro e w1 ⟨p, o1, rfl, hj, hs⟩
  have h1 : At w0 o1 w1 p (fun _ => none) ⟨0, 0⟩ 0 := ⟨hj, hs, Nat.le_refl _⟩
  have HAW := Lib.hid (awake_ok (HT.out.below hs.below0))
  have H1 := Lib.hid h1
  clear hj hs h1 HN
  go_wp2_with fail
  refine HAW.out.mono ?_; rintro e w2 ⟨rfl, hB2⟩
  have H2 := Lib.hid (H1.out.below hB2)
  clear hB2 HAW H1
  go_wp2_with fail
  refine (lawshort_ok (H2.out.vw HA.out) HSL.out (by omega)).mono ?_
  rintro e w3 ⟨rfl, rfl⟩
  have HROW := Lib.hid (Row.lit o1 w3 [9] 9 [txt rpushB, txt kB] (by decide))
  have HSRC := Lib.hid (((H2.out.vw HA.out).below (lit_below w3 (.cells [txt rpushB, txt kB].toArray 9))).src (P := Tryz.prog) Tryz.underlying22 (one_list l))
  go_wp2_with (
    at_builtin
    refine wpList_app _ rfl _ _ 22 22 rfl 9 i0 _ 1 16 Tryz.underlying22 hi0 hz0 hz1 hz2 rfl rfl HROW.out rfl HSRC.out (by unfold maxLen; simp; omega) (by simp; omega) ?_
    intro v' w4 o4 hrow hst
    obtain ⟨a4, c4, rfl, _⟩ := id hrow.slice
    have H4 := Lib.hid (H2.out.app _ hst)
    have HV4 := Lib.hid hrow.vw.old
    clear hrow hst HROW HSRC H2)
  have hv4 := HV4.out
  have e2 : [txt rpushB, txt kB].length + l.length = (kB :: l).length + 1 := by simp; omega
  rw [e2] at hv4
  rw [show 2 + l.length = (kB :: l).length + 1 from by simp; omega]
  refine (at_run H4.out (nm := rpushB) (args := kB :: l) hv4 (low := rpushB) (by decide) (by decide) (by simp; omega) (by simp) (fits_rpush (by simp; omega)) (.inl ⟨rfl, .inr rfl⟩)
    (K := fun S => KeyIs S kB l)
    (serves_push (by decide) (KeyIs.empty kB) false HL0.out (by intro x hx; exact HSL.out x hx) (by simp; omega) (by decide) (fun H h => h))).mono ?_
  rintro e w5 ⟨v5, rfl, hv5, o5, S5, c5, h5, hK5, hB5⟩
  obtain ⟨a5, l5, rfl, _⟩ := id hv5.slice
  have hat : TuRel w0 p l right (.int .i64 0) w5 := ⟨0, o5, S5, c5, Nat.zero_le _, rfl, h5, by rw [turnL_zero]; exact hK5⟩
  clear hv4 hv5 h5 hK5 hB5 H4 HV4 e2
  go_wp2_with fail
  go_loopw [6] (fun i wr => TuRel w0 p l right i wr) (fun i _ => l.length - (intOf i).toNat)
  case atStart => exact hat
  case round =>
    obtain ⟨k, o6, S6, c6, hk, rfl, h6, hK6⟩ := hrel
    clear hat
    by_cases hkl : k < l.length
    · obtain ⟨b, off, rfl, hbl0, hcap, hg⟩ := vw_get (h6.vw HA.out) (by omega)
      have hbl : b < wr.heap.size := hbl0
      obtain ⟨y, hy⟩ : ∃ y, l[k]? = some y := ⟨_, List.getElem?_eq_getElem hkl⟩
      have hc := hg k y hy
      have hkI : (0 : Int) ≤ k ∧ (k : Int) < l.length := by omega
      obtain ⟨x, t, et, en, hx, hlt, hmem⟩ := turnL_next right hkl
      rw [et] at hK6
      have H6 := Lib.hid (h6.below (Below.refl _ wr).drew)
      have HK6 := Lib.hid hK6
      have HM := Lib.hid (fun y hy => HSL.out y (hmem y hy))
      have HEN := Lib.hid en
      have HLT := Lib.hid hlt
      have hnum := h6.num
      have HNUM := Lib.hid (show c6.num ≤ 1099511627770 by omega)
      have HTL := Lib.hid (show t.length ≤ 274877906943 by omega)
      clear h6 hK6 hmem en hlt et hbl0 hnum
      cases right with
      | false =>
        rw [if_neg (by decide)] at hx
        obtain rfl : y = x := by rw [hy] at hx; exact Option.some.inj hx
        clear hg hx hy
        go_wp2_with fail
        go_cut [7, 8] from 43 to 47 (fun s7 s8 wx => s7 = .slice (some ⟨wr.heap.size, 0, none⟩) 5 5 ∧ s8 = .string ⟨y.toArray⟩ ∧ wx = (World.drew wr).alloc (.cells ([lmoveB, kB, kB, leftB, rightB].map txt).toArray 9))
        case first =>
          clear H6 HK6 HM HEN HLT HNUM HTL HT HSL HL0 HA
          go_region
          all_goals (
            go_wp2_with fail
            go_meet
            exact ⟨rfl, rfl, rfl⟩)
        case rest =>
          obtain ⟨rfl, rfl, rfl⟩ := hcut
          clear hc hkI
          go_wp2_with fail
          refine (at_run (H6.out.below (lit_below _ _)) (nm := lmoveB) (args := [kB, kB, leftB, rightB]) (lit_vw (World.drew wr) [lmoveB, kB, kB, leftB, rightB] (by decide)) (low := lmoveB) (by decide) (by decide) (by decide) (by decide) fits_lmove (.inr (.inl ⟨rfl, .inl rfl⟩))
            (K := fun S => KeyIs S kB (turnL false l (k + 1)))
            (serves_turn (by decide) (f := true) (t := false) (.inl ⟨rfl, leftB, rightB, rfl, by decide, by decide, by decide, by decide⟩) HK6.out HM.out HTL.out HNUM.out (fun S' hS' => by rw [HEN.out]; exact hS'))).mono ?_
          rintro e w7 ⟨v7, rfl, hv7, o7, S7, c7, h7, hK7, hB7⟩
          obtain ⟨a7, l7, rfl, _⟩ := id hv7.slice
          have H7 := Lib.hid h7
          have HK7 := Lib.hid hK7
          clear hv7 h7 hK7 hB7 H6 HK6 HM HEN HLT HNUM HTL
          go_wp2_with fail
          refine (lawbulk_ok _ _ _ _ _ _).mono ?_; rintro e w8 ⟨rfl, hB8⟩
          have h8 := H7.out.below ((lit_below w7 _).trans (hB8.mono (by simp)))
          have D := Lib.hid (show TuRel w0 p l false (.int .i64 ((k + 1 : Nat) : Int)) w8 from ⟨k + 1, o7, S7, c7, hkl, rfl, ⟨h8.sp, h8.st, by have := h8.num; omega⟩, HK7.out⟩)
          clear hB8 h8 H7 HK7
          go_wp2_with fail
          go_roundw
          case rel => exact D.out
          case measure => simp [intOf]; omega
      | true =>
        rw [if_pos rfl] at hx
        obtain ⟨j, hj⟩ : ∃ j, j = l.length - 1 - k := ⟨_, rfl⟩
        rw [← hj] at hx
        have hcj := hg j x hx
        have hjI : ((l.length : Int) - 1 - k) = (j : Int) := by omega
        have hjI2 : (0 : Int) ≤ j ∧ (j : Int) < l.length := by omega
        clear hg hx hy hj
        go_wp2_with fail
        go_cut [7, 8] from 43 to 47 (fun s7 s8 wx => s7 = .slice (some ⟨wr.heap.size, 0, none⟩) 5 5 ∧ s8 = .string ⟨y.toArray⟩ ∧ wx = (World.drew wr).alloc (.cells ([lmoveB, kB, kB, leftB, rightB].map txt).toArray 9))
        case first =>
          clear H6 HK6 HM HEN HLT HNUM HTL HT HSL HL0 HA
          go_region
          all_goals (
            go_wp2_with fail
            go_meet
            exact ⟨rfl, rfl, rfl⟩)
        case rest =>
          obtain ⟨rfl, rfl, rfl⟩ := hcut
          obtain ⟨W8, hW8⟩ : ∃ W8, W8 = (World.drew wr).alloc (.cells ([lmoveB, kB, kB, leftB, rightB].map txt).toArray 9) := ⟨_, rfl⟩
          have hB8' : Below (World.drew wr).heap.size (World.drew wr) W8 := by rw [hW8]; exact lit_below _ _
          have hB8 : Below wr.heap.size wr W8 := (Below.refl _ wr).drew.trans hB8'
          have hcj8 : W8.cell? ⟨b, off + j, none⟩ = some (.string ⟨x.toArray⟩) := by rw [(bcell hB8).1 _ _ hbl]; exact hcj
          have hbl8 : b < W8.heap.size := Nat.lt_of_lt_of_le hbl hB8.size
          have H8 := Lib.hid (H6.out.below (w' := World.drew W8) (hB8'.drew))
          rw [← hW8]
          clear hc hkI hcj hW8 hB8 hB8' hbl H6
          go_wp2_with fail
          go_cut [7, 8] from 49 to 57 (fun s7 s8 wx => s7 = .slice (some ⟨W8.heap.size, 0, none⟩) 3 3 ∧ s8 = .string ⟨x.toArray⟩ ∧ wx = (World.drew W8).alloc (.cells ([rpoplpushB, kB, kB].map txt).toArray 9))
          case first =>
            clear H8 HK6 HM HEN HLT HNUM HTL HT HSL HL0 HA
            go_region
            all_goals (
              go_wp2_with fail
              go_meet
              exact ⟨rfl, rfl, rfl⟩)
          case rest =>
            obtain ⟨rfl, rfl, rfl⟩ := hcut
            clear hcj8 hjI hjI2
            go_wp2_with fail
            refine (at_run (H8.out.below (lit_below _ _)) (nm := rpoplpushB) (args := [kB, kB]) (lit_vw (World.drew W8) [rpoplpushB, kB, kB] (by decide)) (low := rpoplpushB) (by decide) (by decide) (by decide) (by decide) fits_rpoplpush (.inr (.inl ⟨rfl, .inr rfl⟩))
              (K := fun S => KeyIs S kB (turnL true l (k + 1)))
              (serves_turn (by decide) (f := false) (t := true) (rest := []) (.inr ⟨by decide, rfl, rfl⟩) HK6.out HM.out HTL.out HNUM.out (fun S' hS' => by rw [HEN.out]; exact hS'))).mono ?_
            rintro e w7 ⟨v7, rfl, hv7, o7, S7, c7, h7, hK7, hB7⟩
            obtain ⟨a7, l7, rfl, _⟩ := id hv7.slice
            have H7 := Lib.hid h7
            have HK7 := Lib.hid hK7
            clear hv7 h7 hK7 hB7 H8 HK6 HM HEN HLT HNUM HTL
            go_wp2_with fail
            refine (lawbulk_ok _ _ _ _ _ _).mono ?_; rintro e w8 ⟨rfl, hB8⟩
            have h8 := H7.out.below ((lit_below w7 _).trans (hB8.mono (by simp)))
            have D := Lib.hid (show TuRel w0 p l true (.int .i64 ((k + 1 : Nat) : Int)) w8 from ⟨k + 1, o7, S7, c7, hkl, rfl, ⟨h8.sp, h8.st, by have := h8.num; omega⟩, HK7.out⟩)
            clear hB8 h8 H7 HK7
            go_wp2_with fail
            go_roundw
            case rel => exact D.out
            case measure => simp [intOf]; omega
    · obtain rfl : k = l.length := by omega
      rw [turnL_all] at hK6
      have H6 := Lib.hid h6
      have HK6 := Lib.hid hK6
      have hle : l.length ≤ 1099511627776 := by omega
      have HLE := Lib.hid hle
      clear h6 hK6 hle
      go_wp2_with fail
      refine (at_run (H6.out.below (lit_below wr _)) (nm := lrangeB) (args := [kB, [48], [45, 49]]) (lit_vw wr [lrangeB, kB, [48], [45, 49]] (by decide)) (low := lrangeB) (by decide) (by decide) (by decide) (by decide) fits_lrange (.inr (.inr ⟨rfl, .inr (.inl rfl)⟩))
        (K := fun _ => True)
        (serves_range (by decide) (HT.out.below (H6.out.below (lit_below wr _)).since) HK6.out parse_0 parse_m1 (by decide) (by decide) (by decide) (by decide) HLE.out trivial)).mono ?_
      rintro e w7 ⟨v7, rfl, hv7, o7, S7, c7, h7, hK7, hB7⟩
      rw [piece_all] at hv7 ⊢
      obtain ⟨a7, l7, rfl, _⟩ := id hv7.slice
      have hle7 : (bulksR l).list.length = l.length := by simp [bulksR]
      have hv7' : Vw (fun b => (wr.alloc (.cells ([lrangeB, kB, [48], [45, 49]].map txt).toArray 9)).heap.size ≤ b) w7 (.slice a7 l.length l7) 4 l.length (rfsC (l.map bulkF)) := by rw [hle7] at hv7; exact hv7
      have HV7 := Lib.hid hv7'
      have HBK := Lib.hid (lawbulks_ok HV7.out ((h7.vw HA.out)) HLE.out)
      have H7 := Lib.hid h7
      rw [hle7]
      clear hv7 h7 hK7 hB7 H6 HK6 hle7 hv7' HV7
      go_wp2_with fail
      refine HBK.out.mono ?_; rintro e w8 ⟨rfl, hB8⟩
      have HB := Lib.hid (H7.out.below hB8).since
      clear hB8 H7 HBK
      go_wp2_with fail
      go_ret
      exact ⟨rfl, HB.out⟩
theorem turns_con (w0 : World) (hT : Tbl w0) (l : List (List UInt8)) (va : Value) (ha : Vw (Old w0) w0 va 1 l.length (l.map txt)) (hsl : ∀ x ∈ l, x.length ≤ 1048576) (hll : l.length ≤ 1048576) (right : Bool) :
    Calls Tryz.prog 4 #[va, .bool right] w0 fun e w' => e = .returned (.bool true) ∧ Below w0.heap.size w0 w' := turns_law hT ha right hsl hll
end Go.Proofs.YtgmmeeikjofefaaGreatDoor
