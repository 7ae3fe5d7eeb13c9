import Derived.Test.YtgmmeeikjofefaaGreatDoorAw
import Derived.Test.YtgmmeeikjofefaaGreatDoorPw
import Derived.Deep.DeepCutAuto
namespace Go.Proofs.YtgmmeeikjofefaaGreatDoor
open Go Go.RowKit
/-! ListcmdMoves. -/
def TwoK (A B : List (List UInt8)) (S : SP) : Prop := KeyIs S aB A ∧ KeyIs S bB B
theorem serves_push2 {w : World} {p : Nat} {c : Cnt} {S : SP} {A B : List (List UInt8)} (hS : TwoK [] B S) (hm : A ≠ []) (hs : ∀ x ∈ A, x.length ≤ 1048576) (hB : A.length ≤ 1048576) (hc : c.num ≤ 1099511627770) :
    Serves 36 w [1] p S c rpushB (aB :: A) ⟨3, [], (A.length : Int), []⟩ (TwoK A B) :=
  serves_push (by decide) hS.1 false hm hs (by simp; omega) hc (fun H h => ⟨h, hS.2.put_far (by decide) H⟩)
theorem serves_push3 {w : World} {p : Nat} {c : Cnt} {S : SP} {A B : List (List UInt8)} (hS : TwoK A [] S) (hm : B ≠ []) (hs : ∀ x ∈ B, x.length ≤ 1048576) (hB : B.length ≤ 1048576) (hc : c.num ≤ 1099511627770) :
    Serves 36 w [1] p S c rpushB (bB :: B) ⟨3, [], (B.length : Int), []⟩ (TwoK A B) :=
  serves_push (by decide) hS.2 false hm hs (by simp; omega) hc (fun H h => ⟨hS.1.put_far (by decide) H, h⟩)
def sideW (left : Bool) : List UInt8 := if left then leftB else [82, 73, 71, 72, 84]
theorem sideW_low (left : Bool) : lowL (sideW left) = sideB left := by cases left <;> decide
theorem sideW_len (left : Bool) : (sideW left).length ≤ 1099511627776 := by cases left <;> decide
theorem sides_of (f t : Bool) : Sides lmoveB [sideW f, sideW t] f t := .inl ⟨rfl, _, _, rfl, sideW_low f, sideW_low t, sideW_len f, sideW_len t⟩
theorem lawside_ok' (w : World) (left : Bool) : Calls Tryz.prog 15 #[.bool left] w fun e w' => e = .returned (.string ⟨(sideW left).toArray⟩) ∧ w' = w := lawside_ok w left
set_option maxRecDepth 10000 in
set_option maxHeartbeats 20000000 in
theorem moves_few {w0 : World} (hT : Tbl w0) {va vb : Value} {a b : List (List UInt8)} (ha : Vw (Old w0) w0 va 1 a.length (a.map txt)) (hb : Vw (Old w0) w0 vb 1 b.length (b.map txt)) (hab : a = [] ∨ b = []) (how : Int) :
    Calls Tryz.prog 3 #[va, vb, .int .i64 how] w0 fun e w' => e = .returned (.bool true) ∧ Below w0.heap.size w0 w' := by
  obtain ⟨aa, ca, rfl, _⟩ := id ha.slice
  obtain ⟨ab, cb, rfl, _⟩ := id hb.slice
  have HN := Lib.hid (jnew_ok none0 w0 [1])
  have HT := Lib.hid hT
  have hab' : ((a.length : Int) == 0) = true ∨ ((a.length : Int) == 0) = false ∧ ((b.length : Int) == 0) = true := by
    rcases hab with rfl | rfl
    · exact .inl rfl
    · cases a with
      | nil => exact .inl rfl
      | cons x t => exact .inr ⟨beq_eq_false_iff_ne.2 (by simp; omega), rfl⟩
  clear ha hb hab hT
  generalize a.length = na at *
  generalize b.length = nb at *
  go_enter Tryz.func3, Tryz.ntmps3
  go_wp2_with fail
  refine HN.out.mono ?_; rintro e w1 ⟨p, o1, rfl, hj, hs⟩
  have HAW := Lib.hid (awake_ok (HT.out.below hs.below0))
  have HB1 := Lib.hid hs.below0
  clear hj hs HN
  go_wp2_with fail
  refine HAW.out.mono ?_; rintro e w2 ⟨rfl, hB2⟩
  have hB02 := HB1.out.trans (hB2.mono HB1.out.size)
  have HAW2 := Lib.hid (awake_ok (HT.out.below hB02))
  have HB2 := Lib.hid hB02
  clear hB2 hB02 HAW
  rcases hab' with h0 | ⟨h0, h1⟩
  · go_wp2_with fail
    refine HAW2.out.mono ?_; rintro e w3 ⟨rfl, hB3⟩
    have HB3 := Lib.hid (HB2.out.trans (hB3.mono HB2.out.size))
    clear hB3 HAW2
    go_wp2_with fail
    go_ret
    exact ⟨rfl, HB3.out⟩
  · go_wp2_with fail
    refine HAW2.out.mono ?_; rintro e w3 ⟨rfl, hB3⟩
    have HB3 := Lib.hid (HB2.out.trans (hB3.mono HB2.out.size))
    clear hB3 HAW2
    go_wp2_with fail
    go_ret
    exact ⟨rfl, HB3.out⟩
theorem serves_move2 {w : World} {p : Nat} {c : Cnt} {S : SP} {f t : Bool} {x : List UInt8} {tl B : List (List UInt8)} (hS : TwoK (endL f x tl) B S)
    (hs : ∀ y ∈ endL t x tl, y.length ≤ 1048576) (hs2 : ∀ y ∈ B, y.length ≤ 1048576) (hB : tl.length ≤ 1048576) (hB2 : B.length ≤ 1048576) (hc : c.num ≤ 1099511627770) :
    Serves 38 w [1] p S c lmoveB [aB, bB, sideW f, sideW t] ⟨4, x, 0, []⟩ (TwoK tl (endL t x B)) :=
  serves_move (by decide) (by decide) (sides_of f t) hS.1 hS.2 hs hs2 (by omega) (by omega) hc (fun S' h1 h2 => ⟨h1, h2⟩)
theorem serves_move3 {w : World} {p : Nat} {c : Cnt} {S : SP} {f t : Bool} {x : List UInt8} {tl A : List (List UInt8)} (hS : TwoK A (endL f x tl) S)
    (hs : ∀ y ∈ endL t x tl, y.length ≤ 1048576) (hs2 : ∀ y ∈ A, y.length ≤ 1048576) (hB : tl.length ≤ 1048576) (hB2 : A.length ≤ 1048576) (hc : c.num ≤ 1099511627770) :
    Serves 38 w [1] p S c lmoveB [bB, aB, sideW f, sideW t] ⟨4, x, 0, []⟩ (TwoK (endL t x A) tl) :=
  serves_move (by decide) (by decide) (sides_of f t) hS.2 hS.1 hs hs2 (by omega) (by omega) hc (fun S' h1 h2 => ⟨h2, h1⟩)
theorem serves_len2 {w : World} {p : Nat} {c : Cnt} {S : SP} {A B : List (List UInt8)} (hS : TwoK A B S) {n : Int} (hn : (A.length : Int) = n) : Serves 39 w [1] p S c llenB [aB] ⟨3, [], n, []⟩ (TwoK A B) := by
  subst hn; exact serves_len (by decide) hS.1 hS
theorem serves_len3 {w : World} {p : Nat} {c : Cnt} {S : SP} {A B : List (List UInt8)} (hS : TwoK A B S) {n : Int} (hn : (B.length : Int) = n) : Serves 39 w [1] p S c llenB [bB] ⟨3, [], n, []⟩ (TwoK A B) := by
  subst hn; exact serves_len (by decide) hS.2 hS
theorem serves_all {w : World} (hT : Tbl w) {p : Nat} {c : Cnt} {S : SP} {k : List UInt8} {l : List (List UInt8)} (hk : KeyIs S k l) (hl : l.length ≤ 1048576) {K : SP → Prop} (hK : K S) : Serves 39 w [1] p S c lrangeB [k, [48], [45, 49]] (bulksR l) K := by
  have := serves_range (c := c) (p := p) (q := [1]) (by decide) hT hk parse_0 parse_m1 (by decide) (by decide) (by decide) (by decide) (by omega) hK
  rw [piece_all] at this; exact this
set_option maxRecDepth 10000 in
set_option maxHeartbeats 20000000 in
theorem moves_law {w0 : World} (hT : Tbl w0) {va vb : Value} {a b : List (List UInt8)} (ha : Vw (Old w0) w0 va 1 a.length (a.map txt)) (hb : Vw (Old w0) w0 vb 1 b.length (b.map txt)) (how : Int)
    (hsa : ∀ x ∈ a, x.length ≤ 1048576) (hsb : ∀ x ∈ b, x.length ≤ 1048576) (hla : a.length ≤ 1048576) (hlb : b.length ≤ 1048576) :
    Calls Tryz.prog 3 #[va, vb, .int .i64 how] w0 fun e w' => e = .returned (.bool true) ∧ Below w0.heap.size w0 w' := by
  by_cases ha0 : a = []
  · exact moves_few hT ha hb (.inl ha0) how
  by_cases hb0 : b = []
  · exact moves_few hT ha hb (.inr hb0) how
  obtain ⟨aa, ca, rfl, _⟩ := id ha.slice
  obtain ⟨ab, cb, rfl, _⟩ := id hb.slice
  have hla1 : 0 < a.length := List.length_pos_iff.2 ha0
  have hlb1 : 0 < b.length := List.length_pos_iff.2 hb0
  have e0 : ((a.length : Int) == 0) = false := beq_eq_false_iff_ne.2 (by omega)
  have e1 : ((b.length : Int) == 0) = false := beq_eq_false_iff_ne.2 (by omega)
  have HN := Lib.hid (jnew_ok none0 w0 [1])
  have HT := Lib.hid hT
  have HA := Lib.hid ha
  have HB := Lib.hid hb
  have HSA := Lib.hid hsa
  have HSB := Lib.hid hsb
  have HA0 := Lib.hid ha0
  have HB0 := Lib.hid hb0
  obtain ⟨i0, hi0, hz0, hz1, hz2⟩ := info_parts infoS
  clear hT ha hb hsa hsb ha0 hb0
  go_enter Tryz.func3, Tryz.ntmps3
  go_wp2_with fail
  generalize (bits BinOp.and IntKind.i64 how 1 == 1) = f
  generalize (bits BinOp.and IntKind.i64 how 2 == 2) = t
  refine HN.out.mono ?_; rintro e w1 ⟨p, o1, rfl, hj, hs⟩
  have h1 : At w0 o1 w1 p (fun _ => none) ⟨0, 0⟩ 0 := ⟨hj, hs, Nat.le_refl _⟩
  have HAW := Lib.hid (awake_ok (HT.out.below hs.below0))
  have H1 := Lib.hid h1
  clear hj hs h1 HN
  go_wp2_with fail
  refine HAW.out.mono ?_; rintro e w2 ⟨rfl, hB2⟩
  have H2 := Lib.hid (H1.out.below hB2)
  clear hB2 HAW H1
  go_wp2_with fail
  refine (lawshort_ok (H2.out.vw HA.out) HSA.out (by omega)).mono ?_
  rintro e w3 ⟨rfl, rfl⟩
  go_wp2_with fail
  refine (lawshort_ok (H2.out.vw HB.out) HSB.out (by omega)).mono ?_
  rintro e w3 ⟨rfl, rfl⟩
  obtain ⟨x, tl, hax, hxi⟩ := ends_of f HA0.out
  have hlt : tl.length + 1 = a.length := by rw [hax, endL_len]
  have hmx : ∀ y, y = x ∨ y ∈ tl → y ∈ a := fun y hy => by rw [hax, endL_mem]; exact hy
  have HAX := Lib.hid hax
  have HXI := Lib.hid hxi
  have HLT := Lib.hid hlt
  have HMX := Lib.hid hmx
  clear hax hxi hlt hmx
  have HROWp := Lib.hid (Row.lit o1 w3 [9] 9 [txt rpushB, txt aB] (by decide))
  have HSRCp := Lib.hid (((H2.out.vw HA.out).below (lit_below w3 (.cells [txt rpushB, txt aB].toArray 9))).src (P := Tryz.prog) Tryz.underlying22 (one_list a))
  go_wp2_with (
    at_builtin
    refine wpList_app _ rfl _ _ 22 22 rfl 9 i0 _ 1 16 Tryz.underlying22 hi0 hz0 hz1 hz2 rfl rfl HROWp.out rfl HSRCp.out (by unfold maxLen; simp; omega) (by simp; omega) ?_
    intro v' wp4 op4 hrow hst
    obtain ⟨ap4, cp4, rfl, _⟩ := id hrow.slice
    have Hp4 := Lib.hid (H2.out.app _ hst)
    have HVp4 := Lib.hid hrow.vw.old
    clear hrow hst HROWp HSRCp H2)
  have hvp4 := HVp4.out
  have ep2 : [txt rpushB, txt aB].length + a.length = (aB :: a).length + 1 := by simp; omega
  rw [ep2] at hvp4
  rw [show 2 + a.length = (aB :: a).length + 1 from by simp; omega]
  refine (at_run Hp4.out (nm := rpushB) (args := aB :: a) hvp4 (low := rpushB) (by decide) (by decide) (by simp; omega) (by simp) (fits_rpush (by simp; omega)) (.inl ⟨rfl, .inr rfl⟩)
    (K := TwoK a []) (serves_push2 ⟨KeyIs.empty aB, KeyIs.empty bB⟩ HA0.out HSA.out hla (by decide))).mono ?_
  rintro e wp5 ⟨vp5, rfl, hvp5, op5, Sp5, cp5, hp5, hKp5, _⟩
  obtain ⟨ap5, lp5, rfl, _⟩ := id hvp5.slice
  have Hp5 := Lib.hid hp5
  have HKp5 := Lib.hid hKp5
  clear hvp4 hvp5 hp5 hKp5 Hp4 HVp4 ep2
  have HROWq := Lib.hid (Row.lit op5 wp5 [9] 9 [txt rpushB, txt bB] (by decide))
  have HSRCq := Lib.hid (((Hp5.out.vw HB.out).below (lit_below wp5 (.cells [txt rpushB, txt bB].toArray 9))).src (P := Tryz.prog) Tryz.underlying22 (one_list b))
  go_wp2_with (
    at_builtin
    refine wpList_app _ rfl _ _ 22 22 rfl 9 i0 _ 1 16 Tryz.underlying22 hi0 hz0 hz1 hz2 rfl rfl HROWq.out rfl HSRCq.out (by unfold maxLen; simp; omega) (by simp; omega) ?_
    intro v' wq4 oq4 hrow hst
    obtain ⟨aq4, cq4, rfl, _⟩ := id hrow.slice
    have Hq4 := Lib.hid (Hp5.out.app _ hst)
    have HVq4 := Lib.hid hrow.vw.old
    clear hrow hst HROWq HSRCq Hp5)
  have hvq4 := HVq4.out
  have eq2 : [txt rpushB, txt bB].length + b.length = (bB :: b).length + 1 := by simp; omega
  rw [eq2] at hvq4
  rw [show 2 + b.length = (bB :: b).length + 1 from by simp; omega]
  refine (at_run Hq4.out (nm := rpushB) (args := bB :: b) hvq4 (low := rpushB) (by decide) (by decide) (by simp; omega) (by simp) (fits_rpush (by simp; omega)) (.inl ⟨rfl, .inr rfl⟩)
    (K := TwoK a b) (serves_push3 HKp5.out HB0.out HSB.out hlb (Nat.le_trans Hq4.out.num (by decide)))).mono ?_
  rintro e wq5 ⟨vq5, rfl, hvq5, oq5, Sq5, cq5, hq5, hKq5, _⟩
  obtain ⟨aq5, lq5, rfl, _⟩ := id hvq5.slice
  have Hq5 := Lib.hid hq5
  have HKq5 := Lib.hid hKq5
  clear hvq4 hvq5 hq5 hKq5 Hq4 HVq4 eq2
  clear HKp5
  obtain ⟨b0, off, rfl, hbl0, hcapa, hg⟩ := vw_get (Hq5.out.vw HA.out) (by omega)
  have hbl : b0 < wq5.heap.size := hbl0
  obtain ⟨y0, hy0⟩ : ∃ y, a[0]? = some y := ⟨_, List.getElem?_eq_getElem hla1⟩
  obtain ⟨y1, hy1⟩ : ∃ y, a[a.length - 1]? = some y := ⟨_, List.getElem?_eq_getElem (by omega)⟩
  obtain ⟨j, hj⟩ : ∃ j, j = a.length - 1 := ⟨_, rfl⟩
  have hc0 := hg 0 y0 hy0
  rw [← hj] at hy1
  have hc1 := hg j y1 hy1
  rw [Nat.add_zero] at hc0
  have hjI : ((a.length : Int) - 1) = (j : Int) := by omega
  have hjI2 : (0 : Int) ≤ j ∧ (j : Int) < a.length := by omega
  have hx0 : f = true → y0 = x := fun e => by have := HXI.out; rw [e, if_pos rfl, hy0] at this; exact Option.some.inj this
  have hx1 : f = false → y1 = x := fun e => by have := HXI.out; rw [e, if_neg (by decide), ← hj, hy1] at this; exact Option.some.inj this
  have HX0 := Lib.hid hx0
  have HX1 := Lib.hid hx1
  clear hg hy0 hy1 hj hx0 hx1
  go_upto_if 65 with fail
  go_cut [10] (fun s10 wx => s10 = .string ⟨x.toArray⟩ ∧ wx = wq5)
  case first =>
    clear Hq5 HKq5 HT HA HB HSA HSB HA0 HB0 HAX HXI HLT HMX
    cases f with
    | true =>
      have e := HX0.out rfl
      subst e
      go_wp2_with fail
      go_meet
      exact ⟨rfl, rfl⟩
    | false =>
      have e := HX1.out rfl
      subst e
      go_wp2_with fail
      go_meet
      exact ⟨rfl, rfl⟩
  case rest =>
    obtain ⟨rfl, rfl⟩ := hcut
    have hKs : TwoK (endL f x tl) b Sq5 := by rw [← HAX.out]; exact HKq5.out
    have HK7 := Lib.hid hKs
    have hsx : x.length ≤ 1048576 := HSA.out x (HMX.out x (.inl rfl))
    have hst : ∀ y ∈ tl, y.length ≤ 1048576 := fun y hy => HSA.out y (HMX.out y (.inr hy))
    have HS1 := Lib.hid (show ∀ s, ∀ y ∈ endL s x tl, y.length ≤ 1048576 from fun s y hy => by rcases (endL_mem s x tl y).1 hy with rfl | h; exact hsx; exact hst y h)
    have HS2 := Lib.hid (show ∀ s, ∀ y ∈ endL s x b, y.length ≤ 1048576 from fun s y hy => by rcases (endL_mem s x b y).1 hy with rfl | h; exact hsx; exact HSB.out y h)
    have HST := Lib.hid hst
    have hltl : tl.length ≤ 1048576 := by have := HLT.out; omega
    clear hKs hsx hst hc0 hc1 hjI hjI2 HX0 HX1 hbl0 hbl HKq5
    go_wp2_with fail
    refine (lawside_ok' _ f).mono ?_; rintro e w8 ⟨rfl, rfl⟩
    go_wp2_with fail
    refine (lawside_ok' _ t).mono ?_; rintro e w8 ⟨rfl, rfl⟩
    go_wp2_with fail
    have H8 := Lib.hid Hq5.out
    clear Hq5
    refine (at_run (H8.out.below (lit_below w8 _)) (nm := lmoveB) (args := [aB, bB, sideW f, sideW t]) (lit_vw w8 (lmoveB :: [aB, bB, sideW f, sideW t]) (by simp)) (low := lmoveB) (by decide) (by decide) (by simp) (by simp) fits_lmove (.inr (.inl ⟨rfl, .inl rfl⟩))
      (K := TwoK tl (endL t x b)) (serves_move2 HK7.out (HS1.out t) HSB.out hltl hlb (Nat.le_trans H8.out.num (by decide)))).mono ?_
    rintro e w9 ⟨v9, rfl, hv9, o9, S9, c9, h9, hK9, _⟩
    obtain ⟨a9, l9, rfl, _⟩ := id hv9.slice
    have H9 := Lib.hid h9
    have HK9 := Lib.hid hK9
    clear hv9 h9 hK9 H8 HK7
    go_wp2_with fail
    refine (lawbulk_ok _ _ _ _ _ _).mono ?_; rintro e w10 ⟨rfl, hB10⟩
    have H10 := Lib.hid (H9.out.below hB10)
    clear hB10 H9
    go_wp2_with fail
    refine (at_run (H10.out.below (lit_below w10 _)) (nm := llenB) (args := [aB]) (lit_vw w10 (llenB :: [aB]) (by simp)) (low := llenB) (by decide) (by decide) (by decide) (by simp) fits_llen (.inr (.inr ⟨rfl, .inl rfl⟩))
      (K := TwoK tl (endL t x b)) (serves_len2 (n := (a.length : Int) - 1) HK9.out (by have := HLT.out; omega))).mono ?_
    rintro e w11 ⟨v11, rfl, hv11, o11, S11, c11, h11, hK11, _⟩
    obtain ⟨a11, l11, rfl, _⟩ := id hv11.slice
    have H11 := Lib.hid h11
    have HK11 := Lib.hid hK11
    clear hv11 h11 hK11 H10 HK9
    go_wp2_with fail
    refine (lawnumber_ok _ _ _ _ _ _).mono ?_; rintro e w12 ⟨rfl, hB12⟩
    have H12 := Lib.hid (H11.out.below hB12)
    clear hB12 H11
    go_wp2_with fail
    refine (at_run (H12.out.below (lit_below w12 _)) (nm := llenB) (args := [bB]) (lit_vw w12 (llenB :: [bB]) (by simp)) (low := llenB) (by decide) (by decide) (by decide) (by simp) fits_llen (.inr (.inr ⟨rfl, .inl rfl⟩))
      (K := TwoK tl (endL t x b)) (serves_len3 (n := (b.length : Int) + 1) HK11.out (by rw [endL_len]; omega))).mono ?_
    rintro e w13 ⟨v13, rfl, hv13, o13, S13, c13, h13, hK13, _⟩
    obtain ⟨a13, l13, rfl, _⟩ := id hv13.slice
    have H13 := Lib.hid h13
    have HK13 := Lib.hid hK13
    clear hv13 h13 hK13 H12 HK11
    go_wp2_with fail
    refine (lawnumber_ok _ _ _ _ _ _).mono ?_; rintro e w14 ⟨rfl, hB14⟩
    have H14 := Lib.hid (H13.out.below hB14)
    clear hB14 H13
    go_wp2_with fail
    refine (lawside_ok' _ t).mono ?_; rintro e w15 ⟨rfl, rfl⟩
    go_wp2_with fail
    refine (lawside_ok' _ f).mono ?_; rintro e w15 ⟨rfl, rfl⟩
    go_wp2_with fail
    have H15 := Lib.hid H14.out
    clear H14
    refine (at_run (H15.out.below (lit_below w15 _)) (nm := lmoveB) (args := [bB, aB, sideW t, sideW f]) (lit_vw w15 (lmoveB :: [bB, aB, sideW t, sideW f]) (by simp)) (low := lmoveB) (by decide) (by decide) (by simp) (by simp) fits_lmove (.inr (.inl ⟨rfl, .inl rfl⟩))
      (K := TwoK a b) (by have := serves_move3 (w := w15.alloc (.cells ([lmoveB, bB, aB, sideW t, sideW f].map txt).toArray 9)) (p := p) (c := c13) (t := f) HK13.out (HS2.out f) HST.out hlb hltl (Nat.le_trans H15.out.num (by decide)); rw [← HAX.out] at this; exact this)).mono ?_
    rintro e w16 ⟨v16, rfl, hv16, o16, S16, c16, h16, hK16, _⟩
    obtain ⟨a16, l16, rfl, _⟩ := id hv16.slice
    have H16 := Lib.hid h16
    have HK16 := Lib.hid hK16
    clear hv16 h16 hK16 H15 HK13
    go_wp2_with fail
    refine (lawbulk_ok _ _ _ _ _ _).mono ?_; rintro e w17 ⟨rfl, hB17⟩
    have H17 := Lib.hid (H16.out.below hB17)
    clear hB17 H16
    go_wp2_with fail
    refine (at_run (H17.out.below (lit_below w17 _)) (nm := lrangeB) (args := [aB, [48], [45, 49]]) (lit_vw w17 (lrangeB :: [aB, [48], [45, 49]]) (by simp)) (low := lrangeB) (by decide) (by decide) (by decide) (by simp) fits_lrange (.inr (.inr ⟨rfl, .inr (.inl rfl)⟩))
      (K := TwoK a b) (serves_all (HT.out.below (H17.out.below (lit_below w17 _)).since) HK16.out.1 hla HK16.out)).mono ?_
    rintro e w18 ⟨v18, rfl, hv18, o18, S18, c18, h18, hK18, _⟩
    obtain ⟨a18, l18, rfl, _⟩ := id hv18.slice
    have H18 := Lib.hid h18
    have HK18 := Lib.hid hK18
    have hle18 : (bulksR a).list.length = a.length := by simp [bulksR]
    have hv18' : Vw (fun b => (World.alloc w17 (.cells ([lrangeB, aB, [48], [45, 49]].map txt).toArray 9)).heap.size ≤ b) w18 (.slice a18 a.length l18) 4 a.length (rfsC (a.map bulkF)) := by rw [hle18] at hv18; exact hv18
    have HBK18 := Lib.hid (lawbulks_ok hv18' (H18.out.vw HA.out) (by omega))
    rw [hle18]
    clear hv18 h18 hK18 H17 HK16 hle18 hv18'
    go_wp2_with fail
    refine HBK18.out.mono ?_; rintro e w19 ⟨rfl, hB19⟩
    have H19 := Lib.hid (H18.out.below hB19)
    clear hB19 H18 HBK18
    go_wp2_with fail
    refine (at_run (H19.out.below (lit_below w19 _)) (nm := lrangeB) (args := [bB, [48], [45, 49]]) (lit_vw w19 (lrangeB :: [bB, [48], [45, 49]]) (by simp)) (low := lrangeB) (by decide) (by decide) (by decide) (by simp) fits_lrange (.inr (.inr ⟨rfl, .inr (.inl rfl)⟩))
      (K := TwoK a b) (serves_all (HT.out.below (H19.out.below (lit_below w19 _)).since) HK18.out.2 hlb HK18.out)).mono ?_
    rintro e w20 ⟨v20, rfl, hv20, o20, S20, c20, h20, hK20, _⟩
    obtain ⟨a20, l20, rfl, _⟩ := id hv20.slice
    have H20 := Lib.hid h20
    have HK20 := Lib.hid hK20
    have hle20 : (bulksR b).list.length = b.length := by simp [bulksR]
    have hv20' : Vw (fun b => (World.alloc w19 (.cells ([lrangeB, bB, [48], [45, 49]].map txt).toArray 9)).heap.size ≤ b) w20 (.slice a20 b.length l20) 4 b.length (rfsC (b.map bulkF)) := by rw [hle20] at hv20; exact hv20
    have HBK20 := Lib.hid (lawbulks_ok hv20' (H20.out.vw HB.out) (by omega))
    rw [hle20]
    clear hv20 h20 hK20 H19 HK18 HK20 hle20 hv20'
    go_wp2_with fail
    refine HBK20.out.mono ?_; rintro e w21 ⟨rfl, hB21⟩
    have H21 := Lib.hid (H20.out.below hB21)
    clear hB21 H20 HBK20
    go_wp2_with fail
    go_ret
    exact ⟨rfl, H21.out.since⟩
theorem moves_con (w0 : World) (hT : Tbl w0) (a : List (List UInt8)) (va : Value) (ha : Vw (Old w0) w0 va 1 a.length (a.map txt)) (hsa : ∀ x ∈ a, x.length ≤ 1048576) (hla : a.length ≤ 1048576)
    (b : List (List UInt8)) (vb : Value) (hb : Vw (Old w0) w0 vb 1 b.length (b.map txt)) (hsb : ∀ x ∈ b, x.length ≤ 1048576) (hlb : b.length ≤ 1048576) (how : Int) :
    Calls Tryz.prog 3 #[va, vb, .int .i64 how] w0 fun e w' => e = .returned (.bool true) ∧ Below w0.heap.size w0 w' := moves_law hT ha hb how hsa hsb hla hlb
end Go.Proofs.YtgmmeeikjofefaaGreatDoor
