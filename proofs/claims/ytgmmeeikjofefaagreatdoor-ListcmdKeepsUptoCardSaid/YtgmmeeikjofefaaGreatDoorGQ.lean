import Derived.Test.YtgmmeeikjofefaaGreatDoorGM
import Derived.Test.YtgmmeeikjofefaaGreatDoorGN
import Derived.Test.YtgmmeeikjofefaaGreatDoorGO
import Derived.Test.YtgmmeeikjofefaaGreatDoorGJ
import Derived.Deep.DeepCutAuto
import Derived.Deep.RegionHeld
namespace Go.Proofs.YtgmmeeikjofefaaGreatDoor
open Go Go.RowKit
/-! One key alone; a law's world, again. -/
/-- One key alone. -/
def One (l : List (List UInt8)) (S : SP) : Prop := KeyIs S kB l ∧ ∀ j, j ≠ kB → S j = none
theorem One.empty : One [] (fun _ => none) := ⟨KeyIs.empty kB, fun _ _ => rfl⟩
theorem One.nil {S : SP} (h : One [] S) : ∀ k, S k = none := fun k => by
  by_cases hk : k = kB
  · subst hk
    rcases h.1 with ⟨_, h⟩ | ⟨h, _⟩
    · exact h
    · exact absurd rfl h
  · exact h.2 k hk
theorem One.put {S : SP} {l l' : List (List UInt8)} (h : One l S) (H : Hd) (hk : KeyIs (S.put kB H) kB l') : One l' (S.put kB H) := ⟨hk, fun j hj => by show (if j = kB then _ else _) = _; rw [if_neg hj]; exact h.2 j hj⟩
theorem One.setL {S : SP} {l l' tl : List (List UInt8)} (h : One l S) (n : Nat) (hk : KeyIs (S.setL 0 kB tl n) kB l') : One l' (S.setL 0 kB tl n) := ⟨hk, fun j hj => by
  unfold SP.setL
  split
  · show (if j = kB then _ else _) = _; rw [if_neg hj]; exact h.2 j hj
  · show (if j = kB then _ else _) = _; rw [if_neg hj]; exact h.2 j hj⟩
theorem At.mono {o : Roles} {w w0 : World} {p n n' : Nat} {S : SP} {c : Cnt} (h : At w0 o w p S c n) (hn : n ≤ n') : At w0 o w p S c n' := ⟨h.sp, h.st, Nat.le_trans h.num hn⟩
theorem At.cell {o : Roles} {w w0 : World} {p n : Nat} {S : SP} {c : Cnt} (h : At w0 o w p S c n) {b off : Nat} {u : Value} (hb : b < w0.heap.size) (hc : w0.cell? ⟨b, off, none⟩ = some u) : w.cell? ⟨b, off, none⟩ = some u := by
  rw [(bcell h.since).1 _ _ hb]; exact hc
theorem At.nine {o o' : Roles} {w w' w0 : World} {p n : Nat} {S : SP} {c : Cnt} (h : At w0 o w p S c n) (s : Stp [9] o w o' w') : At w0 o' w' p S c n :=
  ⟨h.sp.keep s (by intro t ht; simp at ht), h.st.hide s (fun b _ => by unfold none0; simp), h.num⟩
end Go.Proofs.YtgmmeeikjofefaaGreatDoor
namespace Go.Proofs.YtgmmeeikjofefaaGreatDoor
open Go Go.RowKit
/-! ListcmdKeeps. -/
/-- What a list of texts is, pushed at one end. -/
def cont (front : Bool) (l : List (List UInt8)) : List (List UInt8) := pushL front [] l
theorem cont_len (front : Bool) (l : List (List UInt8)) : (cont front l).length = l.length := by unfold cont pushL; cases front <;> simp
theorem cont_mem (front : Bool) (l : List (List UInt8)) (y : List UInt8) : y ∈ cont front l ↔ y ∈ l := by unfold cont pushL; cases front <;> simp
theorem cont_head (front : Bool) (x : List UInt8) (t : List (List UInt8)) : cont front (x :: t) = endL (!front) x (cont front t) := by unfold cont pushL endL; cases front <;> simp
theorem cont_last (front : Bool) (x : List UInt8) (t : List (List UInt8)) : cont front (t ++ [x]) = endL front x (cont front t) := by unfold cont pushL endL; cases front <;> simp
theorem cont_nil (front : Bool) : cont front [] = [] := by unfold cont pushL; cases front <;> simp
def atI (front : Bool) (n k : Nat) : Int := if front then (n : Int) - 1 - k else k
theorem at_cont (front : Bool) {l : List (List UInt8)} {k : Nat} {y : List UInt8} (h : l[k]? = some y) : atL (cont front l) (atI front l.length k) = some y ∧ atL (cont front l) (atI front l.length k - l.length) = some y := by
  have hk : k < l.length := (List.getElem?_eq_some_iff.1 h).1
  unfold atL posI
  rw [cont_len]
  cases front with
  | false =>
    have e : cont false l = l := by unfold cont pushL; simp
    unfold atI
    rw [e]
    simp only [Bool.false_eq_true, if_false]
    rw [if_neg (show ¬ (k : Int) < 0 by omega), if_pos (show (k : Int) - l.length < 0 by omega), if_pos (show (0 : Int) ≤ k by omega), if_pos (show (0 : Int) ≤ (k : Int) - l.length + l.length by omega)]
    rw [show ((k : Int) - l.length + l.length).toNat = k by omega, Int.toNat_natCast]
    exact ⟨h, h⟩
  | true =>
    have e : cont true l = l.reverse := by unfold cont pushL; simp
    unfold atI
    rw [e]
    simp only [if_true]
    rw [if_neg (show ¬ (l.length : Int) - 1 - k < 0 by omega), if_pos (show (l.length : Int) - 1 - k - l.length < 0 by omega), if_pos (show (0 : Int) ≤ (l.length : Int) - 1 - k by omega), if_pos (show (0 : Int) ≤ (l.length : Int) - 1 - k - l.length + l.length by omega)]
    rw [show ((l.length : Int) - 1 - k - l.length + l.length).toNat = l.length - 1 - k by omega, show ((l.length : Int) - 1 - k).toNat = l.length - 1 - k by omega]
    have : l.reverse[l.length - 1 - k]? = some y := by
      rw [List.getElem?_reverse (by omega), show l.length - 1 - (l.length - 1 - k) = k by omega]; exact h
    exact ⟨this, this⟩
def KpRel (w0 : World) (p n : Nat) (m : List (List UInt8)) (wr : World) : Prop := ∃ o S c, At w0 o wr p S c n ∧ One m S
def Kp1 (w0 : World) (p : Nat) (front : Bool) (l : List (List UInt8)) (i : Value) (wr : World) : Prop := ∃ k, k ≤ l.length ∧ i = .int .i64 ((k : Nat) : Int) ∧ KpRel w0 p (8 + 4 * k) (cont front l) wr
def Kp2 (w0 : World) (p : Nat) (front : Bool) (l : List (List UInt8)) (i : Value) (wr : World) : Prop := ∃ k, k ≤ l.length / 2 ∧ i = .int .i64 ((k : Nat) : Int) ∧ KpRel w0 p (8 + 4 * l.length + 2 * k) (cont front (l.drop k)) wr
def Kp3 (w0 : World) (p : Nat) (front : Bool) (l : List (List UInt8)) (i : Value) (wr : World) : Prop := ∃ r, r ≤ l.length - l.length / 2 ∧ i = .int .i64 (((l.length / 2 : Nat) : Int) + (r : Nat) - 1) ∧ KpRel w0 p (8 + 8 * l.length - 2 * r) (cont front ((l.drop (l.length / 2)).take r)) wr
set_option maxRecDepth 10000 in
set_option maxHeartbeats 20000000 in
theorem keeps_none {w0 : World} (hT : Tbl w0) (a : Option Addr) (cap : Nat) (front : Bool) :
    Calls Tryz.prog 6 #[.slice a 0 cap, .bool front] w0 fun e w' => e = .returned (.bool true) ∧ Below w0.heap.size w0 w' := by
  have HN := Lib.hid (jnew_ok none0 w0 [1])
  have HT := Lib.hid hT
  clear hT
  go_enter Tryz.func6, Tryz.ntmps6
  go_wp2_with fail
  refine HN.out.mono ?_; rintro e w1 ⟨p, o1, rfl, hj, hs⟩
  have HAW := Lib.hid (awake_ok (HT.out.below hs.below0))
  have HB1 := Lib.hid hs.below0
  clear hj hs HN
  go_wp2_with fail
  refine HAW.out.mono ?_; rintro e w2 ⟨rfl, hB2⟩
  have hB02 := HB1.out.trans (hB2.mono HB1.out.size)
  have HAW2 := Lib.hid (awake_ok (HT.out.below hB02))
  have HB2 := Lib.hid hB02
  clear hB2 hB02 HAW
  go_wp2_with fail
  refine HAW2.out.mono ?_; rintro e w3 ⟨rfl, hB3⟩
  have HB3 := Lib.hid (HB2.out.trans (hB3.mono HB2.out.size))
  clear hB3 HAW2
  go_wp2_with fail
  go_ret
  exact ⟨rfl, HB3.out⟩
set_option maxRecDepth 10000 in
set_option maxHeartbeats 20000000 in
theorem keeps_law {w0 : World} (hT : Tbl w0) {va : Value} {l : List (List UInt8)} (ha : Vw (Old w0) w0 va 1 l.length (l.map txt)) (front : Bool) (hsl : ∀ x ∈ l, x.length ≤ 1048576) (hll : l.length ≤ 1048576) :
    Calls Tryz.prog 6 #[va, .bool front] w0 fun e w' => e = .returned (.bool true) ∧ Below w0.heap.size w0 w' := by
  obtain ⟨aa, ca, rfl, _⟩ := id ha.slice
  by_cases hl0 : l = []
  · subst hl0
    exact keeps_none hT aa ca front
  have hl1 : 0 < l.length := List.length_pos_iff.2 hl0
  have e0 : ((l.length : Int) == 0) = false := beq_eq_false_iff_ne.2 (by omega)
  have HN := Lib.hid (jnew_ok none0 w0 [1])
  have HT := Lib.hid hT
  have HA := Lib.hid ha
  have HSL := Lib.hid hsl
  have HL0 := Lib.hid hl0
  obtain ⟨i0, hi0, hz0, hz1, hz2⟩ := info_parts infoS
  obtain ⟨b, off, rfl, hb0, hcap, hg⟩ := vw_get ha hl1
  have HB0 := Lib.hid (show b < w0.heap.size from hb0)
  have HG := Lib.hid hg
  clear hT ha hsl hl0 hb0 hg
  go_enter Tryz.func6, Tryz.ntmps6
  go_wp2_with fail
  refine HN.out.mono ?_; rintro e w1 ⟨p, o1, rfl, hj, hs⟩
  have h1 : At w0 o1 w1 p (fun _ => none) ⟨0, 0⟩ 0 := ⟨hj, hs, Nat.le_refl _⟩
  have HAW := Lib.hid (awake_ok (HT.out.below hs.below0))
  have H1 := Lib.hid h1
  clear hj hs h1 HN
  go_wp2_with fail
  refine HAW.out.mono ?_; rintro e w2 ⟨rfl, hB2⟩
  have H2 := Lib.hid (H1.out.below hB2)
  clear hB2 HAW H1
  go_wp2_with fail
  refine (lawshort_ok (H2.out.vw HA.out) HSL.out (by omega)).mono ?_
  rintro e w3 ⟨rfl, rfl⟩
  go_upto_if 36 with fail
  go_cut [6, 7, 8] (fun s6 s7 s8 wx => s6 = .string ⟨(pushN front).toArray⟩ ∧ s7 = .string ⟨(popN front).toArray⟩ ∧ s8 = .string ⟨(popN (!front)).toArray⟩ ∧ At w0 o1 wx p (fun _ => none) ⟨0, 0⟩ 0)
  case first =>
    clear HT HA HSL HL0
    cases front <;> (
      go_wp2_with fail
      go_meet
      exact ⟨rfl, rfl, rfl, H2.out⟩)
  case rest =>
    obtain ⟨rfl, rfl, rfl, h2⟩ := hcut
    have H2 := Lib.hid h2
    clear h2
    have HROW := Lib.hid (Row.lit o1 wc [9] 9 [txt (pushN front), txt kB] (by simp))
    have HSRC := Lib.hid (((H2.out.vw HA.out).below (lit_below wc (.cells [txt (pushN front), txt kB].toArray 9))).src (P := Tryz.prog) Tryz.underlying22 (one_list l))
    go_wp2_with (
      at_builtin
      refine wpList_app _ rfl _ _ 22 22 rfl 9 i0 _ 1 16 Tryz.underlying22 hi0 hz0 hz1 hz2 rfl rfl HROW.out rfl HSRC.out (by unfold maxLen; simp; omega) (by simp; omega) ?_
      intro v' w4 o4 hrow hst
      obtain ⟨a4, c4, rfl, _⟩ := id hrow.slice
      have H4 := Lib.hid (H2.out.app _ hst)
      have HV4 := Lib.hid hrow.vw.old
      clear hrow hst HROW HSRC H2)
    have hv4 := HV4.out
    have e2 : [txt (pushN front), txt kB].length + l.length = (kB :: l).length + 1 := by simp; omega
    rw [e2] at hv4
    rw [show 2 + l.length = (kB :: l).length + 1 from by simp; omega]
    have hfit : Fits (pushN front) ((kB :: l).length + 1) := by
      cases front with
      | true => exact fits_lpush (by simp; omega)
      | false => exact fits_rpush (by simp; omega)
    have hgo : Goes (pushN front) 36 := by cases front <;> simp [Goes, pushN]
    refine (at_run H4.out (nm := pushN front) (args := kB :: l) hv4 (low := pushN front) (by cases front <;> decide) (by cases front <;> decide) (by simp; omega) (by simp) hfit hgo
      (r := ⟨3, [], (l.length : Int), []⟩) (K := One (cont front l))
      (by
        have := serves_push (w := w4) (p := p) (q := [1]) (c := ⟨0, 0⟩) (by decide) (KeyIs.empty kB) front HL0.out (fun x hx => HSL.out x ((cont_mem front l x).1 hx)) (by simp; omega) (by decide) (K := One (cont front l)) (fun H h => One.empty.put H h)
        rw [show (pushL front [] l).length = l.length from cont_len front l] at this
        exact this)).mono ?_
    rintro e w5 ⟨v5, rfl, hv5, o5, S5, c5, h5, hK5, _⟩
    obtain ⟨a5, l5, rfl, _⟩ := id hv5.slice
    have H5 := Lib.hid h5
    have HK5 := Lib.hid hK5
    clear hv4 hv5 h5 hK5 H4 HV4 e2 hfit hgo
    go_wp2_with fail
    refine (lawnumber_ok _ _ _ _ _ _).mono ?_; rintro e w6 ⟨rfl, hB6⟩
    have H6 := Lib.hid (H5.out.below hB6)
    clear hB6 H5
    go_wp2_with fail
    refine (at_run (H6.out.below (lit_below w6 _)) (nm := llenB) (args := [kB]) (lit_vw w6 [llenB, kB] (by decide)) (low := llenB) (by decide) (by decide) (by decide) (by decide) fits_llen (.inr (.inr (.inl ⟨rfl, .inl rfl⟩)))
      (r := ⟨3, [], (l.length : Int), []⟩) (K := One (cont front l)) (by have := serves_len (w := w6.alloc (.cells ([llenB, kB].map txt).toArray 9)) (p := p) (q := [1]) (c := c5) (by decide) HK5.out.1 HK5.out; rw [cont_len] at this; exact this)).mono ?_
    rintro e w7 ⟨v7, rfl, hv7, o7, S7, c7, h7, hK7, _⟩
    obtain ⟨a7, l7, rfl, _⟩ := id hv7.slice
    have H7 := Lib.hid h7
    have HK7 := Lib.hid hK7
    clear hv7 h7 hK7 H6 HK5
    go_wp2_with fail
    refine (lawnumber_ok _ _ _ _ _ _).mono ?_; rintro e w8 ⟨rfl, hB8⟩
    have hat : Kp1 w0 p front l (.int .i64 0) w8 := ⟨0, Nat.zero_le _, rfl, o7, S7, c7, (H7.out.below hB8).mono (by omega), HK7.out⟩
    clear hB8 H7 HK7
    go_wp2_with fail
    go_loopw [9] (fun i wr => Kp1 w0 p front l i wr) (fun i _ => l.length - (intOf i).toNat)
    case atStart => exact hat
    case round =>
      obtain ⟨k, hk, rfl, o9, S9, c9, h9, hK9⟩ := hrel
      clear hat
      by_cases hkl : k < l.length
      · have hkI : (0 : Int) ≤ k ∧ (k : Int) < l.length := by omega
        go_upto_if 63 with fail
        go_cut [10] (fun s10 wx => s10 = .int .i64 (atI front l.length k) ∧ KpRel w0 p (8 + 4 * k) (cont front l) wx)
        case first =>
          have D := Lib.hid (show KpRel w0 p (8 + 4 * k) (cont front l) wr from ⟨o9, S9, c9, h9, hK9⟩)
          clear h9 hK9 HT HA HSL HL0
          cases front <;> (
            go_wp2_with fail
            go_meet
            exact ⟨rfl, D.out⟩)
        case rest =>
          clear h9 hK9
          obtain ⟨rfl, o9, S9, c9, h9, hK9⟩ := hcut
          obtain ⟨y, hy⟩ : ∃ y, l[k]? = some y := ⟨_, List.getElem?_eq_getElem hkl⟩
          have HC := Lib.hid (HG.out k y hy)
          have hc := h9.cell HB0.out HC.out
          have hab : 0 ≤ atI front l.length k ∧ atI front l.length k < l.length := by unfold atI; split <;> omega
          obtain ⟨ha1, ha2⟩ := at_cont front hy
          generalize atI front l.length k = a at *
          have HA1 := Lib.hid ha1
          have HA2 := Lib.hid ha2
          have H9 := Lib.hid h9
          have HK9 := Lib.hid hK9
          have hle : (cont front l).length ≤ 1099511627776 := by rw [cont_len]; omega
          have HLE := Lib.hid hle
          have hr1 : -9223372036854775807 ≤ a ∧ a ≤ 9223372036854775807 := by omega
          have hr2 : -9223372036854775807 ≤ a - l.length ∧ a - l.length ≤ 9223372036854775807 := by omega
          have hwr : IntKind.i64.wrap (a - (l.length : Int)) = a - (l.length : Int) := by rw [IntKind.wrap_i64]; omega
          have HP1 := Lib.hid (fun W => print_ok W hr1)
          have HP2 := Lib.hid (fun W => print_ok W hr2)
          have HRR1 := Lib.hid (show -9223372036854775808 ≤ a ∧ a ≤ 9223372036854775807 by omega)
          have HRR2 := Lib.hid (show -9223372036854775808 ≤ a - (l.length : Int) ∧ a - (l.length : Int) ≤ 9223372036854775807 by omega)
          clear hy ha1 ha2 h9 hK9 hle hr1 hr2
          go_wp2_with fail
          go_region_held (fun W => W.cell? ⟨b, off + k, none⟩ = some (.string ⟨y.toArray⟩))
            (first | exact hc | exact hc10 | exact hc10a | exact hc11 | exact hc12 | exact hc13 | exact hc13a | exact hc14 | exact hc15 | (go_simp; done)) (first
            | (go_at_call 25
               (with_reducible refine (HP1.out _).mono ?_)
               rintro e w10 ⟨rfl, hB10⟩
               have H10 := Lib.hid (H9.out.below (Below.trans (by repeat (first | exact Below.refl _ _ | refine Below.drew ?_ | refine below_drewN ?_ _)) hB10))
               have hc10 := H10.out.cell HB0.out HC.out
               have hc10a := (H10.out.below (lit_below w10 (.cells #[.string ⟨#[108, 105, 110, 100, 101, 120]⟩, .string ⟨#[107]⟩, .string ⟨(Lib.itoa a).toArray⟩] 9))).cell HB0.out HC.out
               have HU1 := Lib.hid (show Calls Tryz.prog 13 #[.pointer (some ⟨p, 0, none⟩), .slice (some ⟨w10.heap.size, 0, none⟩) 3 3] (w10.alloc (.cells #[.string ⟨#[108, 105, 110, 100, 101, 120]⟩, .string ⟨#[107]⟩, .string ⟨(Lib.itoa a).toArray⟩] 9)) (RunAt w0 _ p _ ⟨4, y, 0, []⟩ (One (cont front l))) from
                 at_run (H10.out.below (lit_below w10 _)) (nm := lindexB) (args := [kB, Lib.itoa a]) (lit_vw w10 [lindexB, kB, Lib.itoa a] (by simp)) (low := lindexB) (by decide) (by decide) (by simp) (by simp) fits_lindex (.inr (.inr (.inl ⟨rfl, .inr (.inr rfl)⟩)))
                   (serves_index (by decide) (HT.out.below (H10.out.below (lit_below w10 _)).since) HK9.out.1 (parseN_itoa HRR1.out) (by have := itoa_len HRR1.out; omega) HRR1.out HLE.out HA1.out HK9.out))
               clear hB10 HP1)
            | (go_at_call 13
               (with_reducible refine HU1.out.mono ?_)
               rintro e w11 ⟨v11, rfl, hv11, o11, S11, c11, h11, hK11, _⟩
               obtain ⟨a11, l11, rfl, _⟩ := id hv11.slice
               have H11 := Lib.hid h11
               have HK12 := Lib.hid hK11
               have hc11 := H11.out.cell HB0.out HC.out
               clear hv11 h11 hK11 HU1 H10)
            | (go_at_call 14
               have hmine := H11
               clear hmine
               refine (lawbulk_ok _ _ _ a11 0 l11).mono ?_
               rintro e w12 ⟨rfl, hB12⟩
               have H12 := Lib.hid (H11.out.below (Below.trans (by repeat (first | exact Below.refl _ _ | refine Below.drew ?_ | refine below_drewN ?_ _)) hB12))
               have hc12 := H12.out.cell HB0.out HC.out
               clear hB12 H11)
            | (go_at_call 25
               (with_reducible refine (HP2.out _).mono ?_)
               rintro e w13 ⟨rfl, hB13⟩
               have H13 := Lib.hid (H12.out.below (Below.trans (by repeat (first | exact Below.refl _ _ | refine Below.drew ?_ | refine below_drewN ?_ _)) hB13))
               have hc13 := H13.out.cell HB0.out HC.out
               have hc13a := (H13.out.below (lit_below w13 (.cells #[.string ⟨#[108, 105, 110, 100, 101, 120]⟩, .string ⟨#[107]⟩, .string ⟨(Lib.itoa (a - l.length)).toArray⟩] 9))).cell HB0.out HC.out
               have HU2 := Lib.hid (show Calls Tryz.prog 13 #[.pointer (some ⟨p, 0, none⟩), .slice (some ⟨w13.heap.size, 0, none⟩) 3 3] (w13.alloc (.cells #[.string ⟨#[108, 105, 110, 100, 101, 120]⟩, .string ⟨#[107]⟩, .string ⟨(Lib.itoa (a - l.length)).toArray⟩] 9)) (RunAt w0 _ p _ ⟨4, y, 0, []⟩ (One (cont front l))) from
                 at_run (H13.out.below (lit_below w13 _)) (nm := lindexB) (args := [kB, Lib.itoa (a - l.length)]) (lit_vw w13 [lindexB, kB, Lib.itoa (a - l.length)] (by simp)) (low := lindexB) (by decide) (by decide) (by simp) (by simp) fits_lindex (.inr (.inr (.inl ⟨rfl, .inr (.inr rfl)⟩)))
                   (serves_index (by decide) (HT.out.below (H13.out.below (lit_below w13 _)).since) HK12.out.1 (parseN_itoa HRR2.out) (by have := itoa_len HRR2.out; omega) HRR2.out HLE.out HA2.out HK12.out))
               clear hB13 HP2)
            | (go_at_call 13
               (with_reducible refine HU2.out.mono ?_)
               rintro e w14 ⟨v14, rfl, hv14, o14, S14, c14, h14, hK14, _⟩
               obtain ⟨a14, l14, rfl, _⟩ := id hv14.slice
               have H14 := Lib.hid h14
               have HK15 := Lib.hid hK14
               have hc14 := H14.out.cell HB0.out HC.out
               clear hv14 h14 hK14 HU2 H13)
            | (go_at_call 14
               have hmine := H14
               clear hmine
               refine (lawbulk_ok _ _ _ a14 0 l14).mono ?_
               rintro e w15 ⟨rfl, hB15⟩
               have H15 := Lib.hid (H14.out.below (Below.trans (by repeat (first | exact Below.refl _ _ | refine Below.drew ?_ | refine below_drewN ?_ _)) hB15))
               have hc15 := H15.out.cell HB0.out HC.out
               clear hB15 H14))
          all_goals (
            have D := Lib.hid (show Kp1 w0 p front l (.int .i64 ((k + 1 : Nat) : Int)) w15 from ⟨k + 1, hkl, rfl, _, _, _, H15.out.mono (by omega), HK15.out⟩)
            clear H15 HK15 HK12 HK9 HA1 HA2 HLE
            go_wp2_with fail
            go_roundw
            case rel => exact D.out
            case measure => simp [intOf]; omega)
      · obtain rfl : k = l.length := by omega
        have hat2 : Kp2 w0 p front l (.int .i64 0) wr := ⟨0, Nat.zero_le _, rfl, o9, S9, c9, h9.mono (by omega), by simpa using hK9⟩
        have hhalf : Int.tdiv (l.length : Int) 2 = ((l.length / 2 : Nat) : Int) := rfl
        clear h9 hK9
        go_wp2_with fail
        go_loopw [12] (fun i wr => Kp2 w0 p front l i wr) (fun i _ => l.length / 2 - (intOf i).toNat)
        case atStart => exact hat2
        case round =>
          obtain ⟨k, hk, rfl, o9, S9, c9, h9, hK9⟩ := hrel
          clear hat2
          by_cases hkl : k < l.length / 2
          · have hkn : k < l.length := by omega
            obtain ⟨y, hy⟩ : ∃ y, l[k]? = some y := ⟨_, List.getElem?_eq_getElem hkn⟩
            have hd : l.drop k = y :: l.drop (k + 1) := by
              rw [List.drop_eq_getElem_cons hkn]
              congr 1
              rw [List.getElem?_eq_getElem hkn] at hy
              cases hy; rfl
            rw [hd, cont_head] at hK9
            have HC := Lib.hid (HG.out k y hy)
            have hc := h9.cell HB0.out HC.out
            have hkI : (0 : Int) ≤ k ∧ (k : Int) < l.length ∧ (k : Int) < ((l.length / 2 : Nat) : Int) := by omega
            have hsm : ∀ z ∈ cont front (l.drop (k + 1)), z.length ≤ 1048576 := fun z hz => HSL.out z (List.mem_of_mem_drop ((cont_mem front _ z).1 hz))
            have hln : (cont front (l.drop (k + 1))).length ≤ 274877906944 := by rw [cont_len]; simp; omega
            have HU := Lib.hid (fun (W2 : World) (hW : Below (wr.alloc (.cells #[.string ⟨(popN (!front)).toArray⟩, .string ⟨#[107]⟩] 9)).heap.size (wr.alloc (.cells #[.string ⟨(popN (!front)).toArray⟩, .string ⟨#[107]⟩] 9)) W2) => show Calls Tryz.prog 13 #[.pointer (some ⟨p, 0, none⟩), .slice (some ⟨wr.heap.size, 0, none⟩) 2 2] W2 (RunAt w0 _ p _ ⟨4, y, 0, []⟩ (One (cont front (l.drop (k + 1))))) from
              at_run (h9.below ((lit_below wr _).trans (hW.mono (by simp)))) (nm := popN (!front)) (args := [kB]) (((lit_vw wr [popN (!front), kB] (by simp)).below hW).imp (fun b hb => Nat.lt_of_lt_of_le hb hW.size)) (low := popN (!front)) (by cases front <;> decide) (by cases front <;> decide) (by simp) (by simp) (fits_pop (!front) (by simp)) (goes_pop (!front))
                (serves_pop (by decide) hK9.1 hsm hln (Nat.le_trans h9.num (by omega)) (fun n h => hK9.setL n h)))
            have hca := (h9.below (lit_below wr (.cells #[.string ⟨(popN (!front)).toArray⟩, .string ⟨#[107]⟩] 9))).cell HB0.out HC.out
            clear hy hd hK9 hsm hln h9
            go_wp2_with fail
            go_region_held (fun W => W.cell? ⟨b, off + k, none⟩ = some (.string ⟨y.toArray⟩))
              (first | exact hc | exact hca | exact hc11 | exact hc12 | (go_simp; done)) (first
              | (go_at_call 13
                 (with_reducible refine (HU.out _ (by repeat (first | exact Below.refl _ _ | refine Below.drew ?_ | refine below_drewN ?_ _))).mono ?_)
                 rintro e w11 ⟨v11, rfl, hv11, o11, S11, c11, h11, hK11, _⟩
                 obtain ⟨a11, l11, rfl, _⟩ := id hv11.slice
                 have H11 := Lib.hid h11
                 have HK11 := Lib.hid hK11
                 have hc11 := H11.out.cell HB0.out HC.out
                 clear hv11 h11 hK11 HU)
              | (go_at_call 14
                 have hmine := H11
                 clear hmine
                 refine (lawbulk_ok _ _ _ a11 0 l11).mono ?_
                 rintro e w12 ⟨rfl, hB12⟩
                 have H12 := Lib.hid (H11.out.below (Below.trans (by repeat (first | exact Below.refl _ _ | refine Below.drew ?_ | refine below_drewN ?_ _)) hB12))
                 have hc12 := H12.out.cell HB0.out HC.out
                 clear hB12 H11))
            all_goals (
              have D := Lib.hid (show Kp2 w0 p front l (.int .i64 ((k + 1 : Nat) : Int)) w12 from ⟨k + 1, hkl, rfl, _, _, _, H12.out.mono (by omega), HK11.out⟩)
              clear H12 HK11
              go_wp2_with fail
              go_roundw
              case rel => exact D.out
              case measure => simp [intOf]; omega)
          · obtain rfl : k = l.length / 2 := by omega
            have hat3 : Kp3 w0 p front l (.int .i64 ((l.length : Int) - 1)) wr := by
              refine ⟨l.length - l.length / 2, Nat.le_refl _, ?_, o9, S9, c9, h9.mono (by omega), ?_⟩
              · congr 1; omega
              · rw [List.take_of_length_le (by simp)]; exact hK9
            clear h9 hK9
            go_wp2_with fail
            go_loopw [13] (fun i wr => Kp3 w0 p front l i wr) (fun i _ => (intOf i + 1 - (l.length / 2 : Nat)).toNat)
            case atStart => exact hat3
            case round =>
              obtain ⟨r, hr, rfl, o9, S9, c9, h9, hK9⟩ := hrel
              clear hat3
              cases r with
              | succ s =>
                generalize hh : l.length / 2 = h at *
                obtain ⟨j, hj⟩ : ∃ j, j = h + s := ⟨_, rfl⟩
                have ei : ((h : Nat) : Int) + ((s + 1 : Nat) : Int) - 1 = ((j : Nat) : Int) := by omega
                rw [ei]
                have hsn : j < l.length := by omega
                obtain ⟨y, hy⟩ : ∃ y, l[j]? = some y := ⟨_, List.getElem?_eq_getElem hsn⟩
                have hd : (l.drop h).take (s + 1) = (l.drop h).take s ++ [y] := by
                  rw [List.take_add_one, List.getElem?_drop, ← hj, hy]; rfl
                rw [hd, cont_last] at hK9
                have HC := Lib.hid (HG.out j y hy)
                have hc := h9.cell HB0.out HC.out
                have hkI : (0 : Int) ≤ ((j : Nat) : Int) ∧ ((j : Nat) : Int) < l.length ∧ (h : Int) ≤ ((j : Nat) : Int) := by omega
                have hsm : ∀ z ∈ cont front ((l.drop h).take s), z.length ≤ 1048576 := fun z hz => HSL.out z (List.mem_of_mem_drop (List.mem_of_mem_take ((cont_mem front _ z).1 hz)))
                have hln : (cont front ((l.drop h).take s)).length ≤ 274877906944 := by rw [cont_len]; simp; omega
                have HU := Lib.hid (fun (W2 : World) (hW : Below (wr.alloc (.cells #[.string ⟨(popN front).toArray⟩, .string ⟨#[107]⟩] 9)).heap.size (wr.alloc (.cells #[.string ⟨(popN front).toArray⟩, .string ⟨#[107]⟩] 9)) W2) => show Calls Tryz.prog 13 #[.pointer (some ⟨p, 0, none⟩), .slice (some ⟨wr.heap.size, 0, none⟩) 2 2] W2 (RunAt w0 _ p _ ⟨4, y, 0, []⟩ (One (cont front ((l.drop h).take s)))) from
                  at_run (h9.below ((lit_below wr _).trans (hW.mono (by simp)))) (nm := popN front) (args := [kB]) (((lit_vw wr [popN front, kB] (by simp)).below hW).imp (fun b hb => Nat.lt_of_lt_of_le hb hW.size)) (low := popN front) (by cases front <;> decide) (by cases front <;> decide) (by simp) (by simp) (fits_pop front (by simp)) (goes_pop front)
                    (serves_pop (by decide) hK9.1 hsm hln (Nat.le_trans h9.num (by omega)) (fun n h => hK9.setL n h)))
                have hca := (h9.below (lit_below wr (.cells #[.string ⟨(popN front).toArray⟩, .string ⟨#[107]⟩] 9))).cell HB0.out HC.out
                have HH := Lib.hid hh
                have HJ := Lib.hid hj
                have hhj : h ≤ j := by omega
                have hge : ((l.length : Int) / 2) ≤ ((j : Nat) : Int) := by omega
                clear hy hd hK9 hsm hln h9 ei hh hj
                go_wp2_with fail
                go_region_held (fun W => W.cell? ⟨b, off + j, none⟩ = some (.string ⟨y.toArray⟩))
                  (first | exact hc | exact hca | exact hc11 | exact hc12 | (go_simp; done)) (first
                  | (go_at_call 13
                     (with_reducible refine (HU.out _ (by repeat (first | exact Below.refl _ _ | refine Below.drew ?_ | refine below_drewN ?_ _))).mono ?_)
                     rintro e w11 ⟨v11, rfl, hv11, o11, S11, c11, h11, hK11, _⟩
                     obtain ⟨a11, l11, rfl, _⟩ := id hv11.slice
                     have H11 := Lib.hid h11
                     have HK11 := Lib.hid hK11
                     have hc11 := H11.out.cell HB0.out HC.out
                     clear hv11 h11 hK11 HU)
                  | (go_at_call 14
                     have hmine := H11
                     clear hmine
                     refine (lawbulk_ok _ _ _ a11 0 l11).mono ?_
                     rintro e w12 ⟨rfl, hB12⟩
                     have H12 := Lib.hid (H11.out.below (Below.trans (by repeat (first | exact Below.refl _ _ | refine Below.drew ?_ | refine below_drewN ?_ _)) hB12))
                     have hc12 := H12.out.cell HB0.out HC.out
                     clear hB12 H11))
                all_goals (
                  have D := Lib.hid (show Kp3 w0 p front l (.int .i64 (((j : Nat) : Int) - 1)) w12 from ⟨s, by rw [HH.out]; omega, by rw [HH.out, HJ.out]; congr 1 <;> omega, _, _, _, H12.out.mono (by omega), by rw [HH.out]; exact HK11.out⟩)
                  clear H12 HK11
                  go_wp2_with fail
                  go_roundw
                  case rel => exact D.out
                  case measure => simp [intOf]; omega)
              | zero =>
                have hN9 : One [] S9 := by rw [List.take_zero, cont_nil] at hK9; exact hK9
                obtain ⟨v, hv⟩ : ∃ v : Int, v = ((l.length / 2 : Nat) : Int) + ((0 : Nat) : Int) - 1 := ⟨_, rfl⟩
                rw [← hv]
                have hlt : v < (l.length : Int) / 2 := by omega
                have hlt2 : ¬ (l.length : Int) / 2 ≤ v := by omega
                have H9 := Lib.hid h9
                have HN9 := Lib.hid hN9
                have hf5 : ∀ a ln c W, (Instr.field 29 (repV 5 [] 0 (.slice a ln c)) 0).run Tryz.prog W = .ok (.int .i64 5) W := fun a ln c W => by kernel_rfl
                have hf7 : ∀ a ln c W, (Instr.field 29 (repV 7 [] 0 (.slice a ln c)) 0).run Tryz.prog W = .ok (.int .i64 7) W := fun a ln c W => by kernel_rfl
                clear hK9 hN9 h9 hv HG HSL HL0 HA
                go_wp2_with fail
                refine (at_run (H9.out.below (lit_below wr _)) (nm := popN front) (args := [kB]) (lit_vw wr [popN front, kB] (by simp)) (low := popN front) (by cases front <;> decide) (by cases front <;> decide) (by simp) (by simp) (fits_pop front (by simp)) (goes_pop front)
                  (serves_pop_none (by decide) HN9.out.1 HN9.out)).mono ?_
                rintro e w10 ⟨v10, rfl, hv10, o10, S10, c10, h10, hK10, _⟩
                obtain ⟨a10, l10, rfl, _⟩ := id hv10.slice
                have H10 := Lib.hid h10
                have HK10 := Lib.hid hK10
                clear hv10 h10 hK10 H9 HN9
                go_wp2_with fail
                refine (at_run (H10.out.below (lit_below w10 _)) (nm := popN front) (args := [kB, [49]]) (lit_vw w10 [popN front, kB, [49]] (by simp)) (low := popN front) (by cases front <;> decide) (by cases front <;> decide) (by simp) (by simp) (fits_pop front (by simp)) (goes_pop front)
                  (serves_pop_gone (by decide) (HT.out.below (H10.out.below (lit_below w10 _)).since) HK10.out.1 parse_1 (by decide) (by decide) HK10.out)).mono ?_
                rintro e w11 ⟨v11, rfl, hv11, o11, S11, c11, h11, hK11, _⟩
                obtain ⟨a11, l11, rfl, _⟩ := id hv11.slice
                have HL := Lib.hid (jlen_ok h11.sp (K := []) (fun k hk => absurd (hK11.nil k) hk) (by decide))
                have H11 := Lib.hid h11
                have HK11 := Lib.hid hK11
                clear hv11 h11 hK11 H10 HK10
                go_wp2_with fail
                refine HL.out.mono ?_; rintro e w12 ⟨n, rfl, hn, hB12⟩
                obtain rfl : n = 0 := hn.2 HK11.out.nil
                have H12 := Lib.hid (H11.out.below hB12)
                clear hn hB12 H11 HK11 HL
                go_wp2_with fail
                go_ret
                exact ⟨rfl, H12.out.since⟩
theorem keeps_con (w0 : World) (hT : Tbl w0) (l : List (List UInt8)) (va : Value) (ha : Vw (Old w0) w0 va 1 l.length (l.map txt)) (hsl : ∀ x ∈ l, x.length ≤ 1048576) (hll : l.length ≤ 1048576) (front : Bool) :
    Calls Tryz.prog 6 #[va, .bool front] w0 fun e w' => e = .returned (.bool true) ∧ Below w0.heap.size w0 w' := keeps_law hT ha front hsl hll
end Go.Proofs.YtgmmeeikjofefaaGreatDoor
