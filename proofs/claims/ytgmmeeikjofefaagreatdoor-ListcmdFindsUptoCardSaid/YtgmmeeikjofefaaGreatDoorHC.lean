import Derived.Test.YtgmmeeikjofefaaGreatDoorGM
import Derived.Test.YtgmmeeikjofefaaGreatDoorHB
import Derived.Test.YtgmmeeikjofefaaGreatDoorGO
import Derived.Test.YtgmmeeikjofefaaGreatDoorGJ
namespace Go.Proofs.YtgmmeeikjofefaaGreatDoor
open Go Go.RowKit
/-! One key alone; a law's world, again. -/
/-- One key alone. -/
def One (l : List (List UInt8)) (S : SP) : Prop := KeyIs S kB l ∧ ∀ j, j ≠ kB → S j = none
theorem One.empty : One [] (fun _ => none) := ⟨KeyIs.empty kB, fun _ _ => rfl⟩
theorem One.nil {S : SP} (h : One [] S) : ∀ k, S k = none := fun k => by
  by_cases hk : k = kB
  · subst hk
    rcases h.1 with ⟨_, h⟩ | ⟨h, _⟩
    · exact h
    · exact absurd rfl h
  · exact h.2 k hk
theorem One.put {S : SP} {l l' : List (List UInt8)} (h : One l S) (H : Hd) (hk : KeyIs (S.put kB H) kB l') : One l' (S.put kB H) := ⟨hk, fun j hj => by show (if j = kB then _ else _) = _; rw [if_neg hj]; exact h.2 j hj⟩
theorem One.setL {S : SP} {l l' tl : List (List UInt8)} (h : One l S) (n : Nat) (hk : KeyIs (S.setL 0 kB tl n) kB l') : One l' (S.setL 0 kB tl n) := ⟨hk, fun j hj => by
  unfold SP.setL
  split
  · show (if j = kB then _ else _) = _; rw [if_neg hj]; exact h.2 j hj
  · show (if j = kB then _ else _) = _; rw [if_neg hj]; exact h.2 j hj⟩
theorem At.mono {o : Roles} {w w0 : World} {p n n' : Nat} {S : SP} {c : Cnt} (h : At w0 o w p S c n) (hn : n ≤ n') : At w0 o w p S c n' := ⟨h.sp, h.st, Nat.le_trans h.num hn⟩
theorem At.cell {o : Roles} {w w0 : World} {p n : Nat} {S : SP} {c : Cnt} (h : At w0 o w p S c n) {b off : Nat} {u : Value} (hb : b < w0.heap.size) (hc : w0.cell? ⟨b, off, none⟩ = some u) : w.cell? ⟨b, off, none⟩ = some u := by
  rw [(bcell h.since).1 _ _ hb]; exact hc
theorem At.nine {o o' : Roles} {w w' w0 : World} {p n : Nat} {S : SP} {c : Cnt} (h : At w0 o w p S c n) (s : Stp [9] o w o' w') : At w0 o' w' p S c n :=
  ⟨h.sp.keep s (by intro t ht; simp at ht), h.st.hide s (fun b _ => by unfold none0; simp), h.num⟩
end Go.Proofs.YtgmmeeikjofefaaGreatDoor
namespace Go.Proofs.YtgmmeeikjofefaaGreatDoor
open Go Go.RowKit
/-! ListcmdFinds. -/
theorem places_pre (v : List UInt8) (l : List (List UInt8)) (k d : Nat) : ∃ t, placesN v l (k + d) = placesN v l k ++ t := by
  induction d with
  | zero => exact ⟨[], by simp⟩
  | succ d ih =>
    obtain ⟨t, ht⟩ := ih
    refine ⟨t ++ (List.filter (fun i => decide (l[i]? = some v)) [k + d]), ?_⟩
    rw [← List.append_assoc, ← ht]
    unfold placesN
    rw [show k + (d + 1) = (k + d) + 1 from rfl, List.range_succ, List.filter_append]
theorem places_get {v : List UInt8} {l : List (List UInt8)} {k : Nat} (h : l[k]? = some v) : (placesN v l l.length)[(placesN v l k).length]? = some k := by
  have hk : k < l.length := (List.getElem?_eq_some_iff.1 h).1
  obtain ⟨t, ht⟩ := places_pre v l (k + 1) (l.length - (k + 1))
  rw [show k + 1 + (l.length - (k + 1)) = l.length by omega, placesN_yes h] at ht
  rw [ht, List.append_assoc, List.getElem?_append_right (Nat.le_refl _)]
  simp
theorem At.from {o : Roles} {w w0 : World} {p n : Nat} {S : SP} {c : Cnt} (h : At w0 o w p S c n) (r : List Nat) : At w0 (o.from w.heap.size r) w p S c n := ⟨h.sp.from, h.st.trans (Stp.from0 _ _ _ _), h.num⟩
def FnRel (oS : Roles) (wS : World) (l : List (List UInt8)) (v : List UInt8) (at' rest i : Value) (wr : World) : Prop :=
  ∃ k n g o', k ≤ l.length ∧ i = .int .i64 ((k : Nat) : Int) ∧ at' = .int .i64 ((g : Nat) : Int) ∧ g = (placesN v l k).length ∧ n = (restL v (l.take k)).length ∧ Row o' wr [9] 9 1 rest n ((restL v (l.take k)).map txt) ∧ Stp [9] oS wS o' wr
set_option maxRecDepth 10000 in
set_option maxHeartbeats 20000000 in
theorem finds_none {w0 : World} (hT : Tbl w0) (a : Option Addr) (cap : Nat) (v : List UInt8) :
    Calls Tryz.prog 7 #[.slice a 0 cap, txt v] w0 fun e w' => e = .returned (.bool true) ∧ Below w0.heap.size w0 w' := by
  have HN := Lib.hid (jnew_ok none0 w0 [1])
  have HT := Lib.hid hT
  clear hT
  unfold txt
  go_enter Tryz.func7, Tryz.ntmps7
  go_wp2_with fail
  refine HN.out.mono ?_; rintro e w1 ⟨p, o1, rfl, hj, hs⟩
  have HAW := Lib.hid (awake_ok (HT.out.below hs.below0))
  have HB1 := Lib.hid hs.below0
  clear hj hs HN
  go_wp2_with fail
  refine HAW.out.mono ?_; rintro e w2 ⟨rfl, hB2⟩
  have hB02 := HB1.out.trans (hB2.mono HB1.out.size)
  have HAW2 := Lib.hid (awake_ok (HT.out.below hB02))
  have HB2 := Lib.hid hB02
  clear hB2 hB02 HAW
  go_wp2_with fail
  refine HAW2.out.mono ?_; rintro e w3 ⟨rfl, hB3⟩
  have HB3 := Lib.hid (HB2.out.trans (hB3.mono HB2.out.size))
  clear hB3 HAW2
  go_wp2_with fail
  go_ret
  exact ⟨rfl, HB3.out⟩
set_option maxRecDepth 10000 in
set_option maxHeartbeats 20000000 in
theorem finds_law {w0 : World} (hT : Tbl w0) {va : Value} {l : List (List UInt8)} (ha : Vw (Old w0) w0 va 1 l.length (l.map txt)) (v : List UInt8) (hsl : ∀ x ∈ l, x.length ≤ 1048576) (hll : l.length ≤ 1048576) :
    Calls Tryz.prog 7 #[va, txt v] w0 fun e w' => e = .returned (.bool true) ∧ Below w0.heap.size w0 w' := by
  obtain ⟨aa, ca, rfl, _⟩ := id ha.slice
  by_cases hl0 : l = []
  · subst hl0
    exact finds_none hT aa ca v
  have hl1 : 0 < l.length := List.length_pos_iff.2 hl0
  have e0 : ((l.length : Int) == 0) = false := beq_eq_false_iff_ne.2 (by omega)
  have HN := Lib.hid (jnew_ok none0 w0 [1])
  have HT := Lib.hid hT
  have HA := Lib.hid ha
  have HSL := Lib.hid hsl
  have HL0 := Lib.hid hl0
  obtain ⟨i0, hi0, hz0, hz1, hz2⟩ := info_parts infoS
  obtain ⟨b, off, rfl, hb0, hcap, hg⟩ := vw_get ha hl1
  have HB0 := Lib.hid (show b < w0.heap.size from hb0)
  have HG := Lib.hid hg
  clear hT ha hsl hl0 hb0 hg
  unfold txt
  go_enter Tryz.func7, Tryz.ntmps7
  go_wp2_with fail
  refine HN.out.mono ?_; rintro e w1 ⟨p, o1, rfl, hj, hs⟩
  have h1 : At w0 o1 w1 p (fun _ => none) ⟨0, 0⟩ 0 := ⟨hj, hs, Nat.le_refl _⟩
  have HAW := Lib.hid (awake_ok (HT.out.below hs.below0))
  have H1 := Lib.hid h1
  clear hj hs h1 HN
  go_wp2_with fail
  refine HAW.out.mono ?_; rintro e w2 ⟨rfl, hB2⟩
  have H2 := Lib.hid (H1.out.below hB2)
  clear hB2 HAW H1
  go_wp2_with fail
  refine (lawshort_ok (H2.out.vw HA.out) HSL.out (by omega)).mono ?_
  rintro e wc ⟨rfl, rfl⟩
  have HROW := Lib.hid (Row.lit o1 wc [9] 9 [txt rpushB, txt kB] (by simp))
  have HSRC := Lib.hid (((H2.out.vw HA.out).below (lit_below wc (.cells [txt rpushB, txt kB].toArray 9))).src (P := Tryz.prog) Tryz.underlying22 (one_list l))
  go_wp2_with (
    at_builtin
    refine wpList_app _ rfl _ _ 22 22 rfl 9 i0 _ 1 16 Tryz.underlying22 hi0 hz0 hz1 hz2 rfl rfl HROW.out rfl HSRC.out (by unfold maxLen; simp; omega) (by simp; omega) ?_
    intro v' w4 o4 hrow hst
    obtain ⟨a4, c4, rfl, _⟩ := id hrow.slice
    have H4 := Lib.hid (H2.out.app _ hst)
    have HV4 := Lib.hid hrow.vw.old
    clear hrow hst HROW HSRC H2)
  have hv4 := HV4.out
  have e2 : [txt rpushB, txt kB].length + l.length = (kB :: l).length + 1 := by simp; omega
  rw [e2] at hv4
  rw [show 2 + l.length = (kB :: l).length + 1 from by simp; omega]
  refine (at_run H4.out (nm := rpushB) (args := kB :: l) hv4 (low := rpushB) (by decide) (by decide) (by simp; omega) (by simp) (fits_rpush (by simp; omega)) (.inl ⟨rfl, .inr rfl⟩)
    (r := ⟨3, [], (l.length : Int), []⟩) (K := One l)
    (by
      have := serves_push (w := w4) (p := p) (q := [1]) (c := ⟨0, 0⟩) (by decide) (KeyIs.empty kB) false HL0.out (fun x hx => HSL.out x (by simpa [pushL] using hx)) (by simp; omega) (by decide) (K := One l) (fun H h => One.empty.put H (by simpa [pushL] using h))
      rw [show (pushL false [] l).length = l.length from by simp [pushL]] at this
      exact this)).mono ?_
  rintro e w5 ⟨v5, rfl, hv5, o5, S5, c5, h5, hK5, _⟩
  obtain ⟨a5, l5, rfl, _⟩ := id hv5.slice
  have H5 := Lib.hid h5
  have HK5 := Lib.hid hK5
  clear hv4 hv5 h5 hK5 H4 HV4 e2
  have HU := Lib.hid (show Calls Tryz.prog 13 #[.pointer (some ⟨p, 0, none⟩), .slice (some ⟨w5.heap.size, 0, none⟩) 5 5] (w5.alloc (.cells #[.string ⟨lposB.toArray⟩, .string ⟨kB.toArray⟩, .string ⟨v.toArray⟩, .string ⟨countB.toArray⟩, .string ⟨#[48]⟩] 9)) (RepB _ (numsR (placesN v l l.length))) from
    lawrun_ro (H5.out.below (lit_below w5 _)).sp (by decide) (nm := lposB) (args := [kB, v, countB, [48]]) (lit_vw w5 [lposB, kB, v, countB, [48]] (by simp)) (low := lposB) (by decide) (by decide) (by simp) (by simp) fits_lpos (.inr ⟨rfl, rfl⟩)
      (tells_pos (by decide) (HT.out.below (H5.out.below (lit_below w5 _)).since) HK5.out.1 (by omega)))
  unfold RepB numsR at HU
  dsimp only at HU
  go_wp2_with fail
  refine HU.out.mono ?_; rintro e w6 ⟨v6, rfl, hv6, hB6⟩
  rw [List.length_map] at hv6
  obtain ⟨N, hN⟩ : ∃ N, N = (placesN v l l.length).length := ⟨_, rfl⟩
  have hNl : N ≤ l.length := by rw [hN]; exact placesN_le v l l.length
  rw [← hN] at hv6
  replace hv6 : Vw (fun b => (w5.alloc (.cells #[.string ⟨lposB.toArray⟩, .string ⟨kB.toArray⟩, .string ⟨v.toArray⟩, .string ⟨countB.toArray⟩, .string ⟨#[48]⟩] 9)).heap.size ≤ b) w6 v6 4 N _ := hv6
  replace hB6 : Below (w5.alloc (.cells #[.string ⟨lposB.toArray⟩, .string ⟨kB.toArray⟩, .string ⟨v.toArray⟩, .string ⟨countB.toArray⟩, .string ⟨#[48]⟩] 9)).heap.size (w5.alloc (.cells #[.string ⟨lposB.toArray⟩, .string ⟨kB.toArray⟩, .string ⟨v.toArray⟩, .string ⟨countB.toArray⟩, .string ⟨#[48]⟩] 9)) w6 := hB6
  obtain ⟨a6, c6, rfl, _⟩ := id hv6.slice
  generalize hWL : w5.alloc (.cells #[.string ⟨lposB.toArray⟩, .string ⟨kB.toArray⟩, .string ⟨v.toArray⟩, .string ⟨countB.toArray⟩, .string ⟨#[48]⟩] 9) = wL at *
  have hL5 : At w0 o5 wL p S5 c5 (0 + 2) := by rw [← hWL]; exact H5.out.below (lit_below w5 _)
  have hS6 := (hL5.from [8]).below hB6
  have hBt := lit_below w6 (.cells #[.int .i64 6, .string ⟨#[]⟩, .int .i64 0, .slice a6 N c6] 29)
  have HS := Lib.hid (hS6.below hBt)
  have HNEW := Lib.hid (fun b hb => Roles.from_new (o := o5) (base := wL.heap.size) (b := b) (r := [8]) hb)
  have HT6 := Lib.hid (show Blk (o5.from wL.heap.size [8]) (w6.alloc (.cells #[.int .i64 6, .string ⟨#[]⟩, .int .i64 0, .slice a6 N c6] 29)) [8] w6.heap.size #[.int .i64 6, .string ⟨#[]⟩, .int .i64 0, .slice a6 N c6] 29 from ⟨heap_alloc_new w6 _, Roles.from_new hB6.size⟩)
  have HV6 := Lib.hid (hv6.below hBt)
  have ht6 := HT6.out.cell
  clear hv6 hB6 hL5 hS6 hBt hWL HU H5
  generalize o5.from wL.heap.size [8] = oS at *
  have HNN := Lib.hid hN
  clear hN
  go_wp2_with fail
  generalize hWS : w6.alloc (.cells #[.int .i64 6, .string ⟨#[]⟩, .int .i64 0, .slice a6 N c6] 29) = wS at *
  clear hWS
  have hat : FnRel oS wS l v (.int .i64 0) (.slice none 0 0) (.int .i64 0) wS := ⟨0, 0, 0, oS, Nat.zero_le _, rfl, rfl, rfl, rfl, Row.nil _ _ _ _ _, Stp.refl _ _ _⟩
  clear ht6
  go_loopw [7, 8, 9] (fun a r i wr => FnRel oS wS l v a r i wr) (fun _ _ i _ => l.length - (intOf i).toNat)
  case atStart => exact hat
  case round =>
    obtain ⟨k, n, g, o9, hk, rfl, rfl, hg, hn, hrow, hst⟩ := hrel
    clear hat
    obtain ⟨ao, co, rfl, _⟩ := id hrow.slice
    have hnk : n ≤ k := by rw [hn]; exact Nat.le_trans (restL_len _ _) (by simp; omega)
    have hgk : g ≤ k := by rw [hg]; exact placesN_le v l k
    have H9 := Lib.hid (HS.out.nine hst)
    have ht := (HT6.out.keep hst (by decide)).cell
    by_cases hkl : k < l.length
    · obtain ⟨y, hy⟩ : ∃ y, l[k]? = some y := ⟨_, List.getElem?_eq_getElem hkl⟩
      have hcell := H9.out.cell HB0.out (HG.out k y hy)
      have hkI : (0 : Int) ≤ k ∧ (k : Int) < l.length := by omega
      have HROW := Lib.hid hrow
      have HST := Lib.hid hst
      have HG0 := Lib.hid hg
      have HN0 := Lib.hid hn
      have HY := Lib.hid hy
      by_cases hyv : y = v
      · subst hyv
        have hgN : g < N := by
          rw [hg, HNN.out]
          exact (List.getElem?_eq_some_iff.1 (places_get hy)).1
        have hgI : ((g : Int) < (N : Int)) ∧ (0 : Int) ≤ g := by omega
        have hvS := HV6.out.stay hst.size (fun b hb hb2 => hst.block b hb2 (by rw [HNEW.out b hb]; decide))
        obtain ⟨b2, off2, rfl, hcap2, hbl2, d0, d1, d2, d3⟩ := vw_rf hvS (k := g) (y := numF (k : Int)) (by rw [hg, List.getElem?_map, places_get hy]; rfl)
        have d0 : _ = some (Value.int .i64 3) := d0
        have d1 : _ = some (Value.string ⟨#[]⟩) := d1
        have d2 : _ = some (Value.int .i64 (k : Int)) := d2
        have hpr : -9223372036854775807 ≤ (k : Int) ∧ (k : Int) ≤ 9223372036854775807 := by omega
        have HPR := Lib.hid (fun W => print_ok W hpr)
        have hrg : -9223372036854775808 ≤ (k : Int) ∧ (k : Int) ≤ 9223372036854775807 := by omega
        have HRG := Lib.hid hrg
        have HAT := Lib.hid (show atL l (k : Int) = some y by
          unfold atL posI
          rw [if_neg (show ¬ (k : Int) < 0 by omega), if_pos (show (0 : Int) ≤ (k : Int) by omega), Int.toNat_natCast]
          exact hy)
        clear hvS hrow hst hg hn hy hpr hrg
        go_wp2_with fail
        refine (lawnumber_ok _ [] (k : Int) none 0 0).mono ?_; rintro e w10 ⟨rfl, hB10⟩
        have HB10 := Lib.hid hB10
        clear hB10 d0 d1 d2 d3
        go_wp2_with fail
        refine (HPR.out _).mono ?_; rintro e w11 ⟨rfl, hB11⟩
        have HB11 := Lib.hid (HB10.out.trans (hB11.mono HB10.out.size))
        have H11 := Lib.hid (H9.out.below HB11.out)
        clear hB11 HB10
        have HU := Lib.hid (show Calls Tryz.prog 13 #[.pointer (some ⟨p, 0, none⟩), .slice (some ⟨w11.heap.size, 0, none⟩) 3 3] (w11.alloc (.cells #[.string ⟨lindexB.toArray⟩, .string ⟨kB.toArray⟩, .string ⟨(Lib.itoa (k : Int)).toArray⟩] 9)) (RepB _ ⟨4, y, 0, []⟩) from
          lawrun_ro (H11.out.below (lit_below w11 _)).sp (by decide) (nm := lindexB) (args := [kB, Lib.itoa (k : Int)]) (lit_vw w11 [lindexB, kB, Lib.itoa (k : Int)] (by simp)) (low := lindexB) (by decide) (by decide) (by simp) (by simp) fits_lindex (.inl ⟨rfl, .inr rfl⟩)
            (tells_index (by decide) (HT.out.below (H11.out.below (lit_below w11 _)).since) HK5.out.1 (parseN_itoa HRG.out) (by have := itoa_len HRG.out; omega) HRG.out (by omega) HAT.out))
        unfold RepB at HU
        dsimp only at HU
        go_wp2_with fail
        refine HU.out.mono ?_; rintro e w12 ⟨v12, rfl, hv12, hB12⟩
        obtain ⟨a12, c12, rfl, _⟩ := id hv12.slice
        have HB12 := Lib.hid (HB11.out.trans (((lit_below w11 _).trans (hB12.mono (by simp))).mono HB11.out.size))
        clear hv12 hB12 HU H11
        go_wp2_with fail
        refine (lawbulk_ok _ _ _ _ _ _).mono ?_; rintro e w13 ⟨rfl, hB13⟩
        have hB13' := HB12.out.trans (hB13.mono HB12.out.size)
        have D := Lib.hid (show FnRel oS wS l y (.int .i64 ((g + 1 : Nat) : Int)) (.slice ao n co) (.int .i64 ((k + 1 : Nat) : Int)) w13 from
          ⟨k + 1, n, g + 1, o9, hkl, rfl, rfl, by rw [placesN_yes HY.out, HG0.out]; simp, by rw [restL_yes HY.out, HN0.out], by rw [restL_yes HY.out]; exact HROW.out.below hB13', HST.out.trans (Stp.ofBelow [9] o9 hB13')⟩)
        clear hB13 hB13' HB12 HB11 HROW HST
        go_wp2_with fail
        go_roundw
        case rel => exact D.out
        case measure => simp [intOf]; omega
      · have hd : (y == v) = false := by simpa using hyv
        have hd2 : (y != v) = true := by simpa using hyv
        have HR3 := Lib.hid (hrow.below ((Below.refl _ wr).alloc (Nat.le_refl _) (.cells #[txt y] 9)))
        have HST3 := Lib.hid (hst.trans (Stp.ofBelow [9] o9 ((Below.refl _ wr).alloc (Nat.le_refl _) (.cells #[txt y] 9))))
        have HSRC := Lib.hid ((vw_new1 wr y 9).src (P := Tryz.prog) Tryz.underlying22 (one_list [y]))
        clear hrow hst hg hn hy HROW HST ht
        unfold txt at HR3 HST3 HSRC
        have hm1 : n + 1 ≤ maxLen := by unfold maxLen; omega
        have hm2 : (n + 1) * 16 ≤ 140737488355328 := by omega
        go_wp2_with (
          at_builtin
          refine wpList_app _ rfl _ _ 22 22 rfl 9 i0 _ 1 16 Tryz.underlying22 hi0 hz0 hz1 hz2 rfl rfl HR3.out rfl HSRC.out hm1 hm2 ?_
          intro v' w10 o10 hrow10 hst10
          obtain ⟨a10, c10, rfl, _⟩ := id hrow10.slice
          have e1 : n + 1 = (restL v (l.take (k + 1))).length := by rw [restL_no HY.out hyv, HN0.out]; simp
          have e2 : Row o10 w10 [9] 9 1 (.slice a10 (n + 1) c10) (n + 1) ((restL v (l.take (k + 1))).map txt) := by rw [restL_no HY.out hyv, List.map_append]; exact hrow10
          have e3 : g = (placesN v l (k + 1)).length := by rw [placesN_no HY.out hyv, HG0.out]
          have D := Lib.hid (show FnRel oS wS l v (.int .i64 ((g : Nat) : Int)) (.slice a10 (n + 1) c10) (.int .i64 ((k + 1 : Nat) : Int)) w10 from
            ⟨k + 1, n + 1, g, o10, hkl, rfl, rfl, e3, e1, e2, HST3.out.trans hst10⟩)
          clear hrow10 hst10 HR3 HST3 HSRC e1 e2 e3 hm1 hm2)
        go_roundw
        case rel => exact D.out
        case measure => simp [intOf]; omega
    · obtain rfl : k = l.length := by omega
      rw [List.take_length] at hrow hn
      obtain rfl : g = N := hg.trans HNN.out.symm
      have HROW := Lib.hid (hrow.below (lit_below wr (.cells #[.string ⟨lremB.toArray⟩, .string ⟨kB.toArray⟩, .string ⟨#[48]⟩, .string ⟨v.toArray⟩] 9)))
      have HN0 := Lib.hid hn
      have HU := Lib.hid (show Calls Tryz.prog 13 #[.pointer (some ⟨p, 0, none⟩), .slice (some ⟨wr.heap.size, 0, none⟩) 4 4] (wr.alloc (.cells #[.string ⟨lremB.toArray⟩, .string ⟨kB.toArray⟩, .string ⟨#[48]⟩, .string ⟨v.toArray⟩] 9)) (RepL o9 _ [1] p c5 (numR (placesN v l l.length).length) (One (restL v l))) from
        lawrun_ok (H9.out.below (lit_below wr _)).sp (by decide) (nm := lremB) (args := [kB, [48], v]) (lit_vw wr [lremB, kB, [48], v] (by simp)) (low := lremB) (by decide) (by decide) (by simp) (by simp) fits_lrem (by simp [Goes])
          (serves_lrem (by decide) (HT.out.below (H9.out.below (lit_below wr _)).since) HK5.out.1 HL0.out HSL.out (by omega) (Nat.le_trans H9.out.num (by decide)) (fun h => by rw [h]; exact HK5.out) (fun n h => HK5.out.setL n h)))
      have H9L := Lib.hid (H9.out.below (lit_below wr (.cells #[.string ⟨lremB.toArray⟩, .string ⟨kB.toArray⟩, .string ⟨#[48]⟩, .string ⟨v.toArray⟩] 9)))
      rw [← HNN.out] at HU
      unfold RepL numR at HU
      dsimp only at HU
      have hnl : n ≤ l.length := hnk
      clear hrow hst hg hn H9
      go_wp2_with fail
      refine HU.out.mono ?_; rintro e w10 ⟨v10, rfl, hv10, o10, S10, c10, hj10, hK10, hc10, hs10⟩
      obtain ⟨a10, l10, rfl, _⟩ := id hv10.slice
      have H10 := Lib.hid (show At w0 o10 w10 p S10 c10 100 from ⟨hj10, H9L.out.st.trans hs10, Nat.le_trans hc10 (Nat.le_trans (Nat.add_le_add_right H9L.out.num 2) (by decide))⟩)
      have HROW10 := Lib.hid (HROW.out.keep hs10 (by decide))
      have HK10 := Lib.hid hK10
      clear hv10 hj10 hK10 hc10 hs10 HU HROW H9L ht
      go_wp2_with fail
      refine (lawnumber_ok _ _ _ _ _ _).mono ?_; rintro e w11 ⟨rfl, hB11⟩
      have H11 := Lib.hid (H10.out.below hB11)
      have HROW11 := Lib.hid (HROW10.out.below hB11)
      clear hB11 H10 HROW10
      have HU := Lib.hid (show Calls Tryz.prog 13 #[.pointer (some ⟨p, 0, none⟩), .slice (some ⟨w11.heap.size, 0, none⟩) 4 4] (w11.alloc (.cells #[.string ⟨lrangeB.toArray⟩, .string ⟨kB.toArray⟩, .string ⟨#[48]⟩, .string ⟨#[45, 49]⟩] 9)) (RepB _ (bulksR (restL v l))) from by
        have := lawrun_ro (H11.out.below (lit_below w11 (.cells #[.string ⟨lrangeB.toArray⟩, .string ⟨kB.toArray⟩, .string ⟨#[48]⟩, .string ⟨#[45, 49]⟩] 9))).sp (by decide) (nm := lrangeB) (args := [kB, [48], [45, 49]]) (lit_vw w11 [lrangeB, kB, [48], [45, 49]] (by simp)) (low := lrangeB) (by decide) (by decide) (by simp) (by simp) fits_lrange (.inl ⟨rfl, .inl rfl⟩)
          (tells_range (by decide) (HT.out.below (H11.out.below (lit_below w11 _)).since) HK10.out.1 parse_0 parse_m1 (by decide) (by decide) (by decide) (by decide) (by have := restL_len v l; omega))
        rw [piece_all] at this
        exact this)
      unfold RepB bulksR at HU
      dsimp only at HU
      go_wp2_with fail
      refine HU.out.mono ?_; rintro e w12 ⟨v12, rfl, hv12, hB12⟩
      rw [List.length_map] at hv12
      obtain ⟨a12, c12, rfl, _⟩ := id hv12.slice
      have hB12' := (lit_below w11 _).trans (hB12.mono (by simp))
      have hrow12 := HROW11.out.below hB12'
      rw [HN0.out] at hrow12
      have HBK := Lib.hid (lawbulks_ok hv12 hrow12.vw (by have := restL_len v l; omega))
      rw [HN0.out]
      have H12 := Lib.hid (H11.out.below hB12')
      clear hv12 hB12 hB12' hrow12 HU H11 HROW11
      go_wp2_with fail
      refine HBK.out.mono ?_; rintro e w13 ⟨rfl, hB13⟩
      have H13 := Lib.hid (H12.out.below hB13)
      clear hB13 H12 HBK
      have HL := Lib.hid (jlen_ok H13.out.sp (K := [kB]) (fun k hk => by
        by_cases hkk : k = kB
        · simp [hkk]
        · exact absurd (HK10.out.2 k hkk) hk) (by decide))
      go_wp2_with fail
      refine HL.out.mono ?_; rintro e w14 ⟨n14, rfl, hn14, hB14⟩
      have H14 := Lib.hid (H13.out.below hB14)
      have hiff : n14 = 0 ↔ (restL v l).length = 0 := by
        rw [hn14]
        constructor
        · intro h
          rcases HK10.out.1 with ⟨h1, _⟩ | ⟨_, n, h2⟩
          · rw [h1]; rfl
          · rw [h kB] at h2; cases h2
        · intro h
          have h1 := List.length_eq_zero_iff.1 h
          have := HK10.out
          rw [h1] at this
          exact this.nil
      generalize (restL v l).length = r at *
      clear hn14 hB14 H13 HL
      by_cases hr : r = 0
      · obtain rfl := hr
        obtain rfl := hiff.2 rfl
        go_wp2_with fail
        go_ret
        exact ⟨rfl, H14.out.since⟩
      · have h14 : n14 ≠ 0 := fun h => hr (hiff.1 h)
        have e1 : ((n14 : Int) == 0) = false := beq_eq_false_iff_ne.2 (by omega)
        have e2 : ((r : Int) == 0) = false := beq_eq_false_iff_ne.2 (by omega)
        go_wp2_with fail
        go_ret
        exact ⟨rfl, H14.out.since⟩
theorem finds_con (w0 : World) (hT : Tbl w0) (l : List (List UInt8)) (va : Value) (ha : Vw (Old w0) w0 va 1 l.length (l.map txt)) (hsl : ∀ x ∈ l, x.length ≤ 1048576) (hll : l.length ≤ 1048576) (v : List UInt8) :
    Calls Tryz.prog 7 #[va, txt v] w0 fun e w' => e = .returned (.bool true) ∧ Below w0.heap.size w0 w' := finds_law hT ha v hsl hll
end Go.Proofs.YtgmmeeikjofefaaGreatDoor
