import Derived.Test.YthojmgjgmbnopaaGreatDoorBc
import Derived.Test.YthojmgjgmbnopaaGreatDoorTa
namespace Go.Proofs.YthojmgjgmbnopaaGreatDoor
open Go Go.RowKit
/-! SETBIT, GETBIT, BITCOUNT, BITPOS: their functions. -/
abbrev offErr : Tx := [69, 82, 82, 32, 116, 104, 101, 32, 111, 102, 102, 115, 101, 116, 32, 108, 105, 101, 115, 32, 111, 117, 116, 115, 105, 100, 101]
set_option maxRecDepth 10000 in
theorem tplace_in {w : World} (hT : Tbl w) {y : Tx} {p : Nat} (hp : p < 8388608) (hy : parseN y = some (p : Int)) (hyl : y.length ≤ 1099511627776) : Calls Tryz.prog 188 #[txt y] w fun e w' => e = .returned (.tuple #[.int .i64 p, .string ⟨#[]⟩]) ∧ Below w.heap.size w w' := by
  have hp1 := parse_ok hT y hyl
  unfold ParseDid at hp1
  rw [hy] at hp1
  simp only [Option.getD_some, Option.isSome_some, if_true] at hp1
  have HP := Lib.hid hp1
  have d1 : decide ((p : Int) < 0) = false := decide_eq_false (by omega)
  have d2 : decide ((8388608 : Int) ≤ (p : Int)) = false := decide_eq_false (by omega)
  clear hp1 hy hT hp hyl
  unfold txt at *
  go_enter Tryz.func188, Tryz.ntmps188
  go_wp2_with fail
  refine HP.out.mono ?_; rintro e w2 ⟨rfl, hB2⟩
  have HB2 := Lib.hid hB2
  clear hB2 HP
  go_wp2_with fail
  go_ret2
  exact ⟨rfl, HB2.out⟩
set_option maxRecDepth 10000 in
theorem tplace_out {w : World} (hT : Tbl w) {y : Tx} {p : Int} (hp : p < 0 ∨ 8388608 ≤ p) (hy : parseN y = some p) (hyl : y.length ≤ 1099511627776) : Calls Tryz.prog 188 #[txt y] w fun e w' => e = .returned (.tuple #[.int .i64 0, txt offErr]) ∧ Below w.heap.size w w' := by
  have hp1 := parse_ok hT y hyl
  unfold ParseDid at hp1
  rw [hy] at hp1
  simp only [Option.getD_some, Option.isSome_some, if_true] at hp1
  have HP := Lib.hid hp1
  clear hp1 hy hT
  unfold txt at *
  rcases hp with h | h
  · have d1 : decide (p < 0) = true := decide_eq_true h
    go_enter Tryz.func188, Tryz.ntmps188
    go_wp2_with fail
    refine HP.out.mono ?_; rintro e w2 ⟨rfl, hB2⟩
    have HB2 := Lib.hid hB2
    clear hB2 HP
    go_wp2_with fail
    go_ret2
    exact ⟨rfl, HB2.out⟩
  · have d1 : decide (p < 0) = false := decide_eq_false (by omega)
    have d2 : decide ((8388608 : Int) ≤ p) = true := decide_eq_true h
    go_enter Tryz.func188, Tryz.ntmps188
    go_wp2_with fail
    refine HP.out.mono ?_; rintro e w2 ⟨rfl, hB2⟩
    have HB2 := Lib.hid hB2
    clear hB2 HP
    go_wp2_with fail
    go_ret2
    exact ⟨rfl, HB2.out⟩
theorem tbit_one (w : World) : Calls Tryz.prog 184 #[txt [49]] w fun e w' => e = .returned (.tuple #[.int .i64 1, .string ⟨#[]⟩]) ∧ w' = w := by
  unfold txt
  go_enter Tryz.func184, Tryz.ntmps184
  go_wp2_with fail
  go_ret2
  exact ⟨rfl, rfl⟩
section
variable {o : Roles} {w : World} {q : List Nat} {p : Nat} {c : Cnt} {S : SP} {cb : Nat} {ρ : List Nat} {now : Int} {sv : Value} {nm : Tx}
set_option maxRecDepth 10000 in
set_option maxHeartbeats 8000000 in
theorem tsetbit_ok (h : SpJ o w q p S c) (hq : q ≠ []) (hρ : ¬ q <+: ρ) (hTb : Tbl w) {k y : Tx} (hcb : Blk o w ρ cb (callC p now nm sv) 108)
    (hv : Vw (fun b => b < w.heap.size ∧ ¬ q <+: o b) w sv 1 3 ([k, y, [49]].map txt)) {V : VV} (hV : ((S.at now k).getD hd0).v = V) {ok : Bool} (hok : (S.at now k).isSome = ok) (hk1 : (ok && V.kind != 1) = false)
    {j : Nat} (hj8 : j < 8388608) (hy : parseN y = some (j : Int)) (hyl : y.length ≤ 1099511627776) (hl : V.text.length ≤ 1048576) (hc : c.num ≤ 4611686018427387000) (hf : c.few ≤ 1099511627000) :
    Calls Tryz.prog 113 #[.pointer (some ⟨cb, 0, none⟩)] w (RepJ o w q p (S.keepT now k (setT V.text j) (c.num + 1)) c.next ⟨3, [], (bitT V.text j : Int)⟩) := by
  obtain ⟨o1, m1, hbg, hj⟩ := begin_roles h hq
  have hfr0 := Fr.begin hbg hj hcb
  have hcc := hcb.cell
  have hcl := hcb.lt
  obtain ⟨a0, cap, rfl, hcap, _, _⟩ := id hv.slice
  obtain ⟨b, off, rfl, hbl, hcap, hg⟩ := vw_get hv (by omega)
  obtain ⟨hbl, hbq⟩ := hbl
  have hk := hg 0 k rfl
  have hk1' := hg 1 y rfl
  have hk2' := hg 2 [49] rfl
  rw [Nat.add_zero] at hk
  have hcapI : (3 : Int) ≤ (cap : Int) := by omega
  have hka : (w.alloc (.cells zRepC 30)).cell? ⟨b, off, none⟩ = some (.string ⟨k.toArray⟩) := cell_below hbg.res.2 hk
  have hkb : (w.alloc (.cells zRepC 30)).cell? ⟨b, off + 1, none⟩ = some (.string ⟨y.toArray⟩) := cell_below hbg.res.2 hk1'
  have hkc : (w.alloc (.cells zRepC 30)).cell? ⟨b, off + 2, none⟩ = some (.string ⟨#[49]⟩) := cell_below hbg.res.2 hk2'
  have HF := Lib.hid hfr0
  have HPL := Lib.hid (tplace_in (hTb.below hbg.res.2) hj8 hy hyl)
  have HTX := Lib.hid (fun (W : World) (hf : Fr o w q p m1 ρ cb (callC p now nm (.slice (some ⟨b, off, none⟩) 3 cap)) S c o1 W) => show Calls Tryz.prog 175 #[.pointer (some ⟨cb, 0, none⟩), txt k] W (fun e w' => e = .returned (.tuple #[txt V.text, .bool ok, .bool false]) ∧ Below W.heap.size W w') by
    have hst := ctext_ok hf.sp hf.call k
    unfold TextDid at hst
    rw [hok, hV, hk1] at hst
    exact hst)
  have HBG := Lib.hid hbg
  have HSB := Lib.hid (fun W => bsetbit_ok W V.text hj8 hl)
  have hpt := fun (W : World) (o2 : Roles) (h2 : SpJ o2 W q p S c) (hb2 : Blk o2 W ρ cb (callC p now nm (.slice (some ⟨b, off, none⟩) 3 cap)) 108) => tput_ok h2 hb2 k (setT V.text j) (by rw [setT_length]; omega) (by omega) (by omega)
  obtain ⟨S1, hS1⟩ : ∃ S1, S1 = S.keepT now k (setT V.text j) (c.num + 1) := ⟨_, rfl⟩
  rw [← hS1] at hpt ⊢
  have HPT := Lib.hid hpt
  have HCB := Lib.hid (fun (W : World) (hB : Below (w.alloc (.cells zRepC 30)).heap.size (w.alloc (.cells zRepC 30)) W) => And.intro (cell_below hB hka) (And.intro (cell_below hB hkb) (cell_below hB hkc)))
  clear h hcb hv hbg hj hfr0 hg hok hV hk1 hpt hS1 hl hTb hy
  unfold txt at HTX HPT HPL HSB
  generalize V.text = t at *
  generalize setT t j = t2 at *
  generalize bitT t j = bt at *
  go_enter Tryz.func113, Tryz.ntmps113
  go_wp2_with fail
  refine HPL.out.mono ?_; rintro e w3 ⟨rfl, hB3⟩
  have hf3 := HF.out.below hB3
  have hcc3 := hf3.call.cell
  obtain ⟨e31, e32, e33⟩ := HCB.out w3 hB3
  have HF3 := Lib.hid hf3
  have HB3 := Lib.hid hB3
  clear hB3 hf3 HPL HF hcc hk hk1' hk2' hka hkb hkc hbq
  go_wp2_with fail
  refine (tbit_one _).mono ?_; rintro e w4 ⟨rfl, rfl⟩
  go_wp2_with fail
  refine (HTX.out _ HF3.out).mono ?_; rintro e w5 ⟨rfl, hB5⟩
  have hf5 := HF3.out.below hB5
  have hcc5 := hf5.call.cell
  have hB05 := HB3.out.trans (hB5.mono HB3.out.size)
  obtain ⟨e51, e52, e53⟩ := HCB.out w5 hB05
  have HF5 := Lib.hid hf5
  have HB5 := Lib.hid hB05
  clear hB5 hf5 hB05 HF3 HB3 HTX e31 e32 e33 hcc3
  go_wp2_with fail
  refine (HSB.out _).mono ?_; rintro e w6 ⟨rfl, hB6⟩
  have hf6 := HF5.out.below hB6
  have hcc6 := hf6.call.cell
  obtain ⟨e61, e62, e63⟩ := HCB.out w6 (HB5.out.trans (hB6.mono HB5.out.size))
  have HF6 := Lib.hid hf6
  have HPUT := Lib.hid (HPT.out _ _ hf6.sp hf6.call)
  have HPUTd := Lib.hid (HPT.out _ _ (hf6.sp.below (Below.refl _ w6).drew) (hf6.call.below (Below.refl _ w6).drew))
  clear hB6 hf6 HF5 HB5 HSB e51 e52 e53 hcc5 HPT
  go_wp2_with fail
  refine HPUT.out.mono ?_; rintro e w7 ⟨rfl, o7, hj7, hs7⟩
  have hf7 := HF6.out.put HBG.out hρ hj7 hs7
  have HF7 := Lib.hid hf7
  clear hj7 hs7 hf7 HPUT HPUTd HF6 hcc6 e61 e62 e63
  go_wp2_with fail
  refine (lnumber_ok _ _).mono ?_; rintro e w8 ⟨rfl, hB8⟩
  have hf8 := HF7.out.below hB8
  have HF8 := Lib.hid hf8
  have hrc := hf8.res.cell
  have hrf := hf8.res.free
  clear hB8 hf8 HF7
  go_wp2_with fail
  obtain ⟨hj9, hs9⟩ := HF8.out.fin HBG.out (.int .i64 3) (.string ⟨#[]⟩) (.int .i64 (bt : Int)) (.slice none 0 0)
  exact bodyPost_ret (v := repV 3 [] (bt : Int) (.slice none 0 0)) (by simp [results, Tryz.results113, go_sem, hrc]) rfl ⟨rfl, o7, hj9, hs9⟩
set_option maxRecDepth 10000 in
set_option maxHeartbeats 8000000 in
theorem tsetbit_out (h : SpJ o w q p S c) (hq : q ≠ []) (hTb : Tbl w) {k y : Tx} (hcb : Blk o w ρ cb (callC p now nm sv) 108)
    (hv : Vw (Old w) w sv 1 3 ([k, y, [49]].map txt)) {j : Int} (hj8 : j < 0 ∨ 8388608 ≤ j) (hy : parseN y = some j) (hyl : y.length ≤ 1099511627776) :
    Calls Tryz.prog 113 #[.pointer (some ⟨cb, 0, none⟩)] w (RepJ o w q p S c ⟨2, offErr, 0⟩) := by
  obtain ⟨o1, m1, hbg, hj⟩ := begin_roles h hq
  have hfr0 := Fr.begin hbg hj hcb
  have hcc := hcb.cell
  have hcl := hcb.lt
  obtain ⟨a0, cap, rfl, hcap, _, _⟩ := id hv.slice
  obtain ⟨b, off, rfl, hbl, hcap, hg⟩ := vw_get hv (by omega)
  replace hbl : b < w.heap.size := hbl
  have hk1' := hg 1 y rfl
  have hkb : (w.alloc (.cells zRepC 30)).cell? ⟨b, off + 1, none⟩ = some (.string ⟨y.toArray⟩) := cell_below hbg.res.2 hk1'
  have HF := Lib.hid hfr0
  have HPL := Lib.hid (tplace_out (hTb.below hbg.res.2) hj8 hy hyl)
  have HBG := Lib.hid hbg
  have HFA := Lib.hid (fun W => lfault_ok W offErr)
  clear h hcb hv hbg hj hfr0 hg hTb hy
  unfold txt at HPL HFA
  go_enter Tryz.func113, Tryz.ntmps113
  go_wp2_with fail
  refine HPL.out.mono ?_; rintro e w3 ⟨rfl, hB3⟩
  have HF3 := Lib.hid (HF.out.below hB3)
  clear hB3 HPL HF hcc hk1' hkb
  go_wp2_with fail
  refine (HFA.out _).mono ?_; rintro e w8 ⟨rfl, hB8⟩
  have hf8 := HF3.out.below hB8
  have HF8 := Lib.hid hf8
  have hrc := hf8.res.cell
  have hrf := hf8.res.free
  clear hB8 hf8 HF3 HFA
  go_wp2_with fail
  obtain ⟨hj9, hs9⟩ := HF8.out.fin HBG.out (.int .i64 2) (.string ⟨offErr.toArray⟩) (.int .i64 0) (.slice none 0 0)
  exact bodyPost_ret (v := repV 2 offErr 0 (.slice none 0 0)) (by simp [results, Tryz.results113, go_sem, hrc]) rfl ⟨rfl, o1, hj9, hs9⟩
set_option maxRecDepth 10000 in
set_option maxHeartbeats 8000000 in
theorem tgetbit_ok (h : SpJ o w q p S c) (hq : q ≠ []) (hTb : Tbl w) {k y : Tx} (hcb : Blk o w ρ cb (callC p now nm sv) 108)
    (hv : Vw (Old w) w sv 1 2 ([k, y].map txt)) {V : VV} (hV : ((S.at now k).getD hd0).v = V) {ok : Bool} (hok : (S.at now k).isSome = ok) (hk1 : (ok && V.kind != 1) = false)
    {j : Nat} (hj8 : j < 8388608) (hy : parseN y = some (j : Int)) (hyl : y.length ≤ 1099511627776) :
    Calls Tryz.prog 104 #[.pointer (some ⟨cb, 0, none⟩)] w (RepJ o w q p S c ⟨3, [], (bitT V.text j : Int)⟩) := by
  obtain ⟨o1, m1, hbg, hj⟩ := begin_roles h hq
  have hfr0 := Fr.begin hbg hj hcb
  have hcc := hcb.cell
  have hcl := hcb.lt
  obtain ⟨a0, cap, rfl, hcap, _, _⟩ := id hv.slice
  obtain ⟨b, off, rfl, hbl, hcap, hg⟩ := vw_get hv (by omega)
  replace hbl : b < w.heap.size := hbl
  have hk := hg 0 k rfl
  have hk1' := hg 1 y rfl
  rw [Nat.add_zero] at hk
  have hcapI : (2 : Int) ≤ (cap : Int) := by omega
  have hka : (w.alloc (.cells zRepC 30)).cell? ⟨b, off, none⟩ = some (.string ⟨k.toArray⟩) := cell_below hbg.res.2 hk
  have hkb : (w.alloc (.cells zRepC 30)).cell? ⟨b, off + 1, none⟩ = some (.string ⟨y.toArray⟩) := cell_below hbg.res.2 hk1'
  have HF := Lib.hid hfr0
  have HPL := Lib.hid (tplace_in (hTb.below hbg.res.2) hj8 hy hyl)
  have HTX := Lib.hid (fun (W : World) (hf : Fr o w q p m1 ρ cb (callC p now nm (.slice (some ⟨b, off, none⟩) 2 cap)) S c o1 W) => show Calls Tryz.prog 175 #[.pointer (some ⟨cb, 0, none⟩), txt k] W (fun e w' => e = .returned (.tuple #[txt V.text, .bool ok, .bool false]) ∧ Below W.heap.size W w') by
    have hst := ctext_ok hf.sp hf.call k
    unfold TextDid at hst
    rw [hok, hV, hk1] at hst
    exact hst)
  have HBG := Lib.hid hbg
  have HSB := Lib.hid (fun W => bbit_ok W V.text hj8)
  have HCB := Lib.hid (fun (W : World) (hB : Below (w.alloc (.cells zRepC 30)).heap.size (w.alloc (.cells zRepC 30)) W) => (cell_below hB hka))
  clear h hcb hv hbg hj hfr0 hg hok hV hk1 hTb hy
  unfold txt at HTX HPL HSB
  generalize V.text = t at *
  generalize bitT t j = bt at *
  go_enter Tryz.func104, Tryz.ntmps104
  go_wp2_with fail
  refine HPL.out.mono ?_; rintro e w3 ⟨rfl, hB3⟩
  have hf3 := HF.out.below hB3
  have hcc3 := hf3.call.cell
  have e31 := HCB.out w3 hB3
  have HF3 := Lib.hid hf3
  clear hB3 hf3 HPL HF hcc hk hk1' hka hkb
  go_wp2_with fail
  refine (HTX.out _ HF3.out).mono ?_; rintro e w5 ⟨rfl, hB5⟩
  have HF5 := Lib.hid (HF3.out.below hB5)
  clear hB5 HF3 HTX e31 hcc3
  go_wp2_with fail
  refine (HSB.out _).mono ?_; rintro e w6 ⟨rfl, rfl⟩
  go_wp2_with fail
  refine (lnumber_ok _ _).mono ?_; rintro e w8 ⟨rfl, hB8⟩
  have hf8 := HF5.out.below hB8
  have HF8 := Lib.hid hf8
  have hrc := hf8.res.cell
  have hrf := hf8.res.free
  clear hB8 hf8 HF5 HSB
  go_wp2_with fail
  obtain ⟨hj9, hs9⟩ := HF8.out.fin HBG.out (.int .i64 3) (.string ⟨#[]⟩) (.int .i64 (bt : Int)) (.slice none 0 0)
  exact bodyPost_ret (v := repV 3 [] (bt : Int) (.slice none 0 0)) (by simp [results, Tryz.results104, go_sem, hrc]) rfl ⟨rfl, o1, hj9, hs9⟩
set_option maxRecDepth 10000 in
set_option maxHeartbeats 8000000 in
theorem tbitcount_ok (h : SpJ o w q p S c) (hq : q ≠ []) {k : Tx} (hcb : Blk o w ρ cb (callC p now nm sv) 108)
    (hv : Vw (Old w) w sv 1 1 ([k].map txt)) {V : VV} (hV : ((S.at now k).getD hd0).v = V) {ok : Bool} (hok : (S.at now k).isSome = ok) (hk1 : (ok && V.kind != 1) = false) (hl : V.text.length ≤ 1048576) :
    Calls Tryz.prog 99 #[.pointer (some ⟨cb, 0, none⟩)] w (RepJ o w q p S c ⟨3, [], (countT V.text : Int)⟩) := by
  obtain ⟨o1, m1, hbg, hj⟩ := begin_roles h hq
  have hfr0 := Fr.begin hbg hj hcb
  have hcc := hcb.cell
  have hcl := hcb.lt
  obtain ⟨a0, cap, rfl, hcap, _, _⟩ := id hv.slice
  obtain ⟨b, off, rfl, hbl, hcap, hg⟩ := vw_get hv (by omega)
  replace hbl : b < w.heap.size := hbl
  have hk := hg 0 k rfl
  rw [Nat.add_zero] at hk
  have hcapI : (1 : Int) ≤ (cap : Int) := by omega
  have hka : (w.alloc (.cells zRepC 30)).cell? ⟨b, off, none⟩ = some (.string ⟨k.toArray⟩) := cell_below hbg.res.2 hk
  have HF := Lib.hid hfr0
  have HTX := Lib.hid (fun (W : World) (hf : Fr o w q p m1 ρ cb (callC p now nm (.slice (some ⟨b, off, none⟩) 1 cap)) S c o1 W) => show Calls Tryz.prog 175 #[.pointer (some ⟨cb, 0, none⟩), txt k] W (fun e w' => e = .returned (.tuple #[txt V.text, .bool ok, .bool false]) ∧ Below W.heap.size W w') by
    have hst := ctext_ok hf.sp hf.call k
    unfold TextDid at hst
    rw [hok, hV, hk1] at hst
    exact hst)
  have HBG := Lib.hid hbg
  have HSB := Lib.hid (fun W => bcount_ok W V.text hl)
  clear h hcb hv hbg hj hfr0 hg hok hV hk1 hl
  unfold txt at HTX HSB
  generalize V.text = t at *
  generalize countT t = bt at *
  go_enter Tryz.func99, Tryz.ntmps99
  go_wp2_with fail
  refine (HTX.out _ HF.out).mono ?_; rintro e w5 ⟨rfl, hB5⟩
  have HF5 := Lib.hid (HF.out.below hB5)
  clear hB5 HF HTX hcc hk hka
  go_wp2_with fail
  refine (HSB.out _).mono ?_; rintro e w6 ⟨rfl, hB6⟩
  have HF6 := Lib.hid (HF5.out.below hB6)
  clear hB6 HF5
  go_wp2_with fail
  refine (lnumber_ok _ _).mono ?_; rintro e w8 ⟨rfl, hB8⟩
  have hf8 := HF6.out.below hB8
  have HF8 := Lib.hid hf8
  have hrc := hf8.res.cell
  have hrf := hf8.res.free
  clear hB8 hf8 HF6 HSB
  go_wp2_with fail
  obtain ⟨hj9, hs9⟩ := HF8.out.fin HBG.out (.int .i64 3) (.string ⟨#[]⟩) (.int .i64 (bt : Int)) (.slice none 0 0)
  exact bodyPost_ret (v := repV 3 [] (bt : Int) (.slice none 0 0)) (by simp [results, Tryz.results99, go_sem, hrc]) rfl ⟨rfl, o1, hj9, hs9⟩
set_option maxRecDepth 10000 in
set_option maxHeartbeats 8000000 in
theorem tbitpos_ok (h : SpJ o w q p S c) (hq : q ≠ []) {k : Tx} (hcb : Blk o w ρ cb (callC p now nm sv) 108)
    (hv : Vw (Old w) w sv 1 2 ([k, [49]].map txt)) {V : VV} (hV : ((S.at now k).getD hd0).v = V) {ok : Bool} (hok : (S.at now k).isSome = ok) (hk1 : (ok && V.kind != 1) = false) (hl : V.text.length ≤ 1048576) :
    Calls Tryz.prog 101 #[.pointer (some ⟨cb, 0, none⟩)] w (RepJ o w q p S c ⟨3, [], firstT 0 V.text⟩) := by
  obtain ⟨o1, m1, hbg, hj⟩ := begin_roles h hq
  have hfr0 := Fr.begin hbg hj hcb
  have hcc := hcb.cell
  have hcl := hcb.lt
  obtain ⟨a0, cap, rfl, hcap, _, _⟩ := id hv.slice
  have hsl : ∃ a' c', ∀ W, (Instr.slice 39 (.slice a0 2 cap) (some (.int .i64 2)) none none).run Tryz.prog W = .ok (.slice a' 0 c') W := by
    obtain ⟨a', c', _, h2, _, _⟩ := vw_cut hv 2 2 (Nat.le_refl _) (Nat.le_refl _)
    exact ⟨a', c', fun W => h2 rfl W⟩
  obtain ⟨a', c', hsl⟩ := hsl
  obtain ⟨b, off, rfl, hbl, hcap, hg⟩ := vw_get hv (by omega)
  replace hbl : b < w.heap.size := hbl
  have hk := hg 0 k rfl
  have hk1' := hg 1 [49] rfl
  rw [Nat.add_zero] at hk
  have hcapI : (2 : Int) ≤ (cap : Int) := by omega
  have hka : (w.alloc (.cells zRepC 30)).cell? ⟨b, off, none⟩ = some (.string ⟨k.toArray⟩) := cell_below hbg.res.2 hk
  have hkb : (w.alloc (.cells zRepC 30)).cell? ⟨b, off + 1, none⟩ = some (.string ⟨#[49]⟩) := cell_below hbg.res.2 hk1'
  have HF := Lib.hid hfr0
  have HTX := Lib.hid (fun (W : World) (hf : Fr o w q p m1 ρ cb (callC p now nm (.slice (some ⟨b, off, none⟩) 2 cap)) S c o1 W) => show Calls Tryz.prog 175 #[.pointer (some ⟨cb, 0, none⟩), txt k] W (fun e w' => e = .returned (.tuple #[txt V.text, .bool ok, .bool false]) ∧ Below W.heap.size W w') by
    have hst := ctext_ok hf.sp hf.call k
    unfold TextDid at hst
    rw [hok, hV, hk1] at hst
    exact hst)
  have HBG := Lib.hid hbg
  have HSB := Lib.hid (fun W => bfirst_ok W V.text hl)
  have HCB := Lib.hid (fun (W : World) (hB : Below (w.alloc (.cells zRepC 30)).heap.size (w.alloc (.cells zRepC 30)) W) => (cell_below hB hka))
  clear h hcb hv hbg hj hfr0 hg hok hV hk1 hl
  unfold txt at HTX HSB
  generalize V.text = t at *
  have HNE := Lib.hid (show t = [] → firstT 0 t = -1 from fun h => by rw [h]; rfl)
  generalize firstT 0 t = bt at *
  go_enter Tryz.func101, Tryz.ntmps101
  go_wp2_with fail
  refine (tbit_one _).mono ?_; rintro e w4 ⟨rfl, hw4⟩
  subst hw4
  have hB5 := lit_below0 (w.alloc (.cells zRepC 30)) (.cells #[.int .i64 0, .int .i64 (-1)] 3)
  have hib : Blk none0 ((w.alloc (.cells zRepC 30)).alloc (.cells #[.int .i64 0, .int .i64 (-1)] 3)) [] (w.alloc (.cells zRepC 30)).heap.size #[.int .i64 0, .int .i64 (-1)] 3 := ⟨heap_alloc_new _ _, rfl⟩
  have HIB := Lib.hid hib
  have hf5 := HF.out.below hB5
  have HF5 := Lib.hid hf5
  have hcc5 := hf5.call.cell
  have e5 := HCB.out _ hB5
  clear hB5 hib hf5 HF hk hk1' hka hkb
  go_wp2_with fail
  go_loopw [43] (fun i wr => i = .int .i64 0 ∧ wr = (w.alloc (.cells zRepC 30)).alloc (.cells #[.int .i64 0, .int .i64 (-1)] 3)) (fun _ _ => 0)
  case atStart => exact ⟨rfl, rfl⟩
  case round =>
    obtain ⟨rfl, rfl⟩ := hrel
    go_wp2_with fail
    refine (HTX.out _ HF5.out).mono ?_; rintro e w6 ⟨rfl, hB6⟩
    have HF6 := Lib.hid (HF5.out.below hB6)
    have hi6 := (HIB.out.below hB6)
    have hci := hi6.cell
    rw [show (w.alloc (.cells zRepC 30)).heap.size = w.heap.size + 1 by simp] at hci
    have hil := hi6.lt
    rw [show (w.alloc (.cells zRepC 30)).heap.size = w.heap.size + 1 by simp] at hil
    clear hB6 HF5 HTX hcc5 e5 HCB HIB hi6 hcc
    obtain ⟨tb, q1, q2⟩ : ∃ tb, (t == []) = tb ∧ (t != []) = !tb := ⟨_, rfl, rfl⟩
    cases tb with
    | true =>
      have hbt := HNE.out (by simpa using q1)
      subst hbt
      simp only [Bool.not_true] at q2
      go_wp2_with fail
      refine (lnumber_ok _ _).mono ?_; rintro e w8 ⟨rfl, hB8⟩
      have hf8 := HF6.out.below hB8
      have HF8 := Lib.hid hf8
      have hrc := hf8.res.cell
      have hrf := hf8.res.free
      clear hB8 hf8 HF6 HSB
      go_wp2_with fail
      obtain ⟨hj9, hs9⟩ := HF8.out.fin HBG.out (.int .i64 3) (.string ⟨#[]⟩) (.int .i64 (-1)) (.slice none 0 0)
      exact bodyPost_ret (v := repV 3 [] (-1) (.slice none 0 0)) (by simp [results, Tryz.results101, go_sem, hrc]) rfl ⟨rfl, o1, hj9, hs9⟩
    | false =>
      simp only [Bool.not_false] at q2
      clear HNE
      go_wp2_with fail
      go_region_with (
        go_at_call 185
        (with_reducible refine (HSB.out _).mono ?_)
        rintro e w7 ⟨rfl, rfl⟩)
      all_goals (
        clear HSB
        rcases hz : (bt == -1) with _ | _ <;> (
          go_wp2_with fail
          refine (lnumber_ok _ _).mono ?_; rintro e w8 ⟨rfl, hB8⟩
          have hf8 := (HF6.out.below (below_drewN (Below.refl _ _) _)).below hB8
          have HF8 := Lib.hid hf8
          have hrc := hf8.res.cell
          have hrf := hf8.res.free
          clear hB8 hf8 HF6
          go_wp2_with fail
          obtain ⟨hj9, hs9⟩ := HF8.out.fin HBG.out (.int .i64 3) (.string ⟨#[]⟩) (.int .i64 bt) (.slice none 0 0)
          exact bodyPost_ret (v := repV 3 [] bt (.slice none 0 0)) (by simp [results, Tryz.results101, go_sem, hrc]) rfl ⟨rfl, o1, hj9, hs9⟩))
end
end Go.Proofs.YthojmgjgmbnopaaGreatDoor
