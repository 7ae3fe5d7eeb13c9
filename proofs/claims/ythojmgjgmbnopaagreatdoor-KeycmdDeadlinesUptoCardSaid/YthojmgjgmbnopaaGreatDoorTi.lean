import Derived.Test.YthojmgjgmbnopaaGreatDoorKz
import Derived.Test.YthojmgjgmbnopaaGreatDoorBn
import Derived.Test.YthojmgjgmbnopaaGreatDoorXM
namespace Go.Proofs.YthojmgjgmbnopaaGreatDoor
open Go Go.RowKit
/-! INCRBY, DECRBY, INCR: where the key holds a number's text. -/
abbrev incrbyB : Tx := [105, 110, 99, 114, 98, 121]
abbrev decrbyB : Tx := [100, 101, 99, 114, 98, 121]
abbrev incrB : Tx := [105, 110, 99, 114]
abbrev overErr : Tx := [69, 82, 82, 32, 116, 104, 101, 32, 110, 117, 109, 98, 101, 114, 32, 119, 111, 117, 108, 100, 32, 108, 101, 97, 118, 101, 32, 105, 116, 115, 32, 114, 97, 110, 103, 101]
section
variable {o : Roles} {w : World} {q : List Nat} {p : Nat} {c : Cnt} {S : SP} {cb : Nat} {ρ : List Nat} {now : Int} {sv : Value}
/-- What a number's step makes of a space. -/
def SP.incS (S : SP) (c : Cnt) (now : Int) (k : Tx) (n : Int) : SP := if inR n then S.keepT now k (Lib.itoa n) (c.num + 1) else S
def Cnt.incS (c : Cnt) (n : Int) : Cnt := if inR n then c.next else c
def incF (n : Int) : Rf := if inR n then ⟨3, [], n⟩ else errF overErr
set_option maxRecDepth 10000 in
set_option maxHeartbeats 8000000 in
theorem tincrby_ok (h : SpJ o w q p S c) (hq : q ≠ []) (hρ : ¬ q <+: ρ) (hT : Tbl w) (dec : Bool) (hcb : Blk o w ρ cb (callC p now (if dec then decrbyB else incrbyB) sv) 108)
    {k y : Tx} (hv : Vw (Old w) w sv 1 2 ([k, y].map txt)) {n : Int} (hy : parseN y = some n) (hyl : y.length ≤ 1099511627776) (hdn : dec = true → n ≠ -9223372036854775808) {V : VV} (hV : ((S.at now k).getD hd0).v = V) (hok : (S.at now k).isSome = true) (hk1 : V.kind = 1) {m : Int} (hm : parseN V.text = some m)
    (hc : c.num ≤ 4611686018427387000) (hf : c.few ≤ 1099511627000) {s : Int} (hs : s = m + (if dec then -n else n)) :
    Calls Tryz.prog 102 #[.pointer (some ⟨cb, 0, none⟩)] w (RepJ o w q p (S.incS c now k s) (c.incS s) (incF s)) := by
  obtain ⟨o1, m1, hbg, hj⟩ := begin_roles h hq
  have hfr0 := Fr.begin hbg hj hcb
  have hcc := hcb.cell
  have hcl := hcb.lt
  obtain ⟨a0, cap, rfl, hcap, _, _⟩ := id hv.slice
  obtain ⟨b, off, rfl, hbl, hcap, hg⟩ := vw_get hv (by omega)
  replace hbl : b < w.heap.size := hbl
  have hk := hg 0 k rfl
  have hk1' := hg 1 y rfl
  rw [Nat.add_zero] at hk
  have hcapI : (2 : Int) ≤ (cap : Int) := by omega
  have hnr := parseN_range hy
  have hp := parse_ok (hT.below hbg.res.2) y hyl
  rw [hy] at hp
  unfold ParseDid at hp
  simp only [Option.getD_some, Option.isSome_some, if_true] at hp
  have hsm := h.small' now k
  rw [hV] at hsm
  have hst := fun (W : World) (hW : Below w.heap.size w W) => ctext_ok (h.below hW) (hcb.below hW) k
  unfold TextDid at hst
  rw [hV, hok] at hst
  have ewr : (true && V.kind != 1) = false := by rw [hk1]; rfl
  rw [ewr] at hst
  have hby : -9223372036854775808 ≤ (if dec then -n else n) ∧ (if dec then -n else n) ≤ 9223372036854775807 := by
    cases dec with
    | false => exact hnr
    | true => have := hdn rfl; simp only [if_true]; omega
  have hinc := fun (W : World) (hW : Below w.heap.size w W) => bincr_ok (hT.below hW) hm hsm.text hby
  rw [← hs] at hinc
  unfold IncDid at hinc
  have HINC := Lib.hid hinc
  have HTX := Lib.hid hst
  have HPA := Lib.hid hp
  have HFR := Lib.hid hfr0
  have HBG := Lib.hid hbg
  have HB1 := Lib.hid hbg.res.2
  have hitl : (Lib.itoa s).length ≤ 1048576 ∨ inR s = false := by
    by_cases hr : inR s = true
    · exact .inl (Nat.le_trans (itoa_len (by unfold inR at hr; simpa using hr)) (by decide))
    · exact .inr (by simpa using hr)
  have HIT := Lib.hid hitl
  obtain ⟨S1, hS1⟩ : ∃ S1, S1 = S.incS c now k s := ⟨_, rfl⟩
  obtain ⟨c1, hc1⟩ : ∃ c1, c1 = c.incS s := ⟨_, rfl⟩
  rw [← hS1, ← hc1]
  have HSC := Lib.hid (And.intro hS1 hc1)
  have hwn : dec = true → IntKind.i64.wrap (-n) = -n := fun hd => by have := hdn hd; rw [IntKind.wrap_i64]; omega
  have hne : dec = true → (n == -9223372036854775808) = false := fun hd => beq_eq_false_iff_ne.2 (hdn hd)
  clear h hcb hv hbg hj hfr0 hg hp hy hT hst hinc hm hnr hS1 hc1 hsm hV hok hk1 ewr hby hs hitl hdn
  unfold txt at HPA HTX HINC
  rcases dec with _ | _
  all_goals (
    try have hwn' := hwn rfl
    try have hne' := hne rfl
    clear hwn hne
    simp only [Bool.false_eq_true, if_false, if_true] at hcc HINC
    go_enter Tryz.func102, Tryz.ntmps102
    go_wp2_with fail
    refine HPA.out.mono ?_; rintro e w2 ⟨rfl, hB2⟩
    have hB2w : Below w.heap.size w w2 := HB1.out.trans (hB2.mono HB1.out.size)
    have hfr2 := HFR.out.below hB2
    have hcc2 := hfr2.call.cell
    have HT := Lib.hid (HTX.out w2 hB2w)
    have HB2 := Lib.hid hB2w
    have HF2 := Lib.hid hfr2
    have hk2 : w2.cell? ⟨b, off, none⟩ = some (.string ⟨k.toArray⟩) := cell_below hB2w hk
    clear hB2 hB2w hfr2 HTX HFR hcc hk hk1' HPA
    unfold txt at HT
    go_wp2_with fail
    refine HT.out.mono ?_; rintro e w3 ⟨rfl, hB3⟩
    have hB3w : Below w.heap.size w w3 := HB2.out.trans (hB3.mono HB2.out.size)
    have hfr3 := HF2.out.below hB3
    have hcc3 := hfr3.call.cell
    have HIN := Lib.hid (HINC.out w3 hB3w)
    have HB3 := Lib.hid hB3w
    have HF3 := Lib.hid hfr3
    have hk3 : w3.cell? ⟨b, off, none⟩ = some (.string ⟨k.toArray⟩) := cell_below hB3 hk2
    clear hB3 hB3w hfr3 HT HF2 hcc2 hk2 HINC HB2
    go_wp2_with fail
    have e1 := HSC.out.1
    have e2 := HSC.out.2
    unfold SP.incS at e1
    unfold Cnt.incS at e2
    rcases hr : inR s with _ | _
    · rw [hr, if_neg (by decide)] at e1 e2
      subst e1 e2
      have HI := HIN.out
      rw [hr] at HI
      simp only [Bool.false_eq_true, if_false] at HI
      refine HI.mono ?_; rintro e w4 ⟨rfl, hB4⟩
      have hf4 := HF3.out.below hB4
      have HF4 := Lib.hid hf4
      clear hB4 hf4 HF3 HIN HI HB3 hcc3 hk3
      go_wp2_with fail
      refine (lfault_ok _ _).mono ?_; rintro e w6 ⟨rfl, hB6⟩
      have hf6 := HF4.out.below hB6
      have HF6 := Lib.hid hf6
      have hrc := hf6.res.cell
      have hrf := hf6.res.free
      clear hB6 hf6 HF4
      go_wp2_with fail
      obtain ⟨hj7, hs7⟩ := HF6.out.fin HBG.out (.int .i64 2) (.string ⟨overErr.toArray⟩) (.int .i64 0) (.slice none 0 0)
      have ei : incF s = errF overErr := by unfold incF; rw [hr]; rfl
      rw [ei]
      exact bodyPost_ret (v := repV 2 overErr 0 (.slice none 0 0)) (by simp [results, Tryz.results102, go_sem, hrc]) rfl ⟨rfl, o1, hj7, hs7⟩
    · rw [hr, if_pos rfl] at e1 e2
      have HI := HIN.out
      rw [hr] at HI
      simp only [if_true] at HI
      refine HI.mono ?_; rintro e w4 ⟨rfl, hB4⟩
      have hf4 := HF3.out.below hB4
      have hcc4 := hf4.call.cell
      have hk4 : w4.cell? ⟨b, off, none⟩ = some (.string ⟨k.toArray⟩) := cell_below hB4 hk3
      have HF4 := Lib.hid hf4
      have HPUT := Lib.hid (tput_ok hf4.sp hf4.call k (Lib.itoa s) (HIT.out.resolve_right (by rw [hr]; decide)) (by omega) (by omega))
      rw [← e1, ← e2] at HPUT
      unfold txt at HPUT
      clear hB4 hf4 HF3 HIN HI HB3 hcc3 hk3
      go_wp2_with fail
      refine HPUT.out.mono ?_; rintro e w5 ⟨rfl, o5, hj5, hs5⟩
      have HF5 := Lib.hid (HF4.out.put HBG.out hρ hj5 hs5)
      clear hj5 hs5 HF4 HPUT hcc4 hk4
      go_wp2_with fail
      refine (lnumber_ok _ _).mono ?_; rintro e w6 ⟨rfl, hB6⟩
      have hf6 := HF5.out.below hB6
      have HF6 := Lib.hid hf6
      have hrc := hf6.res.cell
      have hrf := hf6.res.free
      clear hB6 hf6 HF5
      go_wp2_with fail
      obtain ⟨hj7, hs7⟩ := HF6.out.fin HBG.out (.int .i64 3) (.string ⟨#[]⟩) (.int .i64 s) (.slice none 0 0)
      have ei : incF s = ⟨3, [], s⟩ := by unfold incF; rw [hr]; rfl
      rw [ei]
      exact bodyPost_ret (v := repV 3 [] s (.slice none 0 0)) (by simp [results, Tryz.results102, go_sem, hrc]) rfl ⟨rfl, o5, hj7, hs7⟩)
theorem parseN_zero : parseN [48] = some 0 := by
  have h0 : Lib.itoa 0 = [48] := by kernel_rfl
  have h := parseN_itoa (n := 0) (by decide)
  rwa [h0] at h
theorem itoa_one : Lib.itoa 1 = [49] := by kernel_rfl
set_option maxRecDepth 10000 in
set_option maxHeartbeats 8000000 in
theorem tincr0_ok (h : SpJ o w q p S c) (hq : q ≠ []) (hρ : ¬ q <+: ρ) (hT : Tbl w) {k : Tx} (hcb : Blk o w ρ cb (callC p now incrB sv) 108)
    (hv : Vw (Old w) w sv 1 1 ([k].map txt)) (hok : S.at now k = none) (hc : c.num ≤ 4611686018427387000) (hf : c.few ≤ 1099511627000) :
    Calls Tryz.prog 102 #[.pointer (some ⟨cb, 0, none⟩)] w (RepJ o w q p (S.keepT now k [49] (c.num + 1)) c.next ⟨3, [], 1⟩) := by
  obtain ⟨o1, m1, hbg, hj⟩ := begin_roles h hq
  have hfr0 := Fr.begin hbg hj hcb
  have hcc := hcb.cell
  have hcl := hcb.lt
  obtain ⟨a0, cap, rfl, hcap, _, _⟩ := id hv.slice
  obtain ⟨b, off, rfl, hbl, hcap, hg⟩ := vw_get hv (by omega)
  replace hbl : b < w.heap.size := hbl
  have hk := hg 0 k rfl
  rw [Nat.add_zero] at hk
  have hcapI : (1 : Int) ≤ (cap : Int) := by omega
  have hk1 : (w.alloc (.cells zRepC 30)).cell? ⟨b, off, none⟩ = some (.string ⟨k.toArray⟩) := cell_below hbg.res.2 hk
  have HF := Lib.hid hfr0
  have hst := ctext_ok hfr0.sp hfr0.call k
  unfold TextDid at hst
  rw [hok] at hst
  have HTX := Lib.hid hst
  have hinc := fun (W : World) (hW : Below w.heap.size w W) => bincr_ok (m := 0) (s := [48]) (by_ := 1) (hT.below hW) parseN_zero (by decide) (by decide)
  unfold IncDid at hinc
  have HINC := Lib.hid hinc
  have HBG := Lib.hid hbg
  have HB1 := Lib.hid hbg.res.2
  obtain ⟨S1, hS1⟩ : ∃ S1, S1 = S.keepT now k [49] (c.num + 1) := ⟨_, rfl⟩
  rw [← hS1]
  have HSC := Lib.hid hS1
  clear h hcb hv hbg hj hfr0 hg hT hst hinc hS1 hok
  unfold txt at HTX HINC
  go_enter Tryz.func102, Tryz.ntmps102
  go_wp2_with fail
  refine HTX.out.mono ?_; rintro e w3 ⟨rfl, hB3⟩
  have hfr3 := HF.out.below hB3
  have hcc3 := hfr3.call.cell
  have HIN := Lib.hid (HINC.out w3 (HB1.out.trans (hB3.mono HB1.out.size)))
  have HF3 := Lib.hid hfr3
  have hk3 : w3.cell? ⟨b, off, none⟩ = some (.string ⟨k.toArray⟩) := cell_below hB3 hk1
  clear hB3 hfr3 HTX HF hcc hk hk1 HINC HB1
  go_wp2_with fail
  have HI := HIN.out
  rw [show inR (0 + 1) = true by decide, if_pos rfl, if_pos rfl, if_pos rfl, show (0 + 1 : Int) = 1 by decide, itoa_one] at HI
  refine HI.mono ?_; rintro e w4 ⟨rfl, hB4⟩
  have hf4 := HF3.out.below hB4
  have hcc4 := hf4.call.cell
  have hk4 : w4.cell? ⟨b, off, none⟩ = some (.string ⟨k.toArray⟩) := cell_below hB4 hk3
  have HF4 := Lib.hid hf4
  have HPUT := Lib.hid (tput_ok hf4.sp hf4.call k [49] (by decide) (by omega) (by omega))
  rw [← HSC.out] at HPUT
  unfold txt at HPUT
  clear hB4 hf4 HF3 HIN HI hcc3 hk3
  go_wp2_with fail
  refine HPUT.out.mono ?_; rintro e w5 ⟨rfl, o5, hj5, hs5⟩
  have HF5 := Lib.hid (HF4.out.put HBG.out hρ hj5 hs5)
  clear hj5 hs5 HF4 HPUT hcc4 hk4
  go_wp2_with fail
  refine (lnumber_ok _ _).mono ?_; rintro e w6 ⟨rfl, hB6⟩
  have hf6 := HF5.out.below hB6
  have HF6 := Lib.hid hf6
  have hrc := hf6.res.cell
  have hrf := hf6.res.free
  clear hB6 hf6 HF5
  go_wp2_with fail
  obtain ⟨hj7, hs7⟩ := HF6.out.fin HBG.out (.int .i64 3) (.string ⟨#[]⟩) (.int .i64 1) (.slice none 0 0)
  exact bodyPost_ret (v := repV 3 [] 1 (.slice none 0 0)) (by simp [results, Tryz.results102, go_sem, hrc]) rfl ⟨rfl, o5, hj7, hs7⟩
end
end Go.Proofs.YthojmgjgmbnopaaGreatDoor
