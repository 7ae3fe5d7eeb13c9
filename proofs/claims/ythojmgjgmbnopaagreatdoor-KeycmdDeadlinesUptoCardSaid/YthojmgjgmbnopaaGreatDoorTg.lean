import Derived.Test.YthojmgjgmbnopaaGreatDoorTi
namespace Go.Proofs.YthojmgjgmbnopaaGreatDoor
open Go Go.RowKit
/-! GET, APPEND. -/
section
variable {o : Roles} {w : World} {q : List Nat} {p : Nat} {c : Cnt} {S : SP} {cb : Nat} {ρ : List Nat} {now : Int} {sv : Value} {nm : Tx}
set_option maxRecDepth 10000 in
set_option maxHeartbeats 8000000 in
theorem tget_ok (h : SpJ o w q p S c) (hq : q ≠ []) {k : Tx} (hcb : Blk o w ρ cb (callC p now nm sv) 108)
    (hv : Vw (Old w) w sv 1 1 ([k].map txt)) {V : VV} (hV : ((S.at now k).getD hd0).v = V) {ok : Bool} (hok : (S.at now k).isSome = ok) (hk1 : (ok && V.kind != 1) = false) :
    Calls Tryz.prog 103 #[.pointer (some ⟨cb, 0, none⟩)] w (RepJ o w q p S c (if ok then ⟨4, V.text, 0⟩ else ⟨5, [], 0⟩)) := by
  obtain ⟨o1, m1, hbg, hj⟩ := begin_roles h hq
  have hfr0 := Fr.begin hbg hj hcb
  have hcc := hcb.cell
  have hcl := hcb.lt
  obtain ⟨a0, cap, rfl, hcap, _, _⟩ := id hv.slice
  obtain ⟨b, off, rfl, hbl, hcap, hg⟩ := vw_get hv (by omega)
  replace hbl : b < w.heap.size := hbl
  have hk := hg 0 k rfl
  rw [Nat.add_zero] at hk
  have hcapI : (1 : Int) ≤ (cap : Int) := by omega
  have HF := Lib.hid hfr0
  have hst := ctext_ok hfr0.sp hfr0.call k
  unfold TextDid at hst
  rw [hok, hV, hk1] at hst
  have HTX := Lib.hid hst
  have HBG := Lib.hid hbg
  clear h hcb hv hbg hj hfr0 hg hst hok hV hk1
  unfold txt at HTX
  cases ok with
  | false =>
    simp only [Bool.false_eq_true, if_false]
    go_enter Tryz.func103, Tryz.ntmps103
    go_wp2_with fail
    refine HTX.out.mono ?_; rintro e w3 ⟨rfl, hB3⟩
    have HF3 := Lib.hid (HF.out.below hB3)
    have HOLD := Lib.hid (lold_ok w3 V.text false)
    unfold txt at HOLD
    clear hB3 HTX HF hcc hk
    go_wp2_with fail
    refine HOLD.out.mono ?_; rintro e w6 ⟨rfl, hB6⟩
    have hf6 := HF3.out.below hB6
    have HF6 := Lib.hid hf6
    have hrc := hf6.res.cell
    have hrf := hf6.res.free
    clear hB6 hf6 HF3 HOLD
    simp only [Bool.false_eq_true, if_false]
    go_wp2_with fail
    obtain ⟨hj7, hs7⟩ := HF6.out.fin HBG.out (.int .i64 5) (.string ⟨#[]⟩) (.int .i64 0) (.slice none 0 0)
    exact bodyPost_ret (v := repV 5 [] 0 (.slice none 0 0)) (by simp [results, Tryz.results103, go_sem, hrc]) rfl ⟨rfl, o1, hj7, hs7⟩
  | true =>
    simp only [if_true]
    go_enter Tryz.func103, Tryz.ntmps103
    go_wp2_with fail
    refine HTX.out.mono ?_; rintro e w3 ⟨rfl, hB3⟩
    have HF3 := Lib.hid (HF.out.below hB3)
    have HOLD := Lib.hid (lold_ok w3 V.text true)
    unfold txt at HOLD
    clear hB3 HTX HF hcc hk
    go_wp2_with fail
    refine HOLD.out.mono ?_; rintro e w6 ⟨rfl, hB6⟩
    have hf6 := HF3.out.below hB6
    have HF6 := Lib.hid hf6
    have hrc := hf6.res.cell
    have hrf := hf6.res.free
    clear hB6 hf6 HF3 HOLD
    simp only [if_true]
    go_wp2_with fail
    obtain ⟨hj7, hs7⟩ := HF6.out.fin HBG.out (.int .i64 4) (.string ⟨V.text.toArray⟩) (.int .i64 0) (.slice none 0 0)
    exact bodyPost_ret (v := repV 4 V.text 0 (.slice none 0 0)) (by simp [results, Tryz.results103, go_sem, hrc]) rfl ⟨rfl, o1, hj7, hs7⟩
end
end Go.Proofs.YthojmgjgmbnopaaGreatDoor
