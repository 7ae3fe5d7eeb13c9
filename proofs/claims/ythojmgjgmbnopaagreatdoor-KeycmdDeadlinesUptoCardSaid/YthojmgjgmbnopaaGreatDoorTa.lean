import Derived.Test.YthojmgjgmbnopaaGreatDoorTi
namespace Go.Proofs.YthojmgjgmbnopaaGreatDoor
open Go Go.RowKit
/-! APPEND. -/
section
variable {o : Roles} {w : World} {q : List Nat} {p : Nat} {c : Cnt} {S : SP} {cb : Nat} {ρ : List Nat} {now : Int} {sv : Value} {nm : Tx}
set_option maxRecDepth 10000 in
set_option maxHeartbeats 8000000 in
theorem tappend_ok (h : SpJ o w q p S c) (hq : q ≠ []) (hρ : ¬ q <+: ρ) {k y : Tx} (hcb : Blk o w ρ cb (callC p now nm sv) 108)
    (hv : Vw (fun b => b < w.heap.size ∧ ¬ q <+: o b) w sv 1 2 ([k, y].map txt)) {V : VV} (hV : ((S.at now k).getD hd0).v = V) {ok : Bool} (hok : (S.at now k).isSome = ok) (hk1 : (ok && V.kind != 1) = false)
    (hl : V.text.length + y.length ≤ 1048576) (hc : c.num ≤ 4611686018427387000) (hf : c.few ≤ 1099511627000) :
    Calls Tryz.prog 98 #[.pointer (some ⟨cb, 0, none⟩)] w (RepJ o w q p (S.keepT now k (V.text ++ y) (c.num + 1)) c.next ⟨3, [], (V.text.length : Int) + (y.length : Int)⟩) := by
  obtain ⟨o1, m1, hbg, hj⟩ := begin_roles h hq
  have hfr0 := Fr.begin hbg hj hcb
  have hcc := hcb.cell
  have hcl := hcb.lt
  obtain ⟨a0, cap, rfl, hcap, _, _⟩ := id hv.slice
  obtain ⟨b, off, rfl, hbl, hcap, hg⟩ := vw_get hv (by omega)
  obtain ⟨hbl, hbq⟩ := hbl
  have hk := hg 0 k rfl
  have hk1' := hg 1 y rfl
  rw [Nat.add_zero] at hk
  have hcapI : (2 : Int) ≤ (cap : Int) := by omega
  have hka : (w.alloc (.cells zRepC 30)).cell? ⟨b, off, none⟩ = some (.string ⟨k.toArray⟩) := cell_below hbg.res.2 hk
  have hkb : (w.alloc (.cells zRepC 30)).cell? ⟨b, off + 1, none⟩ = some (.string ⟨y.toArray⟩) := cell_below hbg.res.2 hk1'
  have HF := Lib.hid hfr0
  have hst := ctext_ok hfr0.sp hfr0.call k
  unfold TextDid at hst
  rw [hok, hV, hk1] at hst
  have HTX := Lib.hid hst
  have HBG := Lib.hid hbg
  have HL := Lib.hid hl
  have hsum : V.text.length + y.length ≤ 9223372036854775807 := by omega
  have HVB := Lib.hid (fun (W : World) (oW : Roles) (hW : Stp q o w oW W) => show W.cell? ⟨b, off + 1, none⟩ = some (.string ⟨y.toArray⟩) by
    have hbb := hW.block b hbl hbq
    unfold World.cell? at hk1' ⊢
    rw [hbb]; exact hk1')
  have hpt := fun (W : World) (o2 : Roles) (h2 : SpJ o2 W q p S c) (hb2 : Blk o2 W ρ cb (callC p now nm (.slice (some ⟨b, off, none⟩) 2 cap)) 108) => tput_ok h2 hb2 k (V.text ++ y) (by rw [List.length_append]; exact hl) (by omega) (by omega)
  obtain ⟨S1, hS1⟩ : ∃ S1, S1 = S.keepT now k (V.text ++ y) (c.num + 1) := ⟨_, rfl⟩
  rw [← hS1] at hpt ⊢
  have HPT := Lib.hid hpt
  clear h hcb hv hbg hj hfr0 hg hst hok hV hk1 hpt hS1 hl
  unfold txt at HTX HPT
  rw [← ByteArray.mk_append_mk] at HPT
  generalize V.text = t at *
  go_enter Tryz.func98, Tryz.ntmps98
  go_wp2_with fail
  refine HTX.out.mono ?_; rintro e w3 ⟨rfl, hB3⟩
  have hf3 := HF.out.below hB3
  have hcc3 := hf3.call.cell
  have hk3 : w3.cell? ⟨b, off, none⟩ = some (.string ⟨k.toArray⟩) := cell_below hB3 hka
  have hk3' : w3.cell? ⟨b, off + 1, none⟩ = some (.string ⟨y.toArray⟩) := cell_below hB3 hkb
  have HF3 := Lib.hid hf3
  have HPUT := Lib.hid (HPT.out _ _ (hf3.sp.below (Below.refl _ w3).drew) (hf3.call.below (Below.refl _ w3).drew))
  clear hB3 hf3 HTX HF hcc hk hk1' hka hkb hbq
  go_wp2_with fail
  go_region_with (
    go_at_call 177
    (with_reducible refine HPUT.out.mono ?_)
    rintro e w5 ⟨rfl, o5, hj5, hs5⟩
    have hf5 := ((HF3.out.below (Below.refl _ w3).drew).put HBG.out hρ hj5 hs5)
    have hcc5 := hf5.call.cell
    have hk5' : w5.cell? ⟨b, off + 1, none⟩ = some (.string ⟨y.toArray⟩) := HVB.out w5 o5 hf5.st
    have HF5 := Lib.hid hf5
    clear hj5 hs5 hf5)
  all_goals (
    clear HPUT HF3 hcc3 hk3 hk3'
    go_wp2_with fail
    refine (lnumber_ok _ _).mono ?_; rintro e w6 ⟨rfl, hB6⟩
    have hf6 := HF5.out.below hB6
    have HF6 := Lib.hid hf6
    have hrc := hf6.res.cell
    have hrf := hf6.res.free
    clear hB6 hf6 HF5
    go_wp2_with fail
    obtain ⟨hj7, hs7⟩ := HF6.out.fin HBG.out (.int .i64 3) (.string ⟨#[]⟩) (.int .i64 ((t.length : Int) + (y.length : Int))) (.slice none 0 0)
    exact bodyPost_ret (v := repV 3 [] ((t.length : Int) + (y.length : Int)) (.slice none 0 0)) (by simp [results, Tryz.results98, go_sem, hrc]) rfl ⟨rfl, o5, hj7, hs7⟩)
end
end Go.Proofs.YthojmgjgmbnopaaGreatDoor
