import Derived.Test.YtgmmeeikjofefaaGreatDoorGJ
import Derived.Test.YtgmmeeikjofefaaGreatDoorGH
namespace Go.Proofs.YtgmmeeikjofefaaGreatDoor
open Go Go.RowKit
/-! read. -/
section
variable {o : Roles} {w : World} {q : List Nat} {p : Nat} {c : Cnt} {S : SP}
set_option maxRecDepth 10000 in
set_option maxHeartbeats 4000000 in
theorem lcread_len (h : SpJ o w q p S c) (hq : q ≠ []) {cb : Nat} {ρ : List Nat} {now : Int} {sv : Value} (hcb : Blk o w ρ cb (callC p now llenB sv) 79)
    {k : List UInt8} (hv : Vw (Old w) w sv 1 1 ([k].map txt)) {V : VV} (hV : V = ((S.at now k).getD hd0).v) {ok : Bool} (hok : ok = (S.at now k).isSome) (hwr : (ok && V.kind != 2) = false) :
    Calls Tryz.prog 39 #[.pointer (some ⟨cb, 0, none⟩)] w (RepB w (numR V.list.length)) := by
  obtain ⟨o1, m, hbg, hj⟩ := begin_roles h hq
  have hfr := Fr.begin hbg hj hcb
  obtain ⟨b, off, cap, rfl, hcap, hbl, hk⟩ := vw_head1 hv
  have hbl : b < w.heap.size := hbl
  have hcl := hcb.lt
  have hcc := hcb.cell
  have hli := clist_ok hfr.sp hfr.call k [m]
  rw [← hV, ← hok] at hli
  have HLI := Lib.hid hli
  have HFR := Lib.hid hfr
  have HB1 := Lib.hid hbg.res.2
  have HWR := Lib.hid hwr
  clear h hcb hbg hj hv hV hok hwr hfr hli
  unfold txt at HLI
  go_enter Tryz.func39, Tryz.ntmps39
  go_wp2_with fail
  refine HLI.out.mono ?_; rintro e w2 ⟨d, o2, rfl, hd, hs2⟩
  rw [HWR.out]
  have hB2 := all_below hs2
  have HLN := Lib.hid (dlen_ok hd)
  have HB2 := Lib.hid (HB1.out.trans (hB2.mono (by simp)))
  have hcc2 := ((HFR.out.call).below hB2).cell
  have HR2 := Lib.hid ((HFR.out.res).below hB2)
  clear hd hs2 hB2 HLI HB1 HFR hcc hk HWR
  go_wp2_with fail
  refine HLN.out.mono ?_; rintro e w3 ⟨rfl, k3, rfl⟩
  go_wp2_with fail
  refine (lnumber_ok _ _).mono ?_; rintro e w4 ⟨rfl, hB4⟩
  have hB4' : Below w2.heap.size w2 w4 := (below_drewN (Below.refl _ _) k3).trans hB4
  have hr4 := HR2.out.below hB4'
  have hrc := hr4.cell
  have hrf := hr4.free
  have HB4 := Lib.hid (HB2.out.trans (hB4'.mono HB2.out.size))
  clear hB4 hB4' hr4 HR2 HB2 HLN hcc2
  go_wp2_with fail
  exact bodyPost_ret (v := repV 3 [] V.list.length (.slice none 0 0)) (by simp [results, Tryz.results39, go_sem, hrc]) rfl ⟨_, rfl, Vw.nil _ _ _, below_four HB4.out⟩
set_option maxRecDepth 10000 in
set_option maxHeartbeats 4000000 in
theorem lcread_range (h : SpJ o w q p S c) (hq : q ≠ []) (hT : Tbl w) {cb : Nat} {ρ : List Nat} {now : Int} {sv : Value} (hcb : Blk o w ρ cb (callC p now lrangeB sv) 79)
    {k x y : List UInt8} (hv : Vw (Old w) w sv 1 3 ([k, x, y].map txt)) {V : VV} (hV : V = ((S.at now k).getD hd0).v) {ok : Bool} (hok : ok = (S.at now k).isSome) (hwr : (ok && V.kind != 2) = false)
    {a b : Int} (hx : parseN x = some a) (hy : parseN y = some b) (hxl : x.length ≤ 1099511627776) (hyl : y.length ≤ 1099511627776) (ha : -9223372036854775808 ≤ a ∧ a ≤ 9223372036854775807) (hb : -9223372036854775808 ≤ b ∧ b ≤ 9223372036854775807) (hL : V.list.length ≤ 1099511627776) :
    Calls Tryz.prog 39 #[.pointer (some ⟨cb, 0, none⟩)] w (RepB w (bulksR (pieceL V.list a b))) := by
  obtain ⟨o1, m, hbg, hj⟩ := begin_roles h hq
  have hfr := Fr.begin hbg hj hcb
  obtain ⟨a0, cap, rfl, hcap, _, _⟩ := id hv.slice
  obtain ⟨bb, off, rfl, hbl, hcap, hg⟩ := vw_get hv (by omega)
  have hbl : bb < w.heap.size := hbl
  have hcl := hcb.lt
  have hcc := hcb.cell
  have hk := hg 0 k rfl
  have hkx := hg 1 x rfl
  have hky := hg 2 y rfl
  rw [Nat.add_zero] at hk
  have HB1 := Lib.hid hbg.res.2
  have htw := two_ok (hT.below hbg.res.2.drew) x y hxl hyl
  rw [hx, hy] at htw
  have HTW := Lib.hid htw
  have HLI := Lib.hid (fun (W : World) (hW : Below (w.alloc (.cells zRepC 29)).heap.size (w.alloc (.cells zRepC 29)) W) => clist_ok (hfr.below hW).sp (hfr.below hW).call k [m])
  rw [← hV, ← hok] at HLI
  have HFR := Lib.hid hfr
  have HWR := Lib.hid hwr
  have HG := Lib.hid hg
  clear h hcb hbg hj hv hV hok hwr hfr hT hg htw hx hy hxl hyl
  unfold txt at HLI HTW
  unfold TwoDid at HTW
  simp only [Option.getD_some, Option.isSome_some, Bool.and_self] at HTW
  go_enter Tryz.func39, Tryz.ntmps39
  go_wp2_with fail
  go_region_with (
    go_at_call 76
    (with_reducible refine HTW.out.mono ?_)
    rintro e w2 ⟨rfl, hB2⟩
    have hB2' : Below (w.alloc (.cells zRepC 29)).heap.size (w.alloc (.cells zRepC 29)) w2 := (Below.refl _ _).drew.trans hB2
    have HB2 := Lib.hid hB2'
    have hcc2 := (HFR.out.call.below hB2').cell
    have hB02 := HB1.out.trans (hB2'.mono (by simp))
    have hk2 : w2.cell? ⟨bb, off, none⟩ = some (.string ⟨k.toArray⟩) := by rw [(bcell hB02).1 _ _ hbl]; exact hk
    clear hB2 hB2' hB02)
  all_goals (
    have HLI2 := Lib.hid (HLI.out w2 HB2.out)
    clear hcc hk hkx hky HLI HTW
    go_wp2_with fail
    refine HLI2.out.mono ?_; rintro e w3 ⟨d, o3, rfl, hd, hs3⟩
    rw [HWR.out]
    have hB3 := HB2.out.trans ((all_below hs3).mono HB2.out.size)
    have HSL := Lib.hid (dslice_ok hd hL a b ha hb)
    have hcc3 := ((HFR.out.call).below hB3).cell
    have HB3 := Lib.hid hB3
    clear hd hs3 hB3 hcc2 hk2 HWR HLI2 HB2
    go_wp2_with fail
    refine HSL.out.mono ?_; rintro e w4 ⟨v4, rfl, hF4⟩
    have HF4 := Lib.hid hF4
    have HBU := Lib.hid (lbulks_ok hF4.vw (Nat.le_trans (by unfold pieceL; simp; omega) hL))
    obtain ⟨a4, c4, rfl, _⟩ := id hF4.vw.slice
    clear hF4
    go_wp2_with fail
    refine HBU.out.mono ?_; rintro e w5 ⟨v5, rfl, hF5⟩
    obtain ⟨a5, c5, rfl, _⟩ := id hF5.vw.slice
    have hB5 := HB3.out.trans ((HF4.out.below.trans (hF5.below.mono HF4.out.below.size)).mono HB3.out.size)
    have hr5 := HFR.out.res.below hB5
    have hrc := hr5.cell
    have hrf := hr5.free
    have hs4 : w.heap.size < w4.heap.size := by have := HB3.out.size; have := HF4.out.below.size; rw [World.size_alloc] at *; omega
    have HB5 := Lib.hid (HB1.out.trans (hB5.mono (by simp)))
    have HF5 := Lib.hid hF5
    have HS4 := Lib.hid hs4
    clear hB5 hr5 hs4 hF5 HFR HB3 HF4 HBU HSL hcc3
    go_wp2_with fail
    refine bodyPost_ret (v := repV 6 [] 0 (.slice a5 (pieceL V.list a b).length c5)) (by simp [results, Tryz.results39, go_sem, hrc]) rfl ⟨_, rfl, ?_, below_four HB5.out⟩
    have hv6 := vw_four (v0 := .int .i64 6) (v1 := .string ⟨#[]⟩) (v2 := .int .i64 0) (v3 := .slice a5 (pieceL V.list a b).length c5) HF5.out.vw HS4.out
    simpa [bulksR] using hv6)
theorem serves_len (hq : q ≠ []) {k : List UInt8} {l : List (List UInt8)} (hk : KeyIs S k l) {K : SP → Prop} (hK : K S) : Serves 39 w q p S c llenB [k] (numR l.length) K := by
  intro o1 w1 cb m sv hj hm0 hB1 hcb hv
  obtain ⟨e1, e2, _⟩ := hk.at hj 0
  have := lcread_len hj hq hcb (k := k) (by simpa using hv) rfl rfl e2
  rw [e1] at this
  exact this.mono fun e w' h => h.repL hj hK
theorem serves_range (hq : q ≠ []) (hT : Tbl w) {k x y : List UInt8} {l : List (List UInt8)} (hk : KeyIs S k l) {a b : Int} (hx : parseN x = some a) (hy : parseN y = some b) (hxl : x.length ≤ 1099511627776) (hyl : y.length ≤ 1099511627776)
    (ha : -9223372036854775808 ≤ a ∧ a ≤ 9223372036854775807) (hb : -9223372036854775808 ≤ b ∧ b ≤ 9223372036854775807) (hL : l.length ≤ 1099511627776) {K : SP → Prop} (hK : K S) : Serves 39 w q p S c lrangeB [k, x, y] (bulksR (pieceL l a b)) K := by
  intro o1 w1 cb m sv hj hm0 hB1 hcb hv
  obtain ⟨e1, e2, _⟩ := hk.at hj 0
  have := lcread_range hj hq (hT.below hB1) hcb (k := k) (x := x) (y := y) (by simpa using hv) rfl rfl e2 hx hy hxl hyl ha hb (by rw [e1]; exact hL)
  rw [e1] at this
  exact this.mono fun e w' h => h.repL hj hK
end
end Go.Proofs.YtgmmeeikjofefaaGreatDoor
