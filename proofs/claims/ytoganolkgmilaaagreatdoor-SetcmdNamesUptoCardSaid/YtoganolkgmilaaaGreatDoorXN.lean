import Derived.Test.YtoganolkgmilaaaGreatDoorXL
import Derived.Test.YtoganolkgmilaaaGreatDoorXM
namespace Go.Proofs.YtoganolkgmilaaaGreatDoor
open Go Go.RowKit
/-! pop. -/
abbrev spopB : Tx := [115, 112, 111, 112]
abbrev numErr : Tx := [69, 82, 82, 32, 97, 32, 110, 117, 109, 98, 101, 114, 32, 105, 115, 32, 119, 97, 110, 116, 101, 100]
section
variable {o : Roles} {w : World} {q : List Nat} {p : Nat} {c : Cnt} {S : SP} {cb : Nat} {ρ : List Nat} {now : Int} {sv : Value}
set_option maxRecDepth 10000 in
set_option maxHeartbeats 4000000 in
theorem spop_bad (h : SpJ o w q p S c) (hq : q ≠ []) (hT : Tbl w) (hcb : Blk o w ρ cb (callC p now spopB sv) 93)
    {k y : Tx} (hv : Vw (Old w) w sv 1 2 ([k, y].map txt)) {n : Int} (hy : parseN y = some n) (hn : n < 0) (hyl : y.length ≤ 1099511627776) :
    Calls Tryz.prog 45 #[.pointer (some ⟨cb, 0, none⟩)] w (RepJ o w q p S c (errF numErr)) := by
  obtain ⟨o1, m, hbg, hj⟩ := begin_roles h hq
  have hfr0 := Fr.begin hbg hj hcb
  have hcc := hcb.cell
  have hcl := hcb.lt
  obtain ⟨a0, cap, rfl, hcap, _, _⟩ := id hv.slice
  obtain ⟨b, off, rfl, hbl, hcap, hg⟩ := vw_get hv (by omega)
  replace hbl : b < w.heap.size := hbl
  have hk1 := hg 1 y rfl
  have hcapI : (2 : Int) ≤ (cap : Int) := by omega
  have hp := parse_ok (hT.below hbg.res.2) y hyl
  rw [hy] at hp
  unfold ParseDid at hp
  simp only [Option.getD_some, Option.isSome_some, if_true] at hp
  have HPA := Lib.hid hp
  have HFR := Lib.hid hfr0
  have HBG := Lib.hid hbg
  have hnn : decide (n < 0) = true := decide_eq_true hn
  clear h hcb hv hbg hj hfr0 hg hp hy hT
  unfold txt at HPA
  go_enter Tryz.func45, Tryz.ntmps45
  go_wp2_with fail
  refine HPA.out.mono ?_; rintro e w2 ⟨rfl, hB2⟩
  have HF2 := Lib.hid (HFR.out.below hB2)
  clear hB2 HPA HFR hcc hk1
  go_wp2_with fail
  refine (lfault_ok _ _).mono ?_; rintro e w6 ⟨rfl, hB6⟩
  have hf6 := HF2.out.below hB6
  have HF6 := Lib.hid hf6
  have hrc := hf6.res.cell
  have hrf := hf6.res.free
  clear hB6 hf6 HF2
  go_wp2_with fail
  obtain ⟨hj7, hs7⟩ := HF6.out.fin HBG.out (.int .i64 2) (.string ⟨numErr.toArray⟩) (.int .i64 0) (.slice none 0 0)
  exact bodyPost_ret (v := repV 2 numErr 0 (.slice none 0 0)) (by simp [results, Tryz.results45, go_sem, hrc]) rfl ⟨rfl, o1, hj7, hs7⟩
set_option maxRecDepth 10000 in
set_option maxHeartbeats 4000000 in
theorem spop_one (h : SpJ o w q p S c) (hq : q ≠ []) (hρ : ¬ q <+: ρ) (hcb : Blk o w ρ cb (callC p now spopB sv) 93)
    {k : Tx} (hv : Vw (Old w) w sv 1 1 ([k].map txt)) {x : Tx} {L : List Tx} (hL : ((S.at now k).getD hd0).v.list = x :: L) (hwr : ((S.at now k).isSome && ((S.at now k).getD hd0).v.kind != 4) = false) (has : Asc (x :: L))
    (hs : ∀ y ∈ L, y.length ≤ 1048576) (hl : L.length ≤ 274877906944) (hc : c.num ≤ 4611686018427387000) (hf : c.few ≤ 1099511627000) :
    Calls Tryz.prog 45 #[.pointer (some ⟨cb, 0, none⟩)] w (RepJ o w q p (S.layS now k L ((S.at now k).getD hd0).due (c.num + 1)) (c.layS (S.at now k).isSome L) (bulkF x)) := by
  obtain ⟨o1, m, hbg, hj⟩ := begin_roles h hq
  have hfr0 := Fr.begin hbg hj hcb
  have hcc := hcb.cell
  have hcl := hcb.lt
  obtain ⟨b, off, cap, rfl, hcap, hbl, hk⟩ := vw_head1 hv
  replace hbl : b < w.heap.size := hbl
  have HSET := Lib.hid (fun (W : World) (hW : Below w.heap.size w W) => show Calls Tryz.prog 69 #[.pointer (some ⟨cb, 0, none⟩), txt k] W _ from cset_ok (h.below hW) (hcb.below hW) k)
  unfold SetDid at HSET
  rw [hL, hwr] at HSET
  have HPP := Lib.hid h.role
  have HFR := Lib.hid hfr0
  have HBG := Lib.hid hbg
  have HB1 := Lib.hid hbg.res.2
  have HAS := Lib.hid has
  have HS := Lib.hid hs
  obtain ⟨S1, hS1⟩ : ∃ S1, S1 = S.layS now k L ((S.at now k).getD hd0).due (c.num + 1) := ⟨_, rfl⟩
  obtain ⟨c1, hc1⟩ : ∃ c1, c1 = c.layS (S.at now k).isSome L := ⟨_, rfl⟩
  rw [← hS1, ← hc1]
  have HSC := Lib.hid (And.intro hS1 hc1)
  clear h hcb hv hbg hj hfr0 hL hwr has hs hS1 hc1
  unfold txt at HSET
  go_enter Tryz.func45, Tryz.ntmps45
  go_wp2_with fail
  refine (HSET.out _ HB1.out).mono ?_; rintro e w2 ⟨a2, k2, rfl, hv2, hB2⟩
  have hB02 := HB1.out.trans (hB2.mono HB1.out.size)
  obtain ⟨b2, off2, cap2, a3, c3, e2, hx, _, hvt, hcut⟩ := vw_rest hv2
  injection e2 with e3 _ e4
  subst e3 e4
  have hcap2 : (x :: L).length ≤ k2 := by
    obtain ⟨_, _, e5, hcap2, _⟩ := hv2.slice
    injection e5 with _ _ e6
    omega
  have hf2 := HFR.out.below hB2
  have HF2 := Lib.hid hf2
  have hcc2 := hf2.call.cell
  have hk2 : w2.cell? ⟨b, off, none⟩ = some (.string ⟨k.toArray⟩) := cell_below hB02 hk
  have hcapI : (1 : Int) ≤ (k2 : Int) := by simp at hcap2; omega
  have hmin : min (1 : Int) ((L.length : Int) + 1) = 1 := by omega
  simp only [List.length_cons] at hcut
  have hcd : (w2.heap.size : Nat) = w2.heap.size := rfl
  have HBN := Lib.hid (show ∀ bb, (w.alloc (.cells zRepC 29)).heap.size ≤ bb → o1 bb = [m + 2] from fun bb hb => HBG.out.new bb (by simp at hb; omega))
  have HP := Lib.hid (show ∀ W, Below w2.heap.size w2 W → Calls Tryz.prog 72 #[.pointer (some ⟨cb, 0, none⟩), .string ⟨k.toArray⟩, .slice a3 L.length c3] W (PutL o1 W q p S1 c1 true) from fun W hW => by
    have := cput_ok (hf2.below hW).sp (hf2.below hW).call k (hvt.below hW) (fun bb hb => by have := HPP.out.2; simp at hb; omega) (asc_cons.1 HAS.out).2 HS.out (by omega) (by omega) (by omega)
    rw [← HSC.out.1, ← HSC.out.2] at this
    exact this)
  have HX := Lib.hid (show ∀ (W W2 : World) (o2 : Roles), Below w2.heap.size w2 W → Stp q o1 W o2 W2 → W2.cell? ⟨b2, off2, none⟩ = some (.string ⟨x.toArray⟩) from fun W W2 o2 hW hst => by
    have hc := cell_below hW hx
    have hb2 : (w.alloc (.cells zRepC 29)).heap.size ≤ b2 := by assumption
    unfold World.cell? at hc ⊢
    simp only [hst.block b2 (cell_lt (cell_below hW hx)) (by rw [HBN.out b2 hb2]; exact (HBG.out.aq 2).not)]
    exact hc)
  clear hv2 hB2 hf2 hvt hx HSET HFR hcc hk hB02 hcd
  go_wp2_with fail
  go_still_tail 10, (by kernel_rfl)
  go_wp2_with fail
  refine (HP.out _ (Below.refl _ w2).drew).mono ?_; rintro e w4 ⟨rfl, o4, hj4, hs4⟩
  have hx4 := HX.out _ _ _ (Below.refl _ w2).drew hs4
  have hf4 := (HF2.out.below (Below.refl _ w2).drew).put HBG.out hρ hj4 hs4
  have hcc4 := hf4.call.cell
  have HF4 := Lib.hid hf4
  clear hj4 hs4 hf4 HF2 HP HX hcc2 hk2
  go_wp2_with fail
  refine (lbulk_ok _ _).mono ?_; rintro e w6 ⟨rfl, hB6⟩
  have hf6 := HF4.out.below hB6
  have HF6 := Lib.hid hf6
  have hrc := hf6.res.cell
  have hrf := hf6.res.free
  clear hB6 hf6 HF4
  go_wp2_with fail
  obtain ⟨hj7, hs7⟩ := HF6.out.fin HBG.out (.int .i64 4) (.string ⟨x.toArray⟩) (.int .i64 0) (.slice none 0 0)
  exact bodyPost_ret (v := repV 4 x 0 (.slice none 0 0)) (by simp [results, Tryz.results45, go_sem, hrc]) rfl ⟨rfl, o4, hj7, hs7⟩
/-- What is left of a key, some taken out. -/
def SP.poS (S : SP) (c : Cnt) (now : Int) (k : Tx) (L : List Tx) (j : Nat) : SP := if j = 0 then S else S.layS now k (L.drop j) ((S.at now k).getD hd0).due (c.num + 1)
def Cnt.poS (c : Cnt) (S : SP) (now : Int) (k : Tx) (L : List Tx) (j : Nat) : Cnt := if j = 0 then c else c.layS (S.at now k).isSome (L.drop j)
set_option maxRecDepth 10000 in
set_option maxHeartbeats 4000000 in
theorem spop_n (h : SpJ o w q p S c) (hq : q ≠ []) (hρ : ¬ q <+: ρ) (hT : Tbl w) (hcb : Blk o w ρ cb (callC p now spopB sv) 93)
    {k y : Tx} (hv : Vw (Old w) w sv 1 2 ([k, y].map txt)) {n : Int} (hy : parseN y = some n) (hn : 0 ≤ n) (hyl : y.length ≤ 1099511627776) {L : List Tx} (hL : ((S.at now k).getD hd0).v.list = L) (hwr : ((S.at now k).isSome && ((S.at now k).getD hd0).v.kind != 4) = false) (has : Asc L)
    (hs : ∀ y ∈ L, y.length ≤ 1048576) (hl : L.length ≤ 274877906944) (hc : c.num ≤ 4611686018427387000) (hf : c.few ≤ 1099511627000) {j : Nat} (hj0 : (j : Int) = min n (L.length : Int)) :
    Calls Tryz.prog 45 #[.pointer (some ⟨cb, 0, none⟩)] w (RepL o w q p (bulksR (L.take j)) (fun S' c' => S' = S.poS c now k L j ∧ c' = c.poS S now k L j)) := by
  obtain ⟨o1, m, hbg, hj⟩ := begin_roles h hq
  have hfr0 := Fr.begin hbg hj hcb
  have hcc := hcb.cell
  have hcl := hcb.lt
  obtain ⟨a0, cap, rfl, hcap, _, _⟩ := id hv.slice
  obtain ⟨b, off, rfl, hbl, hcap, hg⟩ := vw_get hv (by omega)
  replace hbl : b < w.heap.size := hbl
  have hk := hg 0 k rfl
  have hk1 := hg 1 y rfl
  rw [Nat.add_zero] at hk
  have hcapI : (2 : Int) ≤ (cap : Int) := by omega
  have hp := parse_ok (hT.below hbg.res.2) y hyl
  rw [hy] at hp
  unfold ParseDid at hp
  simp only [Option.getD_some, Option.isSome_some, if_true] at hp
  have HPA := Lib.hid hp
  have hnn : decide (n < 0) = false := decide_eq_false (by omega)
  have HSET := Lib.hid (fun (W : World) (hW : Below w.heap.size w W) => show Calls Tryz.prog 69 #[.pointer (some ⟨cb, 0, none⟩), txt k] W _ from cset_ok (h.below hW) (hcb.below hW) k)
  unfold SetDid at HSET
  rw [hL, hwr] at HSET
  have HPP := Lib.hid h.role
  have HFR := Lib.hid hfr0
  have HBG := Lib.hid hbg
  have HB1 := Lib.hid hbg.res.2
  have HAS := Lib.hid has
  have HS := Lib.hid hs
  obtain ⟨S1, hS1⟩ : ∃ S1, S1 = S.poS c now k L j := ⟨_, rfl⟩
  obtain ⟨c1, hc1⟩ : ∃ c1, c1 = c.poS S now k L j := ⟨_, rfl⟩
  rw [← hS1, ← hc1]
  have HSC := Lib.hid (And.intro hS1 hc1)
  have hjl : j ≤ L.length := by omega
  have hjn : (j : Int) ≤ n := by omega
  have hmin : min n (L.length : Int) = (j : Int) := hj0.symm
  clear h hcb hv hbg hj hfr0 hg hp hy hT hL hwr has hs hS1 hc1 hj0
  unfold txt at HPA HSET
  go_enter Tryz.func45, Tryz.ntmps45
  go_wp2_with fail
  refine HPA.out.mono ?_; rintro e w1 ⟨rfl, hB1⟩
  have hB01 := HB1.out.trans (hB1.mono HB1.out.size)
  have HF1 := Lib.hid (HFR.out.below hB1)
  have HST := Lib.hid (HSET.out w1 hB01)
  have hcc1 := HF1.out.call.cell
  have hk2 : w1.cell? ⟨b, off, none⟩ = some (.string ⟨k.toArray⟩) := cell_below hB01 hk
  have HB01 := Lib.hid hB01
  clear hB1 hB01 HPA HFR hcc hk1 hk HSET
  go_wp2_with fail
  refine HST.out.mono ?_; rintro e w2 ⟨a2, k2, rfl, hv2, hB2⟩
  have hB02 := HB01.out.trans (hB2.mono HB01.out.size)
  have hf2 := HF1.out.below hB2
  have hcc2 := hf2.call.cell
  have hk3 : w2.cell? ⟨b, off, none⟩ = some (.string ⟨k.toArray⟩) := cell_below hB2 hk2
  replace hv2 : Vw (fun b => w1.heap.size ≤ b) w2 (.slice a2 L.length k2) 1 L.length (L.map txt) := hv2
  obtain ⟨a3, c3, _, _, hcut1, hv3⟩ := vw_cut hv2 0 j (Nat.zero_le _) hjl
  obtain ⟨a4, c4, _, hcut2, _, hv4⟩ := vw_cut hv2 j L.length hjl (Nat.le_refl _)
  have hcut1 := hcut1 rfl
  have hcut2 := hcut2 rfl
  replace hv3 : Vw (fun b => w1.heap.size ≤ b) w2 (.slice a3 j c3) 1 j ((L.take j).map txt) := by simpa [List.map_take] using hv3
  rw [Nat.sub_zero] at hcut1
  have e4 : ((L.map txt).drop j).take (L.length - j) = (L.drop j).map txt := by rw [← List.map_drop, List.take_of_length_le (by simp)]
  rw [e4] at hv4
  have ltk : (L.take j).length = j := by simp; omega
  have ldr : (L.drop j).length = L.length - j := by simp
  have HBN := Lib.hid (show ∀ bb, w1.heap.size ≤ bb → o1 bb = [m + 2] from fun bb hb => HBG.out.new bb (Nat.le_trans HB01.out.size hb))
  have HSZ := Lib.hid (show w.heap.size < w2.heap.size from hf2.res.lt)
  have HF2 := Lib.hid hf2
  have HV3 := Lib.hid hv3
  have HV4 := Lib.hid hv4
  have HW1 := Lib.hid HB01.out.size
  clear hv2 hv3 hv4 hf2 hB2 hB02 e4 HST HF1 hk2 hcc1 HB01
  have FIN : ∀ (W W5 : World) (o5 : Roles) (v5 : Value), Fr o w q p m ρ cb (callC p now spopB (.slice (some ⟨b, off, none⟩) 2 cap)) S1 c1 o5 W → W.heap.size ≤ W5.heap.size → Fr o w q p m ρ cb (callC p now spopB (.slice (some ⟨b, off, none⟩) 2 cap)) S1 c1 o5 W5 → Fresh W W5 29 4 v5 j (rfsC ((L.take j).map bulkF)) →
      RepL o w q p (bulksR (L.take j)) (fun S' c' => S' = S1 ∧ c' = c1) (.returned (repV 6 [] 0 v5)) ((((W5.setCell ⟨w.heap.size, 0, none⟩ (.int .i64 6)).setCell ⟨w.heap.size, 1, none⟩ (.string ⟨#[]⟩)).setCell ⟨w.heap.size, 2, none⟩ (.int .i64 0)).setCell ⟨w.heap.size, 3, none⟩ v5) := by
    intro W W5 o5 v5 hw _ hw5 hF
    obtain ⟨hj7, hs7⟩ := hw5.fin HBG.out (.int .i64 6) (.string ⟨#[]⟩) (.int .i64 0) v5
    refine ⟨v5, rfl, ?_, o5, S1, c1, hj7, ⟨rfl, rfl⟩, hs7⟩
    have hv6 := vw_four (v0 := .int .i64 6) (v1 := .string ⟨#[]⟩) (v2 := .int .i64 0) (v3 := v5) hF.vw hw.res.lt
    have e : (bulksR (L.take j)).list.length = j := by simp [bulksR]; omega
    rw [e]
    exact hv6
  have HFIN := Lib.hid FIN
  clear FIN
  by_cases hj1 : 0 < j
  · have hjI : (0 : Int) < (j : Int) := by omega
    have HP := Lib.hid (show ∀ W, Below w2.heap.size w2 W → Calls Tryz.prog 72 #[.pointer (some ⟨cb, 0, none⟩), .string ⟨k.toArray⟩, .slice a4 (L.length - j) c4] W (PutL o1 W q p S1 c1 true) from fun W hW => by
      have hv5 := HV4.out.below hW
      have := cput_ok (l := L.drop j) (HF2.out.below hW).sp (HF2.out.below hW).call k (by rw [ldr]; exact hv5) (fun bb hb => by have := HPP.out.2; have := HW1.out; omega) (HAS.out.sub (List.drop_sublist _ _)) (fun y hy => HS.out y (List.mem_of_mem_drop hy)) (by rw [ldr]; omega) (by omega) (by omega)
      have e1 := HSC.out.1
      have e2 := HSC.out.2
      unfold SP.poS at e1
      unfold Cnt.poS at e2
      rw [if_neg (by omega)] at e1 e2
      rw [← e1, ← e2] at this
      exact this)
    clear HV4 HAS HS
    go_wp2_with fail
    go_still_tail 10, (by kernel_rfl)
    go_wp2_with fail
    refine (HP.out _ (Below.refl _ w2).drew).mono ?_; rintro e w4 ⟨rfl, o4, hj4, hs4⟩
    have hf4 := (HF2.out.below (Below.refl _ w2).drew).put HBG.out hρ hj4 hs4
    have hv4 := (HV3.out.below (Below.refl _ w2).drew).stay hs4.size (fun bb hb hlt => hs4.block bb hlt (by rw [HBN.out bb hb]; exact (HBG.out.aq 2).not))
    have HBU := Lib.hid (lbulks_ok (l := L.take j) (by rw [ltk]; exact hv4) (by rw [ltk]; omega))
    have hcc4 := hf4.call.cell
    have HF4 := Lib.hid hf4
    clear hj4 hs4 hf4 hv4 HF2 HP HV3 hcc2 hk3
    go_wp2_with fail
    refine HBU.out.mono ?_; rintro e w5 ⟨v5, rfl, hF5⟩
    rw [ltk] at hF5
    obtain ⟨a5, c5, rfl, _⟩ := id hF5.vw.slice
    have hf5 := HF4.out.below hF5.below
    have D := Lib.hid (HFIN.out w4 w5 o4 _ HF4.out hF5.below.size hf5 hF5)
    have hrc := hf5.res.cell
    have hrf := hf5.res.free
    clear hF5 hf5 HF4 HBU HFIN hcc4
    go_wp2_with fail
    exact bodyPost_ret (v := repV 6 [] 0 (.slice a5 j c5)) (by simp [results, Tryz.results45, go_sem, hrc]) rfl D.out
  · have hjI : ¬ (0 : Int) < (j : Int) := by omega
    have e1 : S1 = S := by rw [HSC.out.1]; exact if_pos (by omega)
    have e2 : c1 = c := by rw [HSC.out.2]; exact if_pos (by omega)
    subst e1 e2
    have HBU := Lib.hid (lbulks_ok (l := L.take j) (by rw [ltk]; exact HV3.out) (by rw [ltk]; omega))
    have LTK := Lib.hid ltk
    clear HV4 HAS HS HV3 ltk ldr hj1
    go_wp2_with fail
    refine HBU.out.mono ?_; rintro e w5 ⟨v5, rfl, hF5⟩
    rw [LTK.out] at hF5
    obtain ⟨a5, c5, rfl, _⟩ := id hF5.vw.slice
    have hf5 := HF2.out.below hF5.below
    have D := Lib.hid (HFIN.out w2 w5 o1 _ HF2.out hF5.below.size hf5 hF5)
    have hrc := hf5.res.cell
    have hrf := hf5.res.free
    clear hF5 hf5 HF2 HBU HFIN hcc2 hk3 LTK
    go_wp2_with fail
    exact bodyPost_ret (v := repV 6 [] 0 (.slice a5 j c5)) (by simp [results, Tryz.results45, go_sem, hrc]) rfl D.out
end
end Go.Proofs.YtoganolkgmilaaaGreatDoor
namespace Go.Proofs.YtoganolkgmilaaaGreatDoor
open Go Go.RowKit
/-! join. -/
abbrev sinterB : Tx := [115, 105, 110, 116, 101, 114]
abbrev sunionB : Tx := [115, 117, 110, 105, 111, 110]
abbrev sdiffB : Tx := [115, 100, 105, 102, 102]
abbrev storeB : Tx := [115, 116, 111, 114, 101]
abbrev sinterstoreB : Tx := [115, 105, 110, 116, 101, 114, 115, 116, 111, 114, 101]
abbrev sunionstoreB : Tx := [115, 117, 110, 105, 111, 110, 115, 116, 111, 114, 101]
abbrev sdiffstoreB : Tx := [115, 100, 105, 102, 102, 115, 116, 111, 114, 101]
/-- What several sets have together. -/
def joinL (way : Nat) (l0 : List Tx) (R : List (List Tx)) : List Tx := if way = 0 then ofL (interP l0 R) else if way = 1 then ofL (l0 :: R).flatten else ofL (diffP l0 R)
def JName (nm : Tx) (way : Nat) : Prop := (way = 0 ∧ (nm = sinterB ∨ nm = sinterstoreB)) ∨ (way = 1 ∧ (nm = sunionB ∨ nm = sunionstoreB)) ∨ (way = 2 ∧ (nm = sdiffB ∨ nm = sdiffstoreB))
theorem infoSets : (Tryz.prog.info? 22).map (fun i => (i.zero, i.size, i.bytes)) = some (some (.slice none 0 0), 1, 24) := by kernel_rfl
set_option maxRecDepth 10000 in
theorem winter_ok {A : Nat → Prop} {w : World} {v : Value} {l0 : List Tx} {R : List (List Tx)} (h : VwS A w v (l0 :: R)) (hl : ∀ l ∈ l0 :: R, l.length ≤ 1099511627776) (hn : R.length ≤ 1099511627776) : Calls Tryz.prog 78 #[v] w (MDid w (ofL (interP l0 R))) := by
  have H := Lib.hid (minter_ok h hl hn)
  obtain ⟨a, c, rfl, _⟩ := h.slice
  clear h hl
  generalize ofL (interP l0 R) = L at *
  go_enter Tryz.func78, Tryz.ntmps78
  go_wp2_with fail
  refine H.out.mono ?_; rintro e w1 ⟨a1, c1, rfl, hv, hB⟩
  have D := Lib.hid (show MDid w L (.returned (.slice a1 L.length c1)) w1 from ⟨a1, c1, rfl, hv, hB⟩)
  clear hv hB H
  go_wp2_with fail
  go_ret
  exact D.out
set_option maxRecDepth 10000 in
theorem wdiff_ok {A : Nat → Prop} {w : World} {v : Value} {l0 : List Tx} {R : List (List Tx)} (h : VwS A w v (l0 :: R)) (hl : ∀ l ∈ l0 :: R, l.length ≤ 1099511627776) (hn : R.length ≤ 1099511627776) : Calls Tryz.prog 77 #[v] w (MDid w (ofL (diffP l0 R))) := by
  have H := Lib.hid (mdiff_ok h hl hn)
  obtain ⟨a, c, rfl, _⟩ := h.slice
  clear h hl
  generalize ofL (diffP l0 R) = L at *
  go_enter Tryz.func77, Tryz.ntmps77
  go_wp2_with fail
  refine H.out.mono ?_; rintro e w1 ⟨a1, c1, rfl, hv, hB⟩
  have D := Lib.hid (show MDid w L (.returned (.slice a1 L.length c1)) w1 from ⟨a1, c1, rfl, hv, hB⟩)
  clear hv hB H
  go_wp2_with fail
  go_ret
  exact D.out
set_option maxRecDepth 10000 in
theorem wunion_ok {A : Nat → Prop} {w : World} {v : Value} {R : List (List Tx)} (h : VwS A w v R) (hl : R.flatten.length ≤ 1099511627776) (hn : R.length ≤ 1099511627776) : Calls Tryz.prog 79 #[v] w (MDid w (ofL R.flatten)) := by
  have H := Lib.hid (munion_ok h hl hn)
  obtain ⟨a, c, rfl, _⟩ := h.slice
  clear h hl
  generalize ofL R.flatten = L at *
  go_enter Tryz.func79, Tryz.ntmps79
  go_wp2_with fail
  refine H.out.mono ?_; rintro e w1 ⟨a1, c1, rfl, hv, hB⟩
  have D := Lib.hid (show MDid w L (.returned (.slice a1 L.length c1)) w1 from ⟨a1, c1, rfl, hv, hB⟩)
  clear hv hB H
  go_wp2_with fail
  go_ret
  exact D.out
/-- The sets of the first keys, as a row of the call's own. -/
def JRow (w : World) (Ls : List (List Tx)) (k : Nat) (out : Value) (wr : World) : Prop :=
  ∃ o' vs, Row o' wr [9, 0] 22 1 out k vs ∧ Stp [9] none0 w o' wr ∧ ∀ (j : Nat) l, j < k → Ls[j]? = some l → ∃ a c, vs[j]? = some (.slice a l.length c) ∧ Vw (fun b => o' b = [8]) wr (.slice a l.length c) 1 l.length (l.map txt)
theorem JRow.vwS {w wr : World} {Ls : List (List Tx)} {out : Value} (h : JRow w Ls Ls.length out wr) : ∃ A, VwS A wr out Ls := by
  obtain ⟨o', vs, h1, h2, h3⟩ := h
  exact ⟨_, ⟨vs, h1.vw, fun j l hj => by
    obtain ⟨a, c, e1, e2⟩ := h3 j l (List.getElem?_eq_some_iff.1 hj).1 hj
    exact ⟨a, c, e1, e2.old⟩⟩⟩
/-- One set more. -/
theorem JRow.next {w wr w2 w5 : World} {Ls : List (List Tx)} {k : Nat} {out' a2 : Value} {o' o5 : Roles} {vs : List Value} {l : List Tx} {c2 : Nat} {ad : Option Addr} (ha2 : a2 = .slice ad l.length c2)
    (hst : Stp [9] none0 w o' wr) (hin : ∀ (j : Nat) l, j < k → Ls[j]? = some l → ∃ a c, vs[j]? = some (.slice a l.length c) ∧ Vw (fun b => o' b = [8]) wr (.slice a l.length c) 1 l.length (l.map txt)) (hvl : vs.length = k)
    (hl : Ls[k]? = some l) (hB : Below wr.heap.size wr w2) (hv : Vw (fun b => wr.heap.size ≤ b) w2 a2 1 l.length (l.map txt))
    (hrow : Row o5 w5 [9, 0] 22 1 out' (k + 1) (vs ++ [a2])) (hst5 : Stp [9, 0] (o'.from wr.heap.size [8]) w2 o5 w5) : JRow w Ls (k + 1) out' w5 := by
  refine ⟨o5, vs ++ [a2], hrow, (hst.trans ((Stp.from0 [9] o' wr [8]).trans (Stp.ofBelow [9] _ hB))).trans (hst5.wide (by decide)), fun j l' hj hl' => ?_⟩
  rcases Nat.lt_or_ge j k with h | h
  · obtain ⟨a, c, e1, e2⟩ := hin j l' h hl'
    refine ⟨a, c, by rw [List.getElem?_append_left (by omega)]; exact e1, ?_⟩
    exact ((e2.from (r := [8])).below hB).keep hst5 (by decide)
  · obtain rfl : j = k := by omega
    rw [hl] at hl'
    cases hl'
    refine ⟨ad, c2, by rw [← hvl, List.getElem?_append_right (Nat.le_refl _), Nat.sub_self, ha2]; rfl, ?_⟩
    rw [← ha2]
    exact (hv.imp (fun b hb => Roles.from_new hb)).keep hst5 (by decide)
section
variable {o : Roles} {w : World} {q : List Nat} {p : Nat} {c : Cnt} {S : SP} {cb : Nat} {ρ : List Nat} {now : Int} {sv : Value}
def JoinDid (w : World) (L : List Tx) (e : Ending) (w' : World) : Prop :=
  ∃ a c, e = .returned (.tuple #[.slice a L.length c, .bool false]) ∧ Vw (fun b => w.heap.size ≤ b) w' (.slice a L.length c) 1 L.length (L.map txt) ∧ Below w.heap.size w w'
def JnRel (w : World) (Ls : List (List Tx)) (n : Nat) (out i : Value) (wr : World) : Prop := ∃ k : Nat, k ≤ n ∧ i = .int .i64 (k : Int) ∧ JRow w Ls k out wr
set_option maxRecDepth 10000 in
set_option maxHeartbeats 4000000 in
theorem join_ok {A : Nat → Prop} (h : SpJ o w q p S c) {nm : Tx} (hcb : Blk o w ρ cb (callC p now nm sv) 93) {vk : Value} {ks : List Tx} (hv : Vw A w vk 1 ks.length (ks.map txt)) {way : Nat} (hnm : JName nm way)
    {l0 : List Tx} {R : List (List Tx)} (hLs : ks.map (fun k => ((S.at now k).getD hd0).v.list) = l0 :: R) (hwr : ∀ k ∈ ks, ((S.at now k).isSome && ((S.at now k).getD hd0).v.kind != 4) = false) (hl : (l0 :: R).flatten.length ≤ 274877906944) (hn : ks.length ≤ 274877906944) :
    Calls Tryz.prog 47 #[.pointer (some ⟨cb, 0, none⟩), vk] w (JoinDid w (joinL way l0 R)) := by
  have HSET := Lib.hid (fun (k : Tx) (W : World) (hW : Below w.heap.size w W) => show Calls Tryz.prog 69 #[.pointer (some ⟨cb, 0, none⟩), txt k] W _ from cset_ok (h.below hW) (hcb.below hW) k)
  unfold SetDid at HSET
  have HV := Lib.hid hv
  have HW := Lib.hid hwr
  have HNM := Lib.hid hnm
  have HCB := Lib.hid hcb
  obtain ⟨a, cap, rfl, _⟩ := id hv.slice
  obtain ⟨Ls, hLs2⟩ : ∃ Ls, Ls = ks.map (fun k => ((S.at now k).getD hd0).v.list) := ⟨_, rfl⟩
  have HLS := Lib.hid (hLs2.trans hLs)
  have hll : Ls.length = ks.length := by rw [hLs2]; simp
  have HLK := Lib.hid (show ∀ j k, ks[j]? = some k → Ls[j]? = some ((S.at now k).getD hd0).v.list from fun j k hj => by rw [hLs2, List.getElem?_map, hj]; rfl)
  have HAT := Lib.hid (show JnRel w Ls ks.length (.slice none 0 0) (.int .i64 0) w from ⟨0, Nat.zero_le _, rfl, none0, [], Row.nil _ _ _ _ _, Stp.refl _ _ _, fun j l hj => absurd hj (Nat.not_lt_zero _)⟩)
  obtain ⟨i0, hi0, hz0, hz1, hz2⟩ := info_parts infoSets
  clear h hcb hv hwr hnm hLs hLs2
  unfold txt at HSET
  go_enter Tryz.func47, Tryz.ntmps47
  go_wp2_with fail
  go_loopw [6, 14] (fun out i wr => JnRel w Ls ks.length out i wr) (fun _ i _ => ks.length - (intOf i).toNat)
  case atStart => exact HAT.out
  case round =>
    clear HAT
    obtain ⟨k, hk, rfl, o', vs, hrow, hst, hin⟩ := hrel
    obtain ⟨ao, co, rfl, _⟩ := id hrow.slice
    have hB := hst.below0
    by_cases hkl : k < ks.length
    · obtain ⟨x, hx⟩ : ∃ x, ks[k]? = some x := ⟨_, List.getElem?_eq_getElem hkl⟩
      obtain ⟨b2, off2, rfl, _, hcap2, hg⟩ := vw_get (HV.out.below hB) (by omega)
      have hc : wr.cell? ⟨b2, off2 + k, none⟩ = some (.string ⟨x.toArray⟩) := hg k x hx
      have hkI : (0 : Int) ≤ k ∧ (k : Int) < ks.length := by omega
      have hset := HSET.out x wr hB
      rw [HW.out x (List.mem_of_getElem? hx)] at hset
      have HST := Lib.hid hset
      have hlk := HLK.out k x hx
      obtain ⟨l, hle⟩ : ∃ l, l = ((S.at now x).getD hd0).v.list := ⟨_, rfl⟩
      rw [← hle] at hlk HST
      have hvl : vs.length = k := by have := hrow.len; omega
      have HNX := Lib.hid (fun (w2 : World) (out' a2 : Value) (o5 : Roles) (w5 : World) (c2 : Nat) (ad : Option Addr) (ha2 : a2 = .slice ad l.length c2) (hB2 : Below wr.heap.size wr w2) (hv2 : Vw (fun b => wr.heap.size ≤ b) w2 a2 1 l.length (l.map txt)) (hrow5 : Row o5 w5 [9, 0] 22 1 out' (k + 1) (vs ++ [a2])) (hst5 : Stp [9, 0] (o'.from wr.heap.size [8]) w2 o5 w5) =>
        JRow.next ha2 hst hin hvl hlk hB2 hv2 hrow5 hst5)
      have HROW := Lib.hid (hrow.from (r := [8]))
      have hm1 : k + 1 ≤ maxLen := by unfold maxLen; omega
      have hm2 : (k + 1) * 24 ≤ 140737488355328 := by omega
      clear hg hx hset hlk hle hrow hst hin hB HV HW HLK HLS hvl
      go_wp2_with fail
      refine HST.out.mono ?_; rintro e w2 ⟨a2, c2, rfl, hv2, hB2⟩
      have hB3 : Below wr.heap.size wr (w2.alloc (.cells #[.slice a2 l.length c2] 22)) := hB2.alloc hB2.size _
      have HR3 := Lib.hid (HROW.out.below hB3)
      have HN3 := Lib.hid (fun (out' : Value) (o5 : Roles) (w5 : World) => HNX.out (w2.alloc (.cells #[.slice a2 l.length c2] 22)) out' (.slice a2 l.length c2) o5 w5 c2 a2 rfl hB3 (hv2.below (lit_below w2 _)))
      have HSRC := Lib.hid (Src.ofSlice (P := Tryz.prog) (w2.alloc (.cells #[.slice a2 l.length c2] 22)) (size := 1) (tx := 133) (e' := 22) Tryz.underlying133 ⟨w2.heap.size, 0, none⟩ 1 1 [.slice a2 l.length c2] rfl (fun j u hj => by
        have : j = 0 := by have := (List.getElem?_eq_some_iff.1 hj).1; simp at this; omega
        subst this
        simp at hj; subst hj
        rw [addr_add]
        unfold World.cell?
        rw [show (w2.alloc (.cells #[.slice a2 l.length c2] 22)).heap[w2.heap.size]? = some (.cells #[.slice a2 l.length c2] 22 (0, 0)) from heap_alloc_new w2 _]
        rfl) (fun u hu => by simp at hu; subst hu; rfl))
      clear hv2 hB2 hB3 HST HNX HROW hc
      go_wp2_with (
        at_builtin
        refine wpList_app _ rfl _ _ 133 133 rfl 22 i0 _ 1 24 Tryz.underlying133 hi0 hz0 hz1 hz2 rfl rfl HR3.out rfl HSRC.out hm1 hm2 ?_
        intro v' w5 o5 hrow5 hst5
        obtain ⟨a5, c5, rfl, _⟩ := id hrow5.slice
        have D := Lib.hid (show JnRel w Ls ks.length (.slice a5 (k + 1) c5) (.int .i64 ((k + 1 : Nat) : Int)) w5 from ⟨k + 1, hkl, rfl, HN3.out _ o5 w5 hrow5 hst5⟩)
        clear hrow5 hst5 HR3 HN3 HSRC)
      go_roundw
      case rel => exact D.out
      case measure => simp [intOf]; omega
    · obtain rfl : k = ks.length := by omega
      have hjr : JRow w Ls Ls.length (.slice ao ks.length co) wr := by rw [hll]; exact ⟨o', vs, hrow, hst, hin⟩
      obtain ⟨A2, hvs⟩ := hjr.vwS
      rw [HLS.out] at hvs
      have HVS := Lib.hid hvs
      have hcc := (HCB.out.below hB).cell
      have HB := Lib.hid hB
      have hln : (l0 :: R).length = ks.length := by rw [← HLS.out]; exact hll
      have hmem : ∀ l ∈ l0 :: R, l.length ≤ 274877906944 := fun l hlm => by
        have : l.length ≤ (l0 :: R).flatten.length := (List.sublist_flatten_of_mem hlm).length_le
        omega
      have hrl : R.length ≤ 274877906944 := by simp at hln; omega
      have HI := Lib.hid (winter_ok hvs (fun l hl => by have := hmem l hl; omega) (by omega))
      have HD := Lib.hid (wdiff_ok hvs (fun l hl => by have := hmem l hl; omega) (by omega))
      have HU := Lib.hid (wunion_ok hvs (by omega) (by omega))
      clear hjr hvs hrow hst hin hB HV HW HLK HLS HSET hmem hl hln hll hrl
      rcases HNM.out with ⟨rfl, rfl | rfl⟩ | ⟨rfl, rfl | rfl⟩ | ⟨rfl, rfl | rfl⟩
      all_goals (
        clear HNM
        go_wp2_with fail
        first
        | refine HI.out.mono ?_
        | refine HU.out.mono ?_
        | refine HD.out.mono ?_
        rintro e w5 ⟨a5, c5, rfl, hv5, hB5⟩
        have HV5 := Lib.hid (hv5.since HB.out)
        have HB5 := Lib.hid (HB.out.trans (hB5.mono HB.out.size))
        clear hv5 hB5 HI HD HU
        go_wp2_with fail
        go_ret2
        exact ⟨a5, c5, rfl, HV5.out, HB5.out⟩)
end
end Go.Proofs.YtoganolkgmilaaaGreatDoor
