import Derived.Test.YtoganolkgmilaaaGreatDoorXL
import Derived.Test.YtoganolkgmilaaaGreatDoorXH
namespace Go.Proofs.YtoganolkgmilaaaGreatDoor
open Go Go.RowKit
attribute [local go_sem ↓] Go.wp_at_zero Go.wp_at_succ
/-! SMISMEMBER. -/
def memF (L : List Tx) (x : Tx) : Rf := numF (if decide (x ∈ L) = true then 1 else 0)
def memR (L ms : List Tx) : RP := ⟨6, [], 0, ms.map (memF L)⟩
def SmRel (w : World) (L ms : List Tx) (i : Value) (wr : World) : Prop :=
  ∃ k v o', k ≤ ms.length ∧ i = .int .i64 ((k : Nat) : Int) ∧ Blk o' wr [9, 1] w.heap.size #[.int .i64 6, .string ⟨#[]⟩, .int .i64 0, v] 29 ∧ Row o' wr [9, 0] 29 4 v k (rfsC ((ms.take k).map (memF L))) ∧ Stp [9] none0 w o' wr
section
variable {o : Roles} {w : World} {q : List Nat} {p : Nat} {c : Cnt} {S : SP} {cb : Nat} {ρ : List Nat} {now : Int} {sv : Value}
set_option maxRecDepth 10000 in
set_option maxHeartbeats 8000000 in
theorem smismember_ok (h : SpJ o w q p S c) (hq : q ≠ []) (hcb : Blk o w ρ cb (callC p now smismemberB sv) 93)
    {k : Tx} {ms : List Tx} (hv : Vw (Old w) w sv 1 (ms.length + 1) ((k :: ms).map txt)) {V : VV} (hV : V = ((S.at now k).getD hd0).v) {ok : Bool} (hok : ok = (S.at now k).isSome) (hwr : (ok && V.kind != 4) = false) (hl : V.list.length ≤ 1099511627776) (hm : ms.length ≤ 1099511627776) :
    Calls Tryz.prog 44 #[.pointer (some ⟨cb, 0, none⟩)] w (RepB w (memR V.list ms)) := by
  obtain ⟨o1, m, hbg, hj⟩ := begin_roles h hq
  have hfr0 := Fr.begin hbg hj hcb
  have hcc := hcb.cell
  have hcl := hcb.lt
  obtain ⟨b, off, cap, a', c', rfl, hk, hbl, hvt, hsl⟩ := vw_rest hv
  replace hbl : b < w.heap.size := hbl
  have HSET := Lib.hid (fun (W : World) (hW : Below w.heap.size w W) => show Calls Tryz.prog 69 #[.pointer (some ⟨cb, 0, none⟩), txt k] W (SetDid W V ok) from by rw [hV, hok]; exact cset_ok (h.below hW) (hcb.below hW) k)
  have HFR := Lib.hid hfr0
  have HB1 := Lib.hid hbg.res.2
  have HWR := Lib.hid hwr
  have HVT := Lib.hid hvt
  have hn1 : (1 : Int) ≤ ((ms.length + 1 : Nat) : Int) := by omega
  clear h hcb hv hbg hj hV hok hwr hfr0 hvt
  unfold txt at HSET
  go_enter Tryz.func44, Tryz.ntmps44
  go_wp2_with fail
  refine (HSET.out _ HB1.out).mono ?_; rintro e w2 ⟨a2, c2, rfl, hv2, hB2⟩
  rw [HWR.out]
  have hB02 : Below w.heap.size w w2 := HB1.out.trans (hB2.mono HB1.out.size)
  have hfr2 := HFR.out.below hB2
  have hcc2 := hfr2.call.cell
  have HB2 := Lib.hid hB02
  have HF2 := Lib.hid hfr2
  have HV2 := Lib.hid hv2
  have HVT := Lib.hid (HVT.out.below hB02)
  obtain ⟨L, hL⟩ : ∃ L, L = V.list := ⟨_, rfl⟩
  have hn9 : ((ms.length + 1 : Nat) : Int) = (ms.length : Int) + 1 := by omega
  have hcl2 : cb < w2.heap.size := hfr2.call.lt
  have hat : SmRel w2 V.list ms (.int .i64 0) (w2.alloc (.cells #[.int .i64 6, .string ⟨#[]⟩, .int .i64 0, .slice none 0 0] 29)) := by
    have b1 := Blk.new none0 w2 [9, 1] #[.int .i64 6, .string ⟨#[]⟩, .int .i64 0, .slice none 0 0] 29 w2.heap.size rfl
    have s1 := (Stp.refl [9] none0 w2).alloc (r' := [9, 1]) (.cells #[.int .i64 6, .string ⟨#[]⟩, .int .i64 0, .slice none 0 0] 29) w2.heap.size rfl
    exact ⟨0, _, _, Nat.zero_le _, rfl, b1, Row.nil _ _ _ _ _, s1⟩
  have HAT := Lib.hid hat
  clear hv2 hB2 hfr2 HSET HFR hcc hk hB02 hat hL
  go_wp2_with fail
  go_loopw [50] (fun i wr => SmRel w2 V.list ms i wr) (fun i _ => ms.length - (intOf i).toNat)
  case atStart => exact HAT.out
  case round =>
    clear HAT
    obtain ⟨k, v, o1, hk, rfl, hblk, hrow, hst⟩ := hrel
    by_cases hkl : k < ms.length
    · obtain ⟨x, hx⟩ : ∃ x, ms[k]? = some x := ⟨_, List.getElem?_eq_getElem hkl⟩
      have hB := hst.below0
      have hvr := HVT.out.below hB
      obtain ⟨⟨a1, c1, e4, hc1, _, hcells⟩, _⟩ := hvr
      injection e4 with e5 e6 e7
      subst e5 e7
      rcases hcells with hcells | ⟨bv, ov, rfl, hbv, _, hcv⟩
      · omega
      have hcell : wr.cell? ⟨bv, ov + k, none⟩ = some (.string ⟨x.toArray⟩) := hcv k (txt x) (by rw [List.getElem?_map, hx]; rfl)
      obtain ⟨av, cav, rfl, _⟩ := id hrow.slice
      have hld := hblk.cell 3
      have hkI : (0 : Int) ≤ k ∧ (k : Int) < ms.length := by omega
      obtain ⟨bo, hbo⟩ : ∃ bo, bo = decide (x ∈ V.list) := ⟨_, rfl⟩
      obtain ⟨N, hN⟩ : ∃ N : Int, N = if bo then 1 else 0 := ⟨_, rfl⟩
      have HX := Lib.hid (show (ms.take (k + 1)).map (memF V.list) = (ms.take k).map (memF V.list) ++ [⟨3, [], N⟩] by rw [List.take_add_one, hx, hN, hbo]; simp [memF, numF])
      have HBLK := Lib.hid hblk
      have HROW := Lib.hid hrow
      have HST := Lib.hid hst
      have HEN := Lib.hid (show ∀ us w, (callFunc 74 us).run Tryz.prog w = .ok (.enter 74 us) w from enters_of Tryz.func74 (by kernel_rfl) rfl)
      have HEN2 := Lib.hid (show ∀ us w, (callFunc 73 us).run Tryz.prog w = .ok (.enter 73 us) w from enters_of Tryz.func73 (by kernel_rfl) rfl)
      have hha := mhas_ok ((HV2.out.below hB).below (Below.refl _ wr).drew) hl x
      unfold HasDid txt at hha
      rw [← hbo] at hha
      have htr := truth_ok (World.drew wr) bo
      rw [← hN] at htr
      have HHA := Lib.hid hha
      have HTR := Lib.hid htr
      obtain ⟨i0, hi0, hz0, hz1, hz2⟩ := info_parts infoRp
      clear hblk hrow hst hB hcv hx hha htr hbo hN
      simp only [List.getElem?_toArray, List.getElem?_cons_succ, List.getElem?_cons_zero] at hld
      go_wp2_with fail
      go_region_law (first
        | (refine step_call (f := 74) rfl _ _ rfl (by rfl) HEN.out HHA.out ?_
           rintro e w3 ⟨rfl, rfl⟩
           refine ⟨_, rfl, ?_⟩)
        | (refine step_call (f := 73) rfl _ _ rfl (by rfl) HEN2.out HTR.out ?_
           rintro e w3 ⟨rfl, hB3⟩
           refine ⟨_, rfl, ?_⟩
           have hB3' : Below wr.heap.size wr w3 := (Below.refl _ wr).drew.trans hB3
           have hld3 : w3.cell? ⟨w2.heap.size, 3, none⟩ = some (.slice av k cav) := (HBLK.out.below hB3').cell 3
           have hB4 := hB3'.alloc hB3'.size (.cells #[.int .i64 3, .string ⟨#[]⟩, .int .i64 N, .slice none 0 0] 29)
           have hld4 : (w3.alloc (.cells #[.int .i64 3, .string ⟨#[]⟩, .int .i64 N, .slice none 0 0] 29)).cell? ⟨w2.heap.size, 3, none⟩ = some (.slice av k cav) := (HBLK.out.below hB4).cell 3
           have HR4 := Lib.hid (HROW.out.below hB4)
           have HB4 := Lib.hid hB4
           have HSRC := Lib.hid ((vw_newK w3 #[.int .i64 3, .string ⟨#[]⟩, .int .i64 N, .slice none 0 0] 29 4 rfl).src (P := Tryz.prog) Tryz.underlying27 (by intro u hu; simp at hu; rcases hu with rfl | rfl | rfl | rfl <;> rfl))
           clear hB3 hB3' hB4)
        | (refine step_app _ rfl _ _ 27 27 rfl 29 i0 _ 4 56 Tryz.underlying27 hi0 hz0 hz1 hz2 rfl rfl HR4.out rfl HSRC.out (by unfold maxLen; omega) (by omega) ?_
           intro v' w5 o5 hrow5 hst5
           obtain ⟨av5, cv5, rfl, _⟩ := id hrow5.slice
           have hbk5 := (HBLK.out.below HB4.out).keep hst5 (by decide)
           have hld5 : w5.cell? ⟨w2.heap.size, 3, none⟩ = some (.slice av k cav) := hbk5.cell 3
           have hfr5 := hbk5.free
           have hs5 := HST.out.trans ((Stp.ofBelow [9] o1 HB4.out).trans (hst5.wide (by decide)))
           have D := Lib.hid (show SmRel w2 V.list ms (.int .i64 ((k + 1 : Nat) : Int)) (w5.setCell ⟨w2.heap.size, 3, none⟩ (.slice av5 (k + 1) cv5)) from
             ⟨k + 1, _, o5, hkl, rfl, hbk5.setCell 3 _, by rw [HX.out, rfsC_app]; exact hrow5.setCell _ _ (by show o5 w2.heap.size ≠ _; rw [hbk5.role]; decide), hs5.setCell (by show [9] <+: o5 w2.heap.size; rw [hbk5.role]; decide) _⟩)
           clear hrow5 hst5 hbk5 hs5))
      all_goals (
        clear HBLK HROW HST HEN HEN2 HHA HTR HX HR4 HB4 HSRC
        go_wp2_with fail
        go_roundw
        case rel => exact D.out
        case measure => simp [intOf]; omega)
    · obtain rfl : k = ms.length := by omega
      obtain ⟨av, cav, rfl, _⟩ := id hrow.slice
      rw [List.take_length] at hrow
      have hb := hblk.cell
      have hf5 := HF2.out.below hst.below0
      have hrc := hf5.res.cell
      have hrf := hf5.res.free
      have HRV := Lib.hid (hrow.fresh2 (by decide) hst).vw
      have HB5 := Lib.hid (HB2.out.trans (hst.below0.mono HB2.out.size))
      have HSZ := Lib.hid (show w.heap.size < w2.heap.size from HF2.out.res.lt)
      clear hblk hrow hst hf5 HVT HF2 HV2 HB2 hcc2
      go_wp2_with fail
      refine bodyPost_ret (v := repV 6 [] 0 (.slice av ms.length cav)) (by simp [results, Tryz.results44, go_sem, hrc]) rfl ⟨_, rfl, ?_, below_four HB5.out⟩
      have hv6 := vw_four (v0 := .int .i64 6) (v1 := .string ⟨#[]⟩) (v2 := .int .i64 0) (v3 := .slice av ms.length cav) HRV.out HSZ.out
      simpa [memR] using hv6
end
section
variable {w : World} {q : List Nat} {p : Nat} {c : Cnt} {S : SP} {k : Tx} {l : List Tx} {K : SP → Cnt → Prop}
theorem serves_mismember (hq : q ≠ []) (hk : SetIs S k l) (hl : l.length ≤ 1099511627776) {ms : List Tx} (hm : ms.length ≤ 1099511627776) (hK : K S c) : Serves 44 w q p S c smismemberB (k :: ms) (memR l ms) K := by
  intro o1 w1 cb m sv hj hm0 hB1 hcb hv
  obtain ⟨e1, e2, _⟩ := hk.at 0
  have := smismember_ok hj hq hcb (k := k) (ms := ms) (by simpa using hv) rfl rfl e2 (by rw [e1]; exact hl) hm
  rw [e1] at this
  exact this.mono fun e w' h => h.repL hj hK
end
end Go.Proofs.YtoganolkgmilaaaGreatDoor
