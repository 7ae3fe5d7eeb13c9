import Derived.Test.YtgmmeeikjofefaaGreatDoorHA
import Derived.Test.YtgmmeeikjofefaaGreatDoorGN
namespace Go.Proofs.YtgmmeeikjofefaaGreatDoor
open Go Go.RowKit
attribute [local go_sem ↓] Go.wp_at_zero Go.wp_at_succ
/-! lpos, all places. -/
abbrev countB : List UInt8 := [99, 111, 117, 110, 116]
def numsR (l : List Nat) : RP := ⟨6, [], 0, l.map fun i : Nat => numF (i : Int)⟩
def OptRel (w1 : World) (r c m s i : Value) (wr : World) : Prop :=
  Below w1.heap.size w1 wr ∧ r = .int .i64 1 ∧ m = .int .i64 0 ∧ ((i = .int .i64 2 ∧ c = .int .i64 1 ∧ s = .slice none 0 0) ∨ (i = .int .i64 4 ∧ c = .int .i64 0 ∧ ∃ a cap, s = .slice a 1 cap ∧ Vw (fun b => w1.heap.size ≤ b) wr s 1 1 ([countB].map txt)))
def NumsRel (w : World) (l : List Nat) (i : Value) (wr : World) : Prop :=
  ∃ k v o', k ≤ l.length ∧ i = .int .i64 ((k : Nat) : Int) ∧ Blk o' wr [9, 1] w.heap.size #[.int .i64 6, .string ⟨#[]⟩, .int .i64 0, v] 29 ∧ Row o' wr [9, 0] 29 4 v k (rfsC ((l.take k).map fun i : Nat => numF (i : Int))) ∧ Stp [9] none0 w o' wr
theorem vw_int {A : Nat → Prop} {w : World} {a : Option Addr} {n cap : Nat} {l : List Nat} (h : Vw A w (.slice a n cap) 1 n (ivs l)) (hn : 0 < n) : ∃ b off, a = some ⟨b, off, none⟩ ∧ n ≤ cap ∧ ∀ (k : Nat) x, l[k]? = some x → w.cell? ⟨b, off + k, none⟩ = some (.int .i64 (x : Int)) := by
  obtain ⟨⟨a', c', e, g1, g2, g3⟩, g4⟩ := h
  injection e with e1 e2 e3
  subst e1 e3
  rcases g3 with g3 | ⟨b, off, rfl, g5, g6, g7⟩
  · omega
  · exact ⟨b, off, rfl, g1, fun k x hx => g7 k _ (by unfold ivs; rw [List.getElem?_map, hx]; rfl)⟩
section
variable {o : Roles} {w : World} {q : List Nat} {p : Nat} {c : Cnt} {S : SP}
set_option maxRecDepth 10000 in
set_option maxHeartbeats 20000000 in
theorem lcpos_all (h : SpJ o w q p S c) (hq : q ≠ []) (hT : Tbl w) {cb : Nat} {ρ : List Nat} {now : Int} {nm : List UInt8} {sv : Value} (hcb : Blk o w ρ cb (callC p now nm sv) 79)
    {k x : List UInt8} (hv : Vw (Old w) w sv 1 4 ([k, x, countB, [48]].map txt)) {V : VV} (hV : V = ((S.at now k).getD hd0).v) {ok : Bool} (hok : ok = (S.at now k).isSome) (hwr : (ok && V.kind != 2) = false)
    (hL : V.list.length ≤ 1099511627776) :
    Calls Tryz.prog 41 #[.pointer (some ⟨cb, 0, none⟩)] w (RepB w (numsR (placesN x V.list V.list.length))) := by
  obtain ⟨o1, m, hbg, hj⟩ := begin_roles h hq
  have hfr := Fr.begin hbg hj hcb
  obtain ⟨a0, cap, rfl, hcap, _, _⟩ := id hv.slice
  obtain ⟨bb, off, rfl, hbl, hcap, hg⟩ := vw_get hv (by omega)
  have hbl : bb < w.heap.size := hbl
  have hcl := hcb.lt
  have HB1 := Lib.hid hbg.res.2
  have HFR := Lib.hid hfr
  have HTX := Lib.hid (fun (W : World) (hW : Below (w.alloc (.cells zRepC 29)).heap.size (w.alloc (.cells zRepC 29)) W) (j : Nat) (y : List UInt8) (hy : [k, x, countB, [48]][j]? = some y) => show W.cell? ⟨bb, off + j, none⟩ = some (.string ⟨y.toArray⟩) from by rw [(bcell (hbg.res.2.trans (hW.mono (by simp)))).1 _ _ hbl]; exact hg j y hy)
  have HLI := Lib.hid (fun (W : World) (hW : Below (w.alloc (.cells zRepC 29)).heap.size (w.alloc (.cells zRepC 29)) W) => clist_ok (hfr.below hW).sp (hfr.below hW).call k [m])
  rw [← hV, ← hok] at HLI
  have HPA := Lib.hid (fun (W : World) (hW : Below (w.alloc (.cells zRepC 29)).heap.size (w.alloc (.cells zRepC 29)) W) => show Calls Tryz.prog 68 #[.string ⟨([48] : List UInt8).toArray⟩] W (fun e w' => e = .returned (.tuple #[.int .i64 0, .int .i64 0]) ∧ Below W.heap.size W w') from by
    have hpa := parse_ok (hT.below (hbg.res.2.trans (hW.mono (by simp)))) [48] (by decide)
    rw [parse_0] at hpa
    exact hpa)
  have HLO := Lib.hid (fun W => show Calls Tryz.prog 35 #[.string ⟨countB.toArray⟩] W (fun e w' => e = .returned (.string ⟨countB.toArray⟩) ∧ Below W.heap.size W w') from by
    have := lower_ok countB W (by decide)
    rw [show lowL countB = countB from by decide] at this
    exact this)
  obtain ⟨i0, hi0, hz0, hz1, hz2⟩ := info_parts infoS
  have HWR := Lib.hid hwr
  have HOKL := Lib.hid hL
  clear h hcb hbg hj hv hV hok hwr hfr hT hg hL
  unfold txt at HLI
  go_enter Tryz.func41, Tryz.ntmps41
  go_wp2_with fail
  go_loopw [3, 4, 5, 6, 7] (fun r c m s i wr => OptRel (w.alloc (.cells zRepC 29)) r c m s i wr) (fun _ _ _ _ i _ => (4 - intOf i).toNat)
  case atStart => exact ⟨Below.refl _ _, rfl, rfl, .inl ⟨rfl, rfl, rfl⟩⟩
  case round =>
    obtain ⟨hB, rfl, rfl, ⟨rfl, rfl, rfl⟩ | ⟨rfl, rfl, ax, cs, rfl, hvs⟩⟩ := hrel
    · have hcc := (HFR.out.call.below hB).cell
      have hk2 := HTX.out wr hB 2 countB rfl
      have HB := Lib.hid hB
      clear hB
      go_wp2_with fail
      refine (HLO.out _).mono ?_; rintro e w3 ⟨rfl, hB3⟩
      have hB03 := HB.out.trans (hB3.mono HB.out.size)
      have hcc3 := (HFR.out.call.below hB03).cell
      have hk3 := HTX.out w3 hB03 3 [48] rfl
      have HB03 := Lib.hid hB03
      have HB3 := Lib.hid hB3
      have HHS := Lib.hid (show Calls Tryz.prog 84 #[.slice none 0 0, .string ⟨countB.toArray⟩] w3 (fun e w' => e = .returned (.bool false) ∧ w' = w3) from hasS_ok (ws := []) (Vw.nil (fun _ => False) w3 1) (by decide) countB)
      clear hB3 hB03 hcc hk2
      go_wp2_with fail
      refine HHS.out.mono ?_; rintro e w4 ⟨rfl, hw⟩
      subst hw
      clear HHS
      have HSRC := Lib.hid ((vw_new1 w4 countB 9).src (P := Tryz.prog) Tryz.underlying22 (one_list [countB]))
      have HST := Lib.hid ((Stp.ofBelow [9] none0 HB3.out).trans (Stp.ofBelow [9] none0 ((Below.refl _ w4).alloc (Nat.le_refl _) (.cells #[txt countB] 9))))
      have HB4 := Lib.hid (HB03.out.alloc (HB03.out.size) (.cells #[txt countB] 9))
      unfold txt at HSRC HST HB4
      go_wp2_with (
        at_builtin
        refine wpList_app _ rfl _ _ 22 22 rfl 9 i0 _ 1 16 Tryz.underlying22 hi0 hz0 hz1 hz2 rfl rfl (Row.nil none0 _ [9] 9 1) rfl HSRC.out (by unfold maxLen; omega) (by omega) ?_
        intro v' w5 o5 hrow5 hst5
        obtain ⟨a5, c5, rfl, _⟩ := id hrow5.slice
        have hF5 : Fresh wr w5 9 1 (.slice a5 (0 + 1) c5) (0 + 1) ([countB].map txt) := Row.fresh2 (o' := o5) (r := [9]) (a := 9) (t := []) (by simpa [txt] using hrow5) (by decide) (HST.out.trans hst5)
        have HF5 := Lib.hid hF5
        have hB05 := HB.out.trans (hF5.below.mono HB.out.size)
        have hcc5 := (HFR.out.call.below hB05).cell
        have hk5 := HTX.out w5 hB05 3 [48] rfl
        have HPA5 := Lib.hid (HPA.out w5 hB05)
        have HB05 := Lib.hid hB05
        clear hrow5 hst5 hF5 hB05 HSRC HST HB4 hcc3 hk3)
      refine HPA5.out.mono ?_; rintro e w6 ⟨rfl, hB6⟩
      have D := Lib.hid (show OptRel (w.alloc (.cells zRepC 29)) (.int .i64 1) (.int .i64 0) (.int .i64 0) (.slice a5 (0 + 1) c5) (.int .i64 4) w6 from
        ⟨HB05.out.trans (hB6.mono HB05.out.size), rfl, rfl, .inr ⟨rfl, rfl, a5, c5, rfl, (HF5.out.vw.below hB6).imp (fun b hb => Nat.le_trans HB.out.size hb)⟩⟩)
      clear hB6 HPA5 HF5 HB05 hcc5 hk5
      go_wp2_with fail
      go_roundw
      case rel => exact D.out
      case measure => simp [intOf]
    · have hcc := (HFR.out.call.below hB).cell
      have hk := HTX.out wr hB 0 k rfl
      rw [Nat.add_zero] at hk
      have HLI2 := Lib.hid (HLI.out wr hB)
      have HB := Lib.hid hB
      have HVS := Lib.hid hvs
      clear hB hvs HLI HPA HLO
      go_wp2_with fail
      refine HLI2.out.mono ?_; rintro e w3 ⟨d, o3, rfl, hd, hs3⟩
      rw [HWR.out]
      have hB3 := HB.out.trans ((all_below hs3).mono HB.out.size)
      have hcc3 := (HFR.out.call.below hB3).cell
      have hx3 := HTX.out w3 hB3 1 x rfl
      have HFF := Lib.hid (dfind_ok hd HOKL.out x)
      have HVS3 := Lib.hid (HVS.out.below (all_below hs3))
      have HB3 := Lib.hid hB3
      unfold txt FfDid at HFF
      have hpl := placesN_le x V.list V.list.length
      have hlr := HOKL.out
      clear hd hs3 hB3 HLI2 HVS hcc hk
      generalize placesN x V.list V.list.length = L at *
      have hll : L.length ≤ 1099511627776 := by omega
      clear hpl hlr
      go_wp2_with fail
      refine HFF.out.mono ?_; rintro e w4 ⟨v4, n4, rfl, rfl, hF4⟩
      obtain ⟨a4, c4, rfl, _⟩ := id hF4.vw.slice
      have HHS := Lib.hid (show Calls Tryz.prog 84 #[.slice ax 1 cs, .string ⟨countB.toArray⟩] w4 (fun e w' => e = .returned (.bool true) ∧ w' = w4) from hasS_ok (ws := [countB]) (HVS3.out.below hF4.below) (by decide) countB)
      have HB4 := Lib.hid (HB3.out.trans (hF4.below.mono HB3.out.size))
      have HV4 := Lib.hid hF4.vw
      clear hF4 HFF HVS3 hcc3 hx3 HB3
      go_wp2_with fail
      refine HHS.out.mono ?_; rintro e w5 ⟨rfl, hw⟩
      subst hw
      clear HHS
      have hat : NumsRel w5 L (.int .i64 0) (w5.alloc (.cells #[.int .i64 6, .string ⟨#[]⟩, .int .i64 0, .slice none 0 0] 29)) :=
        ⟨0, _, _, Nat.zero_le _, rfl, Blk.new none0 w5 [9, 1] #[.int .i64 6, .string ⟨#[]⟩, .int .i64 0, .slice none 0 0] 29 w5.heap.size rfl, Row.nil _ _ _ _ _, (Stp.refl [9] none0 w5).alloc (r' := [9, 1]) (.cells #[.int .i64 6, .string ⟨#[]⟩, .int .i64 0, .slice none 0 0] 29) w5.heap.size rfl⟩
      go_wp2_with fail
      go_loopw [134] (fun i wr => NumsRel w5 L i wr) (fun i _ => L.length - (intOf i).toNat)
      case atStart => exact hat
      case round =>
        obtain ⟨j, v, o6, hj, rfl, hblk, hrow, hst⟩ := hrel
        clear hat
        by_cases hjl : j < L.length
        · obtain ⟨y, hy⟩ : ∃ y, L[j]? = some y := ⟨_, List.getElem?_eq_getElem hjl⟩
          obtain ⟨bv, ov, rfl, hcv, hgv⟩ := vw_int (HV4.out.below hst.below0) (by omega)
          have hcell : wr.cell? ⟨bv, ov + j, none⟩ = some (.int .i64 (y : Int)) := hgv j y hy
          obtain ⟨av, cav, rfl, _⟩ := id hrow.slice
          have hld := hblk.cell 3
          have hjI : (0 : Int) ≤ j ∧ (j : Int) < L.length := by omega
          have HX := Lib.hid (show (L.take (j + 1)).map (fun i : Nat => numF (i : Int)) = (L.take j).map (fun i : Nat => numF (i : Int)) ++ [numF (y : Int)] by rw [List.take_add_one, hy]; simp)
          have HBLK := Lib.hid hblk
          have HROW := Lib.hid hrow
          have HST := Lib.hid hst
          have HEN := Lib.hid (show ∀ us w, (callFunc 63 us).run Tryz.prog w = .ok (.enter 63 us) w from enters_of Tryz.func63 (by kernel_rfl) rfl)
          have HBU := Lib.hid (lnumber_ok (World.drew wr) (y : Int))
          obtain ⟨i0, hi0, hz0, hz1, hz2⟩ := info_parts infoRp
          clear hblk hrow hst hgv hy
          simp only [List.getElem?_toArray, List.getElem?_cons_succ, List.getElem?_cons_zero] at hld
          go_wp2_with fail
          go_region_law (first
            | (refine step_call (f := 63) rfl _ _ rfl (by rfl) HEN.out HBU.out ?_
               rintro e w6 ⟨rfl, hB6⟩
               refine ⟨_, rfl, ?_⟩
               have hB6' : Below wr.heap.size wr w6 := (Below.refl _ wr).drew.trans hB6
               have hld6 : w6.cell? ⟨w5.heap.size, 3, none⟩ = some (.slice av j cav) := (HBLK.out.below hB6').cell 3
               have hB7 := hB6'.alloc hB6'.size (.cells #[.int .i64 3, .string ⟨#[]⟩, .int .i64 (y : Int), .slice none 0 0] 29)
               have hld7 : (w6.alloc (.cells #[.int .i64 3, .string ⟨#[]⟩, .int .i64 (y : Int), .slice none 0 0] 29)).cell? ⟨w5.heap.size, 3, none⟩ = some (.slice av j cav) := (HBLK.out.below hB7).cell 3
               have HR7 := Lib.hid (HROW.out.below hB7)
               have HB7 := Lib.hid hB7
               have HSRC := Lib.hid ((vw_newK w6 #[.int .i64 3, .string ⟨#[]⟩, .int .i64 (y : Int), .slice none 0 0] 29 4 rfl).src (P := Tryz.prog) Tryz.underlying27 (by intro u hu; simp at hu; rcases hu with rfl | rfl | rfl | rfl <;> rfl))
               clear hB6 hB6' hB7)
            | (refine step_app _ rfl _ _ 27 27 rfl 29 i0 _ 4 56 Tryz.underlying27 hi0 hz0 hz1 hz2 rfl rfl HR7.out rfl HSRC.out (by unfold maxLen; omega) (by omega) ?_
               intro v' w8 o8 hrow8 hst8
               obtain ⟨av8, cv8, rfl, _⟩ := id hrow8.slice
               have hbk8 := (HBLK.out.below HB7.out).keep hst8 (by decide)
               have hld8 : w8.cell? ⟨w5.heap.size, 3, none⟩ = some (.slice av j cav) := hbk8.cell 3
               have hfr8 := hbk8.free
               have hs8 := HST.out.trans ((Stp.ofBelow [9] o6 HB7.out).trans (hst8.wide (by decide)))
               have D := Lib.hid (show NumsRel w5 L (.int .i64 ((j + 1 : Nat) : Int)) (w8.setCell ⟨w5.heap.size, 3, none⟩ (.slice av8 (j + 1) cv8)) from
                 ⟨j + 1, _, o8, hjl, rfl, hbk8.setCell 3 _, by rw [HX.out, rfsC_app]; exact hrow8.setCell _ _ (by show o8 w5.heap.size ≠ _; rw [hbk8.role]; decide), hs8.setCell (by show [9] <+: o8 w5.heap.size; rw [hbk8.role]; decide) _⟩)
               clear hrow8 hst8 hbk8 hs8))
          all_goals (
            clear HBLK HROW HST HEN HBU HX HR7 HB7 HSRC
            go_wp2_with fail
            go_roundw
            case rel => exact D.out
            case measure => simp [intOf]; omega)
        · obtain rfl : j = L.length := by omega
          obtain ⟨av, cav, rfl, _⟩ := id hrow.slice
          have hb := hblk.cell
          have hB6 := HB4.out.trans (hst.below0.mono HB4.out.size)
          have hr6 := HFR.out.res.below hB6
          have hrc := hr6.cell
          have hrf := hr6.free
          rw [List.take_length] at hrow
          have HV6 := Lib.hid (Row.fresh2 hrow (by decide) hst).vw
          have HSZ := Lib.hid (show w.heap.size < w5.heap.size from by have := HB4.out.size; rw [World.size_alloc] at this; omega)
          have HB6 := Lib.hid (HB1.out.trans (hB6.mono HB1.out.size))
          clear hblk hrow hst hB6 hr6 HV4 HB4 HB HFR
          go_wp2_with fail
          refine bodyPost_ret (v := repV 6 [] 0 (.slice av L.length cav)) (by simp [results, Tryz.results41, go_sem, hrc]) rfl ⟨_, rfl, ?_, below_four HB6.out⟩
          have hv7 := vw_four (v0 := .int .i64 6) (v1 := .string ⟨#[]⟩) (v2 := .int .i64 0) (v3 := .slice av L.length cav) HV6.out HSZ.out
          simpa [numsR] using hv7
theorem tells_pos (hq : q ≠ []) (hT : Tbl w) {k x : List UInt8} {l : List (List UInt8)} (hk : KeyIs S k l) (hL : l.length ≤ 1099511627776) : Tells 41 w q p S c lposB [k, x, countB, [48]] (numsR (placesN x l l.length)) := by
  intro o1 w1 cb m sv hj hm0 hB1 hcb hv
  obtain ⟨e1, e2, _⟩ := hk.at hj 0
  have := lcpos_all hj hq (hT.below hB1) hcb (k := k) (x := x) (by simpa using hv) rfl rfl e2 (by rw [e1]; exact hL)
  rw [e1] at this
  exact this
theorem tells_index (hq : q ≠ []) (hT : Tbl w) {k x : List UInt8} {l : List (List UInt8)} (hk : KeyIs S k l) {a : Int} (hx : parseN x = some a) (hxl : x.length ≤ 1099511627776) (ha : -9223372036854775808 ≤ a ∧ a ≤ 9223372036854775807)
    (hL : l.length ≤ 1099511627776) {y : List UInt8} (hy : atL l a = some y) : Tells 39 w q p S c lindexB [k, x] ⟨4, y, 0, []⟩ := by
  intro o1 w1 cb m sv hj hm0 hB1 hcb hv
  obtain ⟨e1, e2, _⟩ := hk.at hj 0
  exact lcread_index hj hq (hT.below hB1) hcb (k := k) (x := x) (by simpa using hv) rfl rfl e2 hx hxl ha (by rw [e1]; exact hL) (y := y) (by rw [e1]; exact hy)
theorem tells_range (hq : q ≠ []) (hT : Tbl w) {k x y : List UInt8} {l : List (List UInt8)} (hk : KeyIs S k l) {a b : Int} (hx : parseN x = some a) (hy : parseN y = some b) (hxl : x.length ≤ 1099511627776) (hyl : y.length ≤ 1099511627776)
    (ha : -9223372036854775808 ≤ a ∧ a ≤ 9223372036854775807) (hb : -9223372036854775808 ≤ b ∧ b ≤ 9223372036854775807) (hL : l.length ≤ 1099511627776) : Tells 39 w q p S c lrangeB [k, x, y] (bulksR (pieceL l a b)) := by
  intro o1 w1 cb m sv hj hm0 hB1 hcb hv
  obtain ⟨e1, e2, _⟩ := hk.at hj 0
  have := lcread_range hj hq (hT.below hB1) hcb (k := k) (x := x) (y := y) (by simpa using hv) rfl rfl e2 hx hy hxl hyl ha hb (by rw [e1]; exact hL)
  rw [e1] at this
  exact this
end
end Go.Proofs.YtgmmeeikjofefaaGreatDoor
namespace Go.Proofs.YtgmmeeikjofefaaGreatDoor
open Go Go.RowKit
/-! lrem. -/
theorem rest_mem {v y : List UInt8} {l : List (List UInt8)} (h : y ∈ restL v l) : y ∈ l := (List.mem_filter.1 h).1
theorem rest_none {v : List UInt8} {l : List (List UInt8)} (h : (placesN v l l.length).length = 0) : restL v l = l := by
  have := places_rest v l l.length (Nat.le_refl _)
  rw [List.take_length, h, Nat.zero_add] at this
  exact (List.filter_sublist (l := l)).eq_of_length this
section
variable {o : Roles} {w : World} {q : List Nat} {p : Nat} {c : Cnt} {S : SP}
set_option maxRecDepth 10000 in
set_option maxHeartbeats 20000000 in
theorem lcwrite_lrem (h : SpJ o w q p S c) (hq : q ≠ []) (hT : Tbl w) {cb : Nat} {ρ : List Nat} (hρ : ¬ q <+: ρ) {now : Int} {sv : Value} (hcb : Blk o w ρ cb (callC p now lremB sv) 79)
    {k x : List UInt8} (hv : Vw (Old w) w sv 1 3 ([k, [48], x].map txt)) {H : Hd} (hS : S.at now k = some H) (hk : H.v.kind = 2) (hs : ∀ y ∈ H.v.list, y.length ≤ 1048576) (hB : H.v.list.length ≤ 274877906944) (hc : c.num ≤ 1099511627775)
    {g : Nat} (hg : g = (placesN x H.v.list H.v.list.length).length) {S' : SP} {c' : Cnt} (hcase : (g = 0 ∧ S' = S ∧ c' = c) ∨ (0 < g ∧ S' = S.setL now k (restL x H.v.list) (c.num + 1) ∧ c' = c.next)) :
    Calls Tryz.prog 40 #[.pointer (some ⟨cb, 0, none⟩)] w (RepJ o w q p S' c' (numF g)) := by
  obtain ⟨o1, m, hbg, hj⟩ := begin_roles h hq
  have hfr := Fr.begin hbg hj hcb
  obtain ⟨a0, cap, rfl, hcap, _, _⟩ := id hv.slice
  obtain ⟨bb, off, rfl, hbl, hcap, hgt⟩ := vw_get hv (by omega)
  have hbl : bb < w.heap.size := hbl
  have hcl := hcb.lt
  have hcc := hcb.cell
  have HTX := Lib.hid (fun (W : World) (hW : Below (w.alloc (.cells zRepC 29)).heap.size (w.alloc (.cells zRepC 29)) W) (j : Nat) (y : List UInt8) (hy : [k, [48], x][j]? = some y) => show W.cell? ⟨bb, off + j, none⟩ = some (.string ⟨y.toArray⟩) from by rw [(bcell (hbg.res.2.trans (hW.mono (by simp)))).1 _ _ hbl]; exact hgt j y hy)
  have hk1 := hgt 1 [48] rfl
  have hpa := parse_ok (hT.below hbg.res.2) [48] (by decide)
  rw [parse_0] at hpa
  have HPA := Lib.hid (show Calls Tryz.prog 68 #[.string ⟨([48] : List UInt8).toArray⟩] (w.alloc (.cells zRepC 29)) (fun e w' => e = .returned (.tuple #[.int .i64 0, .int .i64 0]) ∧ Below (w.alloc (.cells zRepC 29)).heap.size (w.alloc (.cells zRepC 29)) w') from hpa)
  have hli := fun (W : World) (hW : Below (w.alloc (.cells zRepC 29)).heap.size (w.alloc (.cells zRepC 29)) W) => clist_ok (hfr.below hW).sp (hfr.below hW).call k [m]
  rw [hS] at hli
  simp only [Option.getD_some, Option.isSome_some] at hli
  have hk0 : (true && H.v.kind != 2) = false := by rw [hk]; rfl
  have HLI := Lib.hid hli
  have HFR := Lib.hid hfr
  have HBG := Lib.hid hbg
  have HK0 := Lib.hid hk0
  have HKS := Lib.hid (SP.at_some hS).1
  have HSM := Lib.hid (fun y (hy : y ∈ restL x H.v.list) => hs y (rest_mem hy))
  have HB0 := Lib.hid hB
  have HG := Lib.hid hg
  have HCA := Lib.hid hcase
  clear h hcb hbg hj hv hS hk hfr hli hk0 hs hT hpa hgt hB hg hcase
  unfold txt at HLI
  go_enter Tryz.func40, Tryz.ntmps40
  go_wp2_with fail
  refine HPA.out.mono ?_; rintro e w2 ⟨rfl, hB2⟩
  have hcc2 := (HFR.out.call.below hB2).cell
  have hk2 := HTX.out w2 hB2 0 k rfl
  rw [Nat.add_zero] at hk2
  have HLI2 := Lib.hid (HLI.out w2 hB2)
  have HB2 := Lib.hid hB2
  clear hB2 HLI HPA hcc hk1
  go_wp2_with fail
  refine HLI2.out.mono ?_; rintro e w3 ⟨d, o3, rfl, hd, hs3⟩
  rw [HK0.out]
  have hB3 := HB2.out.trans ((all_below hs3).mono HB2.out.size)
  have hf3 := (HFR.out.below HB2.out).step HBG.out (j := 0) (by decide) (hs3 [m])
  have HRM := Lib.hid (dremove_ok hd (by have := HB0.out; omega) x)
  have hx3 := HTX.out w3 hB3 2 x rfl
  have hcc3 := hf3.call.cell
  have HF3 := Lib.hid hf3
  unfold RmDid at HRM
  rw [← HG.out] at HRM
  have hpl := placesN_le x H.v.list H.v.list.length
  rw [← HG.out] at hpl
  have hgl : g ≤ 274877906944 := Nat.le_trans hpl HB0.out
  unfold txt at HRM
  clear hd hs3 hB3 hf3 hcc2 hk2 HLI2 HB2 HTX hpl
  go_wp2_with fail
  refine HRM.out.mono ?_; rintro e w4 ⟨rfl, o4, hd4, hs4⟩
  have hf4 := HF3.out.step HBG.out (j := 0) (by decide) hs4
  have hcc4 := hf4.call.cell
  rcases HCA.out with ⟨rfl, rfl, rfl⟩ | ⟨hg0, rfl, rfl⟩
  · have HF4 := Lib.hid hf4
    clear hd4 hs4 hf4 HF3 HRM hcc3 hx3
    go_wp2_with fail
    refine (lnumber_ok _ _).mono ?_; rintro e w7 ⟨rfl, hB7⟩
    have hf7 := HF4.out.below hB7
    have HF7 := Lib.hid hf7
    have hrc := hf7.res.cell
    have hrf := hf7.res.free
    clear hB7 hf7 HF4 hcc4
    go_wp2_with fail
    obtain ⟨hj8, hs8⟩ := HF7.out.fin HBG.out (.int .i64 3) (.string ⟨#[]⟩) (.int .i64 0) (.slice none 0 0)
    exact bodyPost_ret (v := repV 3 [] 0 (.slice none 0 0)) (by simp [results, Tryz.results40, go_sem, hrc]) rfl ⟨rfl, o4, hj8, hs8⟩
  · have HP := Lib.hid (lcput_any hf4.sp hf4.call k hd4 (fun _ => by rw [HKS.out]; rfl) HSM.out (by have := HB0.out; omega) (by omega))
    have HF4 := Lib.hid hf4
    unfold txt at HP
    clear hd4 hs4 hf4 HF3 HRM hcc3 hx3
    go_wp2_with fail
    refine HP.out.mono ?_; rintro e w5 ⟨rfl, o5, hj5, hs5⟩
    have hf5 := HF4.out.put HBG.out hρ hj5 hs5
    have hcc5 := hf5.call.cell
    have HF5 := Lib.hid hf5
    clear hj5 hs5 hf5 HF4 HP hcc4
    go_wp2_with fail
    refine (lnumber_ok _ _).mono ?_; rintro e w7 ⟨rfl, hB7⟩
    have hf7 := HF5.out.below hB7
    have HF7 := Lib.hid hf7
    have hrc := hf7.res.cell
    have hrf := hf7.res.free
    clear hB7 hf7 HF5 hcc5
    go_wp2_with fail
    obtain ⟨hj8, hs8⟩ := HF7.out.fin HBG.out (.int .i64 3) (.string ⟨#[]⟩) (.int .i64 (g : Int)) (.slice none 0 0)
    exact bodyPost_ret (v := repV 3 [] (g : Int) (.slice none 0 0)) (by simp [results, Tryz.results40, go_sem, hrc]) rfl ⟨rfl, o5, hj8, hs8⟩
theorem serves_lrem (hq : q ≠ []) (hT : Tbl w) {k x : List UInt8} {l : List (List UInt8)} (hk : KeyIs S k l) (hl : l ≠ []) (hs : ∀ y ∈ l, y.length ≤ 1048576) (hL : l.length ≤ 274877906944) (hc : c.num ≤ 1099511627770) {K : SP → Prop}
    (hK0 : restL x l = l → K S) (hK : ∀ n, KeyIs (S.setL 0 k (restL x l) n) k (restL x l) → K (S.setL 0 k (restL x l) n)) : Serves 40 w q p S c lremB [k, [48], x] (numR (placesN x l l.length).length) K := by
  intro o1 w1 cb m sv hj hm0 hB1 hcb hv
  obtain ⟨e1, e2, e3, e4, e5⟩ := hk.at hj 0
  obtain ⟨H, h1, h2, h3⟩ := e4 hl
  by_cases hg : (placesN x l l.length).length = 0
  · have := lcwrite_lrem hj hq (hT.below hB1) hm0 hcb (k := k) (x := x) (by simpa using hv) h1 h2 (by rw [h3]; exact hs) (by rw [h3]; exact hL) (by omega) rfl (.inl ⟨by rw [h3]; exact hg, rfl, rfl⟩)
    rw [h3] at this
    exact this.mono fun e w' h => RepJ.repL h (hK0 (rest_none hg)) (by omega)
  · have := lcwrite_lrem hj hq (hT.below hB1) hm0 hcb (k := k) (x := x) (by simpa using hv) h1 h2 (by rw [h3]; exact hs) (by rw [h3]; exact hL) (by omega) rfl (.inr ⟨by rw [h3]; omega, rfl, rfl⟩)
    rw [h3] at this
    exact this.mono fun e w' h => RepJ.repL h (hK _ (hk.setL hj 0 _ _)) (by show c.num + 1 ≤ _; omega)
theorem fits_lpos : Fits lposB 5 := ⟨⟨lposB, -3, false, false, 1, 1, 1⟩, by decide +kernel, .inr ⟨by decide, by decide⟩, by decide⟩
theorem fits_lrem : Fits lremB 4 := ⟨⟨lremB, 4, true, false, 1, 1, 1⟩, by decide +kernel, .inl ⟨by decide, by decide⟩, by decide⟩
end
end Go.Proofs.YtgmmeeikjofefaaGreatDoor
