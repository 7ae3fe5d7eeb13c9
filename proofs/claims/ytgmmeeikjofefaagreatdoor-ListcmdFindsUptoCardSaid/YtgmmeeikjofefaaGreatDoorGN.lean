import Derived.Test.YtgmmeeikjofefaaGreatDoorGK
import Derived.Test.YtgmmeeikjofefaaGreatDoorGL
import Derived.Test.YtgmmeeikjofefaaGreatDoorGM
namespace Go.Proofs.YtgmmeeikjofefaaGreatDoor
open Go Go.RowKit
/-! One element off an end of a deque: no role turns. -/
section
variable {o : Roles} {w : World} {r : List Nat} {d B : Nat}
set_option maxRecDepth 10000 in
set_option maxHeartbeats 1000000 in
theorem dpopFront_o {x : List UInt8} {t : List (List UInt8)} (h : DeqI o w r d B (x :: t)) (hB : B ≤ 1099511627776) :
    Calls Tryz.prog 70 #[.pointer (some ⟨d, 0, none⟩), .int .i64 1] w fun e w' => ∃ v', e = .returned v' ∧ DeqI o w' r d B t ∧ Vw (fun b => w.heap.size ≤ b) w' v' 1 1 [txt x] ∧ Stp r o w o w' := by
  have HLN := Lib.hid (dlen_ok h)
  have HAL := Lib.hid (fun k => dall_ok (h.below (below_drewN (Below.refl _ w) k)))
  obtain ⟨sv, junk, h⟩ := h
  have hf := h.few
  rw [List.length_cons] at hf
  have hk : junk.length < junk.length + (x :: t).length := by simp
  obtain ⟨g, cap, hsv, hcap, hog, hfz, hce, hrow⟩ := h.row.set1 hk (.string ⟨#[]⟩)
  subst hsv
  have em : min (1 : Int) ((x :: t).length : Int) = 1 := by simp; omega
  have em2 : max (0 : Int) 1 = 1 := rfl
  have em3 : ((max (0 : Int) 1) == 0) = false := rfl
  have HH := Lib.hid h
  have hl1 : 1 ≤ (x :: t).length := by simp
  clear h hrow hce hfz hk
  generalize hN : (x :: t).length = n at *
  go_enter Tryz.func70, Tryz.ntmps70
  go_wp2_with fail
  refine HLN.out.mono ?_; rintro e w1 ⟨rfl, k, rfl⟩
  go_wp2_with fail
  refine (HAL.out k).mono ?_; rintro e w2 ⟨a2, c2, k2, rfl, rfl, hv⟩
  rw [hN]
  have hcap2 : (1 : Int) ≤ (c2 : Int) := by
    obtain ⟨a0, c0, e0, h0, _⟩ := hv.slice
    injection e0 with _ _ e2
    omega
  have hv3 := vw_head hv 1 (by rw [hN]; exact hl1)
  have hv4 : Vw (fun b => o b = r ++ [0]) (w.drewN (k + k2)) (.slice a2 1 c2) 1 1 ([x].map txt) := hv3.stay (Nat.le_refl _) (fun _ _ _ => rfl)
  have HC := Lib.hid (cloneS_ok hv4 (one_list [x]) (by decide))
  clear hv hv3 hv4 HLN HAL
  go_wp2_with fail
  refine HC.out.mono ?_; rintro e w3 ⟨v', rfl, hF⟩
  have hB3 : Below w.heap.size w w3 := (below_drewN (Below.refl _ w) (k + k2)).trans hF.below
  have hv' : Vw (fun b => w.heap.size ≤ b) w3 v' 1 1 [txt x] := hF.vw
  obtain ⟨a6, c6, rfl, _⟩ := id hv'.slice
  have h3 := HH.out.below hB3
  have h3D : Deq o (World.drew w3) r d B _ junk (x :: t) := h3.below (Below.refl _ w3).drew
  have hk : junk.length < junk.length + (x :: t).length := by simp
  obtain ⟨g2, cap2, hsv2, _, _, hfz, hce, hrow⟩ := h3D.row.set1 hk (.string ⟨#[]⟩)
  rw [hN] at hsv2
  injection hsv2 with e1 e2 e3
  injection e1 with e1
  injection e1 with e1 _ _
  subst e1 e3
  have hcell : ((World.drew w3).cell? ⟨g, junk.length, none⟩).isSome = true := by rw [hce]; simp
  have hcutc := cut1 g (junk.length + n) cap junk.length (by omega) hcap _ _ rfl rfl
  have hb3 := h3.blk.cell
  have hne : d ≠ g := fun e => by
    have h1 := h3.blk.role
    rw [e, hog] at h1
    simp at h1
  have hblk5 : Blk o ((World.drew w3).setCell ⟨g, junk.length, none⟩ (.string ⟨#[]⟩)) r d _ _ := h3D.blk.setOther ⟨g, junk.length, none⟩ (.string ⟨#[]⟩) hne
  have HB5 := Lib.hid hblk5
  have HROW := Lib.hid hrow
  have HV := Lib.hid hv'
  have HB3 := Lib.hid hB3
  have hg3 : g < w.heap.size := HH.out.row.lt g rfl
  clear hF h3 h3D hk hce hrow hblk5 hv' hB3 HC e2 em em2 em3
  have ew : IntKind.i64.wrap ((junk.length : Int) + 1) = (junk.length : Int) + 1 := by rw [IntKind.wrap_i64]; omega
  go_wp2_with fail
  go_still_tail 15, (by kernel_rfl)
  change wpList _ _ _ _ _ (World.drew w3)
  refine wpList_clear1 rfl _ rfl rfl hcell hfz ?_
  have hb5 := HB5.out.cell
  have hf5 := HB5.out.free
  generalize hW5 : (World.drew w3).setCell ⟨g, junk.length, none⟩ (.string ⟨#[]⟩) = w5 at *
  clear hb3 hcell hfz
  go_wp2_with fail
  go_ret
  refine ⟨_, rfl, ?_, ?_, ?_⟩
  · refine ⟨.slice (some ⟨g, 0, none⟩) (junk.length + n) cap, junk ++ [[]], ?_, ?_, by simp; omega⟩
    · have := HB5.out.setCell 1 (.int .i64 ((junk.length : Int) + 1))
      simpa using this
    · have hr := HROW.out.setCell ⟨d, 1, none⟩ (.int .i64 ((junk.length : Int) + 1)) (by show o d ≠ r ++ [0]; rw [HB5.out.role]; exact np2.symm)
      rw [hN] at hr
      have e1 : (junk.map txt ++ (x :: t).map txt).set junk.length (.string ⟨#[]⟩) = (junk ++ [[]]).map txt ++ t.map txt := by
        have := set_append_mid (junk.map txt) (t.map txt) (txt x) (.string ⟨#[]⟩)
        simp only [List.length_map] at this
        rw [List.map_cons, this]
        simp [txt]
      have e2 : junk.length + n = (junk ++ [[]]).length + t.length := by rw [← hN]; simp; omega
      rw [e1, e2] at hr
      rw [e2]
      exact hr
  · refine HV.out.stay (by rw [← hW5]; simp) (fun b hb _ => ?_)
    have hd : d < w.heap.size := HH.out.blk.lt
    rw [← hW5, heap_set_far (by show b ≠ d; omega), heap_set_far (by show b ≠ g; omega)]
    rfl
  · rw [← hW5]
    refine Stp.setCell (Stp.setCell ((Stp.ofBelow r o HB3.out).drew) (by show r <+: o g; rw [hog]; exact List.prefix_append _ _) _) (by show r <+: o d; rw [HB5.out.role]; exact List.prefix_refl _) _
set_option maxRecDepth 10000 in
set_option maxHeartbeats 1000000 in
theorem dpopBack_o {x : List UInt8} {t : List (List UInt8)} (h : DeqI o w r d B (t ++ [x])) (hB : B ≤ 1099511627776) :
    Calls Tryz.prog 71 #[.pointer (some ⟨d, 0, none⟩), .int .i64 1] w fun e w' => ∃ v', e = .returned v' ∧ DeqI o w' r d B t ∧ Vw (fun b => w.heap.size ≤ b) w' v' 1 1 [txt x] ∧ Stp r o w o w' := by
  have HLN := Lib.hid (dlen_ok h)
  obtain ⟨sv, junk, h⟩ := h
  have hf := h.few
  rw [List.length_append, List.length_singleton] at hf
  have hk : junk.length + t.length < junk.length + (t ++ [x]).length := by simp
  obtain ⟨g, cap, hsv, hcap, hog, _, _, _⟩ := h.row.set1 hk (.string ⟨#[]⟩)
  subst hsv
  have em : min (1 : Int) ((t ++ [x]).length : Int) = 1 := by simp; omega
  have em2 : max (0 : Int) 1 = 1 := rfl
  have em3 : ((max (0 : Int) 1) == 0) = false := rfl
  have HH := Lib.hid h
  have hNN : junk.length + (t ++ [x]).length = junk.length + t.length + 1 := by simp; omega
  have hb := h.blk.cell
  clear h hk
  rw [hNN] at hcap HH hb
  have hjt : junk.length + t.length + 1 ≤ B := by omega
  obtain ⟨N, hN⟩ : ∃ N, N = junk.length + t.length + 1 := ⟨_, rfl⟩
  rw [← hN] at hcap HH hb hjt
  have hc1 := cutT g N cap (by omega) hcap _ rfl
  have hc2 := cutH g N cap (by omega) hcap _ rfl
  have hgl : g < w.heap.size := HH.out.row.lt g rfl
  have hcellx : w.cell? ⟨g, N - 1, none⟩ = some (txt x) := by
    have hk2 : N - 1 < junk.length + (t ++ [x]).length := by rw [hNN]; omega
    have hr := HH.out.row
    rw [hNN, ← hN] at hr
    obtain ⟨g2, c2, e, _, _, _, hce, _⟩ := hr.set1 (k := N - 1) (by omega) (.string ⟨#[]⟩)
    injection e with e1 _ _
    injection e1 with e1
    injection e1 with e1 _ _
    subst e1
    rw [hce, hN]
    rw [List.map_append, ← List.append_assoc, List.getElem?_append_right (by simp)]
    simp
  have hcapm : cap ≤ maxLen := by
    obtain ⟨a0, c0, e0, _, h0, _⟩ := HH.out.row.slice
    injection e0 with _ _ e2
    omega
  have HN := Lib.hid hN
  have HNN := Lib.hid (show junk.length + (t ++ [x]).length = N from hNN.trans hN.symm)
  clear hN hNN hf
  generalize (t ++ [x]).length = n at *
  have hN1 : 1 ≤ N := by have := HN.out; omega
  go_enter Tryz.func71, Tryz.ntmps71
  go_wp2_with fail
  refine HLN.out.mono ?_; rintro e w1 ⟨rfl, k, rfl⟩
  have hvk : Vw (fun b => o b = r ++ [0]) (w.drewN k) (.slice (some ⟨g, N - 1, none⟩) 1 (cap - (N - 1))) 1 1 ([x].map txt) := by
    refine ⟨⟨_, _, rfl, by omega, ?_, .inr ⟨g, N - 1, rfl, hgl, hog, fun j u hj => ?_⟩⟩, rfl⟩
    · omega
    · have e : j = 0 := by have := (List.getElem?_eq_some_iff.1 hj).1; simp at this; exact this
      subst e
      cases hj
      exact hcellx
  have HC := Lib.hid (cloneS_ok hvk (one_list [x]) (by decide))
  have HCX := Lib.hid hcellx
  clear hvk HLN hcellx
  go_wp2_with fail
  refine HC.out.mono ?_; rintro e w3 ⟨v', rfl, hF⟩
  have hB3 : Below w.heap.size w w3 := (below_drewN (Below.refl _ w) k).trans hF.below
  have hv' : Vw (fun b => w.heap.size ≤ b) w3 v' 1 1 [txt x] := hF.vw
  obtain ⟨a6, c6, rfl, _⟩ := id hv'.slice
  have h3 := HH.out.below hB3
  have hb3 := h3.blk.cell
  have HV := Lib.hid hv'
  have HB3 := Lib.hid hB3
  clear hF hv' hB3 HC hb
  go_wp2_with fail
  refine (rev1_ok HV.out).mono ?_; rintro e w4 ⟨rfl, rfl⟩
  have hr4 : Row o w4 (r ++ [0]) 9 1 (.slice (some ⟨g, 0, none⟩) N cap) N (junk.map txt ++ (t ++ [x]).map txt) := by
    have := h3.row
    rw [show junk.length + (t ++ [x]).length = N by have := HN.out; simp; omega] at this
    exact this
  obtain ⟨g2, cap2, hsv2, _, _, hfz, hce, hrow⟩ := hr4.set1 (k := N - 1) (by omega) (.string ⟨#[]⟩)
  injection hsv2 with e1 _ e3
  injection e1 with e1
  injection e1 with e1 _ _
  subst e1 e3
  have hcell : (w4.cell? ⟨g, N - 1, none⟩).isSome = true := by
    rw [hce, List.getElem?_eq_getElem (by have := HN.out; simp; omega)]; rfl
  have hne : d ≠ g := fun e => by
    have h1 := h3.blk.role
    rw [e, hog] at h1
    simp at h1
  have hblk5 : Blk o (w4.setCell ⟨g, N - 1, none⟩ (.string ⟨#[]⟩)) r d _ _ := h3.blk.setOther ⟨g, N - 1, none⟩ (.string ⟨#[]⟩) hne
  have HB5 := Lib.hid hblk5
  have HROW := Lib.hid (hrow.cut (m := N - 1) (by omega))
  clear h3 hr4 hce hrow hblk5 em em2 em3
  go_wp2_with (
    refine wpList_clear1 rfl _ rfl rfl hcell hfz ?_
    have hb5 := HB5.out.cell
    have hf5 := HB5.out.free
    generalize hW5 : w4.setCell ⟨g, N - 1, none⟩ (.string ⟨#[]⟩) = w5 at *
    clear hb3 hcell hfz)
  go_ret
  refine ⟨_, rfl, ?_, ?_, ?_⟩
  · have e1 : ((junk.map txt ++ (t ++ [x]).map txt).set (N - 1) (.string ⟨#[]⟩)).take (N - 1) = junk.map txt ++ t.map txt := by
      rw [List.take_set, List.set_eq_of_length_le (by simp; omega), List.map_append, ← List.append_assoc, List.take_append_of_le_length (by have := HN.out; simp; omega), List.take_of_length_le (by have := HN.out; simp; omega)]
    have e2 : N - 1 = junk.length + t.length := by have := HN.out; omega
    refine ⟨.slice (some ⟨g, 0, none⟩) (N - 1) cap, junk, ?_, ?_, by have := HN.out; omega⟩
    · have := HB5.out.setCell 0 (.slice (some ⟨g, 0, none⟩) (N - 1) cap)
      simpa using this
    · have hr := HROW.out.setCell ⟨d, 0, none⟩ (.slice (some ⟨g, 0, none⟩) (N - 1) cap) (by show o d ≠ r ++ [0]; rw [HB5.out.role]; exact np2.symm)
      rw [e1] at hr
      rw [← e2]
      exact hr
  · refine HV.out.stay (by rw [← hW5]; simp) (fun b hb _ => ?_)
    have hd : d < w.heap.size := HH.out.blk.lt
    rw [← hW5, heap_set_far (by show b ≠ d; omega), heap_set_far (by show b ≠ g; omega)]
  · rw [← hW5]
    refine Stp.setCell (Stp.setCell (Stp.ofBelow r o HB3.out) (by show r <+: o g; rw [hog]; exact List.prefix_append _ _) _) (by show r <+: o d; rw [HB5.out.role]; exact List.prefix_refl _) _
end
end Go.Proofs.YtgmmeeikjofefaaGreatDoor
namespace Go.Proofs.YtgmmeeikjofefaaGreatDoor
open Go Go.RowKit
/-! At; lindex; pop. -/
def posI (n : Nat) (i : Int) : Int := if i < 0 then i + n else i
def atL (l : List (List UInt8)) (i : Int) : Option (List UInt8) := if 0 ≤ posI l.length i then l[(posI l.length i).toNat]? else none
section
variable {o : Roles} {w : World} {r : List Nat} {d B : Nat} {l : List (List UInt8)}
def PlaceDid (w : World) (n : Nat) (i : Int) (e : Ending) (w' : World) : Prop :=
  ∃ b : Bool, e = .returned (.tuple #[.int .i64 (posI n i), .bool b]) ∧ (b = true ↔ 0 ≤ posI n i ∧ posI n i < n) ∧ ∃ k, w' = w.drewN k
set_option maxRecDepth 10000 in
theorem dplace_ok (h : DeqI o w r d B l) (hB : B ≤ 1099511627776) (i : Int) (hi : -9223372036854775808 ≤ i ∧ i ≤ 9223372036854775807) : Calls Tryz.prog 129 #[.pointer (some ⟨d, 0, none⟩), .int .i64 i] w (PlaceDid w l.length i) := by
  have H := Lib.hid (dlen_ok h)
  have hl : l.length ≤ 1099511627776 := by obtain ⟨_, _, h⟩ := h; have := h.few; omega
  clear h
  generalize l.length = n at *
  by_cases hi0 : i < 0
  · have ep : posI n i = i + n := if_pos hi0
    go_enter Tryz.func129, Tryz.ntmps129
    go_wp2_with fail
    refine H.out.mono ?_; rintro e w1 ⟨rfl, k, rfl⟩
    go_wp2_with fail
    all_goals (
      go_ret2
      first
      | exact ⟨decide (i + (n : Int) < (n : Int)), by rw [ep]; rfl, by rw [ep]; simp <;> omega, k, rfl⟩
      | exact ⟨false, by rw [ep]; rfl, by rw [ep]; simp <;> omega, k, rfl⟩)
  · have ep : posI n i = i := if_neg hi0
    go_enter Tryz.func129, Tryz.ntmps129
    go_wp2_with fail
    refine H.out.mono ?_; rintro e w1 ⟨rfl, k, rfl⟩
    go_wp2_with fail
    all_goals (
      go_ret2
      first
      | exact ⟨decide (i < (n : Int)), by rw [ep]; rfl, by rw [ep]; simp <;> omega, k, rfl⟩
      | exact ⟨false, by rw [ep]; rfl, by rw [ep]; simp <;> omega, k, rfl⟩)
set_option maxRecDepth 10000 in
theorem dat_some (h : DeqI o w r d B l) (hB : B ≤ 1099511627776) {i : Int} (hi : -9223372036854775808 ≤ i ∧ i ≤ 9223372036854775807) {x : List UInt8} (hx : atL l i = some x) :
    Calls Tryz.prog 78 #[.pointer (some ⟨d, 0, none⟩), .int .i64 i] w fun e w' => e = .returned (.tuple #[txt x, .bool true]) ∧ ∃ k, w' = w.drewN k := by
  have HP := Lib.hid (dplace_ok h hB i hi)
  have HA := Lib.hid (fun k => dall_ok (h.below (below_drewN (Below.refl _ w) k)))
  clear h
  unfold atL at hx
  split at hx
  · rename_i hp
    obtain ⟨j, hj⟩ : ∃ j : Nat, posI l.length i = (j : Int) := ⟨(posI l.length i).toNat, by omega⟩
    rw [hj] at hx
    simp only [Int.toNat_natCast] at hx
    have hjl : j < l.length := (List.getElem?_eq_some_iff.1 hx).1
    unfold PlaceDid at HP
    rw [hj] at HP
    unfold txt
    go_enter Tryz.func78, Tryz.ntmps78
    go_wp2_with fail
    refine HP.out.mono ?_; rintro e w1 ⟨b, rfl, hb, k, rfl⟩
    obtain rfl : b = true := hb.2 ⟨by omega, by omega⟩
    clear hb HP
    go_wp2_with fail
    refine (HA.out k).mono ?_; rintro e w2 ⟨a2, c2, k2, rfl, rfl, hv⟩
    obtain ⟨bb, off, rfl, _, hcap, hg⟩ := vw_get hv (by omega)
    have hc : (w.drewN (k + k2)).cell? ⟨bb, off + j, none⟩ = some (.string ⟨x.toArray⟩) := hg j x hx
    have hjI : (0 : Int) ≤ j ∧ (j : Int) < l.length := by omega
    clear hv hg hx HA
    go_wp2_with fail
    go_ret2
    exact ⟨rfl, k + k2, rfl⟩
  · cases hx
end
section
variable {o : Roles} {w : World} {q : List Nat} {p : Nat} {c : Cnt} {S : SP}
set_option maxRecDepth 10000 in
set_option maxHeartbeats 4000000 in
theorem lcread_index (h : SpJ o w q p S c) (hq : q ≠ []) (hT : Tbl w) {cb : Nat} {ρ : List Nat} {now : Int} {sv : Value} (hcb : Blk o w ρ cb (callC p now lindexB sv) 79)
    {k x : List UInt8} (hv : Vw (Old w) w sv 1 2 ([k, x].map txt)) {V : VV} (hV : V = ((S.at now k).getD hd0).v) {ok : Bool} (hok : ok = (S.at now k).isSome) (hwr : (ok && V.kind != 2) = false)
    {a : Int} (hx : parseN x = some a) (hxl : x.length ≤ 1099511627776) (ha : -9223372036854775808 ≤ a ∧ a ≤ 9223372036854775807) (hL : V.list.length ≤ 1099511627776) {y : List UInt8} (hy : atL V.list a = some y) :
    Calls Tryz.prog 39 #[.pointer (some ⟨cb, 0, none⟩)] w (RepB w (bulkR y)) := by
  obtain ⟨o1, m, hbg, hj⟩ := begin_roles h hq
  have hfr := Fr.begin hbg hj hcb
  obtain ⟨a0, cap, rfl, hcap, _, _⟩ := id hv.slice
  obtain ⟨bb, off, rfl, hbl, hcap, hg⟩ := vw_get hv (by omega)
  have hbl : bb < w.heap.size := hbl
  have hcl := hcb.lt
  have hcc := hcb.cell
  have hk := hg 0 k rfl
  have hkx := hg 1 x rfl
  rw [Nat.add_zero] at hk
  have HB1 := Lib.hid hbg.res.2
  have hpa := parse_ok (hT.below hbg.res.2) x hxl
  rw [hx] at hpa
  have HPA := Lib.hid hpa
  have HLI := Lib.hid (fun (W : World) (hW : Below (w.alloc (.cells zRepC 29)).heap.size (w.alloc (.cells zRepC 29)) W) => clist_ok (hfr.below hW).sp (hfr.below hW).call k [m])
  rw [← hV, ← hok] at HLI
  have HFR := Lib.hid hfr
  have HWR := Lib.hid hwr
  have HY := Lib.hid hy
  clear h hcb hbg hj hv hV hok hwr hfr hT hg hpa hx hxl hy
  unfold txt at HLI HPA
  unfold ParseDid at HPA
  simp only [Option.getD_some, Option.isSome_some, if_true] at HPA
  go_enter Tryz.func39, Tryz.ntmps39
  go_wp2_with fail
  refine HPA.out.mono ?_
  rintro e w2 ⟨rfl, hB2⟩
  have HB2 := Lib.hid hB2
  have hcc2 := (HFR.out.call.below hB2).cell
  have hB02 := HB1.out.trans (hB2.mono (by simp))
  have hk2 : w2.cell? ⟨bb, off, none⟩ = some (.string ⟨k.toArray⟩) := by rw [(bcell hB02).1 _ _ hbl]; exact hk
  have HLI2 := Lib.hid (HLI.out w2 hB2)
  clear hB2 hB02 hcc hk hkx HLI HPA
  go_wp2_with fail
  refine HLI2.out.mono ?_; rintro e w3 ⟨d, o3, rfl, hd, hs3⟩
  rw [HWR.out]
  have hB3 := HB2.out.trans ((all_below hs3).mono HB2.out.size)
  have HAT := Lib.hid (dat_some hd hL ha HY.out)
  have hcc3 := ((HFR.out.call).below hB3).cell
  have HB3 := Lib.hid hB3
  unfold txt at HAT
  clear hd hs3 hB3 hcc2 hk2 HWR HLI2 HB2
  go_wp2_with fail
  refine HAT.out.mono ?_; rintro e w4 ⟨rfl, k4, rfl⟩
  clear HAT
  go_wp2_with fail
  refine (lbulk_ok _ _).mono ?_; rintro e w5 ⟨rfl, hB5⟩
  have hB5' := HB3.out.trans (((below_drewN (Below.refl _ _) k4).trans hB5).mono HB3.out.size)
  have hr5 := HFR.out.res.below hB5'
  have hrc := hr5.cell
  have hrf := hr5.free
  have HB5 := Lib.hid (HB1.out.trans (hB5'.mono (by simp)))
  clear hB5 hB5' hr5 HFR HB3 hcc3
  go_wp2_with fail
  exact bodyPost_ret (v := repV 4 y 0 (.slice none 0 0)) (by simp [results, Tryz.results39, go_sem, hrc]) rfl ⟨_, rfl, Vw.nil _ _ _, below_four HB5.out⟩
end
end Go.Proofs.YtgmmeeikjofefaaGreatDoor
namespace Go.Proofs.YtgmmeeikjofefaaGreatDoor
open Go Go.RowKit
/-! pop. -/
def popN (left : Bool) : List UInt8 := if left then lpopB else rpopB
section
variable {o : Roles} {w : World} {q : List Nat} {p : Nat} {c : Cnt} {S : SP}
theorem dpop_o {r : List Nat} {d B : Nat} {left : Bool} {x : List UInt8} {t : List (List UInt8)} (h : DeqI o w r d B (endL left x t)) (hB : B ≤ 1099511627776) :
    Calls Tryz.prog (if left then 70 else 71) #[.pointer (some ⟨d, 0, none⟩), .int .i64 1] w fun e w' => ∃ v', e = .returned v' ∧ DeqI o w' r d B t ∧ Vw (fun b => w.heap.size ≤ b) w' v' 1 1 [txt x] ∧ Stp r o w o w' := by
  cases left with
  | true => exact dpopFront_o h hB
  | false => exact dpopBack_o h hB
set_option maxRecDepth 10000 in
set_option maxHeartbeats 4000000 in
theorem lcpop_one (h : SpJ o w q p S c) (hq : q ≠ []) {cb : Nat} {ρ : List Nat} (hρ : ¬ q <+: ρ) {now : Int} {left : Bool} {sv : Value} (hcb : Blk o w ρ cb (callC p now (popN left) sv) 79)
    {k : List UInt8} (hv : Vw (Old w) w sv 1 1 ([k].map txt)) {H : Hd} (hS : S.at now k = some H) (hk : H.v.kind = 2) {x : List UInt8} {tl : List (List UInt8)} (hl : H.v.list = endL left x tl)
    (hs : ∀ y ∈ tl, y.length ≤ 1048576) (hB : tl.length ≤ 274877906944) (hc : c.num ≤ 1099511627775) :
    Calls Tryz.prog 37 #[.pointer (some ⟨cb, 0, none⟩)] w (RepJ o w q p (S.setL now k tl (c.num + 1)) c.next (bulkF x)) := by
  obtain ⟨o1, m, hbg, hj⟩ := begin_roles h hq
  have hfr := Fr.begin hbg hj hcb
  have hvo := hv.below hbg.res.2
  obtain ⟨b, off, cap, rfl, hcap, hbl, hkc⟩ := vw_head1 hv
  have hbl : b < w.heap.size := hbl
  have hcl := hcb.lt
  have hcc := hcb.cell
  have hli := clist_ok hfr.sp hfr.call k [m]
  rw [hS] at hli
  simp only [Option.getD_some, Option.isSome_some] at hli
  have hk0 : (true && H.v.kind != 2) = false := by rw [hk]; rfl
  have HLI := Lib.hid hli
  have HFR := Lib.hid hfr
  have HBG := Lib.hid hbg
  have HVO := Lib.hid hvo
  have HL := Lib.hid hl
  have HK0 := Lib.hid hk0
  have HKS := Lib.hid (SP.at_some hS).1
  have HSM := Lib.hid hs
  clear h hcb hbg hj hv hvo hS hk hl hfr hli hk0 hs
  unfold txt at HLI
  obtain ⟨isl, hnm⟩ : ∃ isl : Bool, (popN left == [108, 112, 111, 112]) = isl := ⟨_, rfl⟩
  have hisl : isl = left := by rw [← hnm]; cases left <;> rfl
  subst hisl
  go_enter Tryz.func37, Tryz.ntmps37
  go_wp2_with fail
  refine HLI.out.mono ?_; rintro e w2 ⟨d, o2, rfl, hd, hs2⟩
  rw [HK0.out]
  rw [HL.out, endL_len] at hd
  have hf2 := HFR.out.step HBG.out (j := 0) (by decide) (hs2 [m])
  have st0 := Stp.from0 [m + 1] o2 w2 [m + 2]
  have hd2 := hd.keep st0 (Apart.head (by omega) [] [])
  have hf2' := hf2.step HBG.out (j := 1) (by decide) st0
  have hold : ∀ b, b < w.heap.size → (o2.from w2.heap.size [m + 2]) b = o1 b := fun b hb => by
    have h1 := (hs2 [m]).size
    rw [World.size_alloc] at h1
    rw [Roles.from_old (by omega), (hs2 [m]).old b (by rw [World.size_alloc]; omega)]
  have hv2 := HBG.out.keepVw (j := 0) HVO.out (fun _ _ => rfl) (hs2 [m])
  have HOLD := Lib.hid hold
  have HV2 := Lib.hid hv2
  have HF2 := Lib.hid hf2'
  have HPOP := Lib.hid (dpop_o hd2 (by omega))
  have HNEW := Lib.hid (fun b hb => Roles.from_new (o := o2) (base := w2.heap.size) (b := b) (r := [m + 2]) hb)
  generalize (o2.from w2.heap.size [m + 2]) = o2' at *
  have hcc2 := HF2.out.call.cell
  clear hd hs2 hf2 st0 hd2 hf2' hold hv2 HLI HFR HL HK0 hcc HVO
  have hend : ∀ (v1 : Value) (w3 : World), DeqI o2' w3 [m] d (tl.length + 1) tl → Vw (fun b => w2.heap.size ≤ b) w3 v1 1 1 [txt x] → Stp [m] o2' w2 o2' w3 → True := fun _ _ _ _ _ => trivial
  clear hend
  go_upto_if 76 with fail
  go_cut [9] (fun s9 wx => ∃ a1 c1, s9 = .slice a1 1 c1 ∧ DeqI o2' wx [m] d (tl.length + 1) tl ∧ Vw (fun b => w2.heap.size ≤ b) wx (.slice a1 1 c1) 1 1 [txt x] ∧ Stp [m] o2' w2 o2' wx)
  case first =>
    clear HV2 HF2 HOLD HSM HKS HNEW
    cases isl with
    | true =>
      go_wp2_with fail
      refine HPOP.out.mono ?_; rintro e w3 ⟨v1, rfl, hd3, hv3, hs3⟩
      obtain ⟨a1, c1, rfl, _⟩ := id hv3.slice
      have D := Lib.hid (show ∃ a1' c1', (.slice a1 1 c1 : Value) = .slice a1' 1 c1' ∧ DeqI o2' w3 [m] d (tl.length + 1) tl ∧ Vw (fun b => w2.heap.size ≤ b) w3 (.slice a1' 1 c1') 1 1 [txt x] ∧ Stp [m] o2' w2 o2' w3 from ⟨a1, c1, rfl, hd3, hv3, hs3⟩)
      clear hd3 hv3 hs3 HPOP
      go_wp2_with fail
      go_meet
      exact D.out
    | false =>
      go_wp2_with fail
      refine HPOP.out.mono ?_; rintro e w3 ⟨v1, rfl, hd3, hv3, hs3⟩
      obtain ⟨a1, c1, rfl, _⟩ := id hv3.slice
      have D := Lib.hid (show ∃ a1' c1', (.slice a1 1 c1 : Value) = .slice a1' 1 c1' ∧ DeqI o2' w3 [m] d (tl.length + 1) tl ∧ Vw (fun b => w2.heap.size ≤ b) w3 (.slice a1' 1 c1') 1 1 [txt x] ∧ Stp [m] o2' w2 o2' w3 from ⟨a1, c1, rfl, hd3, hv3, hs3⟩)
      clear hd3 hv3 hs3 HPOP
      go_wp2_with fail
      go_meet
      exact D.out
  case rest =>
    obtain ⟨a1, c1, rfl, hd3, hv3, hs3⟩ := hcut
    have hf3 := HF2.out.step HBG.out (j := 0) (by decide) hs3
    have hcc3 := hf3.call.cell
    obtain ⟨b3, off3, cap3, e3, hcap3, _, hk3⟩ := vw_head1 (HBG.out.keepVw (j := 0) HV2.out HOLD.out hs3)
    injection e3 with e4 _ e5
    injection e4 with e4
    injection e4 with e4 e6 _
    subst e4 e5 e6
    have HP := Lib.hid (lcput_any hf3.sp hf3.call k hd3 (fun _ => by rw [HKS.out]; rfl) HSM.out (by omega) (by omega))
    have HF3 := Lib.hid hf3
    have HV3 := Lib.hid hv3
    unfold txt at HP
    clear hd3 hv3 hs3 hf3 HF2 HV2 HPOP hcc2
    go_wp2_with fail
    refine HP.out.mono ?_; rintro e w4 ⟨rfl, o4, hj4, hs4⟩
    have hf4 := HF3.out.put HBG.out hρ hj4 hs4
    have hv4 : Vw (fun b => w2.heap.size ≤ b) w4 (.slice a1 1 c1) 1 1 [txt x] := HV3.out.stay hs4.size (fun b hb hb2 => hs4.block b hb2 (by rw [HNEW.out b hb]; exact (HBG.out.aq 2).not))
    obtain ⟨bv, offv, capv, ev, hcapv, hcv⟩ := vw_one hv4
    injection ev with ev1 _ ev2
    subst ev1 ev2
    have hcc4 := hf4.call.cell
    have HF4 := Lib.hid hf4
    unfold txt at hcv
    clear hj4 hs4 hf4 hv4 HF3 HV3 HP hcc3 hk3
    go_wp2_with fail
    refine (lbulk_ok _ _).mono ?_; rintro e w7 ⟨rfl, hB7⟩
    have hf7 := HF4.out.below hB7
    have HF7 := Lib.hid hf7
    have hrc := hf7.res.cell
    have hrf := hf7.res.free
    clear hB7 hf7 HF4 hcc4 hcv
    go_wp2_with fail
    obtain ⟨hj8, hs8⟩ := HF7.out.fin HBG.out (.int .i64 4) (.string ⟨x.toArray⟩) (.int .i64 0) (.slice none 0 0)
    exact bodyPost_ret (v := repV 4 x 0 (.slice none 0 0)) (by simp [results, Tryz.results37, go_sem, hrc]) rfl ⟨rfl, o4, hj8, hs8⟩
end
end Go.Proofs.YtgmmeeikjofefaaGreatDoor
namespace Go.Proofs.YtgmmeeikjofefaaGreatDoor
open Go Go.RowKit
/-! pop where nothing is; what a pop, an lindex serves. -/
section
variable {o : Roles} {w : World} {q : List Nat} {p : Nat} {c : Cnt} {S : SP}
set_option maxRecDepth 10000 in
set_option maxHeartbeats 4000000 in
theorem lcpop_none (h : SpJ o w q p S c) (hq : q ≠ []) {cb : Nat} {ρ : List Nat} {now : Int} {nm : List UInt8} {sv : Value} (hcb : Blk o w ρ cb (callC p now nm sv) 79)
    {k : List UInt8} (hv : Vw (Old w) w sv 1 1 ([k].map txt)) (hS : S.at now k = none) : Calls Tryz.prog 37 #[.pointer (some ⟨cb, 0, none⟩)] w (RepB w nullR) := by
  obtain ⟨o1, m, hbg, hj⟩ := begin_roles h hq
  have hfr := Fr.begin hbg hj hcb
  obtain ⟨b, off, cap, rfl, hcap, hbl, hk⟩ := vw_head1 hv
  have hbl : b < w.heap.size := hbl
  have hcl := hcb.lt
  have hcc := hcb.cell
  have hli := clist_ok hfr.sp hfr.call k [m]
  rw [hS] at hli
  simp only [Option.isSome_none] at hli
  have HLI := Lib.hid hli
  have HFR := Lib.hid hfr
  have HB1 := Lib.hid hbg.res.2
  clear h hcb hbg hj hv hS hfr hli
  unfold txt at HLI
  go_enter Tryz.func37, Tryz.ntmps37
  go_wp2_with fail
  refine HLI.out.mono ?_; rintro e w2 ⟨d, o2, rfl, hd, hs2⟩
  simp only [Bool.false_and]
  have hB2 := all_below hs2
  have HB2 := Lib.hid (HB1.out.trans (hB2.mono (by simp)))
  have hcc2 := ((HFR.out.call).below hB2).cell
  have HR2 := Lib.hid ((HFR.out.res).below hB2)
  clear hd hs2 hB2 HLI HB1 HFR hcc hk
  go_wp2_with fail
  refine (lnull_ok _).mono ?_; rintro e w4 ⟨rfl, hB4⟩
  have hr4 := HR2.out.below hB4
  have hrc := hr4.cell
  have hrf := hr4.free
  have HB4 := Lib.hid (HB2.out.trans (hB4.mono HB2.out.size))
  clear hB4 hr4 HR2 HB2 hcc2
  go_wp2_with fail
  exact bodyPost_ret (v := repV 5 [] 0 (.slice none 0 0)) (by simp [results, Tryz.results37, go_sem, hrc]) rfl ⟨_, rfl, Vw.nil _ _ _, below_four HB4.out⟩
set_option maxRecDepth 10000 in
set_option maxHeartbeats 4000000 in
theorem lcpop_gone (h : SpJ o w q p S c) (hq : q ≠ []) (hT : Tbl w) {cb : Nat} {ρ : List Nat} {now : Int} {nm : List UInt8} {sv : Value} (hcb : Blk o w ρ cb (callC p now nm sv) 79)
    {k y : List UInt8} (hv : Vw (Old w) w sv 1 2 ([k, y].map txt)) (hS : S.at now k = none) {n : Int} (hy : parseN y = some n) (hyl : y.length ≤ 1099511627776) (hn : 0 ≤ n) : Calls Tryz.prog 37 #[.pointer (some ⟨cb, 0, none⟩)] w (RepB w ⟨7, [], 0, []⟩) := by
  obtain ⟨o1, m, hbg, hj⟩ := begin_roles h hq
  have hfr := Fr.begin hbg hj hcb
  obtain ⟨a0, cap, rfl, hcap, _, _⟩ := id hv.slice
  obtain ⟨b, off, rfl, hbl, hcap, hg⟩ := vw_get hv (by omega)
  have hbl : b < w.heap.size := hbl
  have hcl := hcb.lt
  have hcc := hcb.cell
  have hk := hg 0 k rfl
  have hky := hg 1 y rfl
  rw [Nat.add_zero] at hk
  have hpa := parse_ok (hT.below hbg.res.2) y hyl
  rw [hy] at hpa
  have HPA := Lib.hid hpa
  have hli := fun (W : World) (hW : Below (w.alloc (.cells zRepC 29)).heap.size (w.alloc (.cells zRepC 29)) W) => clist_ok (hfr.below hW).sp (hfr.below hW).call k [m]
  rw [hS] at hli
  simp only [Option.isSome_none] at hli
  have HLI := Lib.hid hli
  have HFR := Lib.hid hfr
  have HB1 := Lib.hid hbg.res.2
  clear h hcb hbg hj hv hS hfr hli hg hpa hT hy hyl
  unfold txt at HLI HPA
  unfold ParseDid at HPA
  simp only [Option.getD_some, Option.isSome_some, if_true] at HPA
  go_enter Tryz.func37, Tryz.ntmps37
  go_wp2_with fail
  refine HPA.out.mono ?_; rintro e w2 ⟨rfl, hB2⟩
  have hcc2 := ((HFR.out.call).below hB2).cell
  have hB02 := HB1.out.trans (hB2.mono (by simp))
  have hk2 : w2.cell? ⟨b, off, none⟩ = some (.string ⟨k.toArray⟩) := by rw [(bcell hB02).1 _ _ hbl]; exact hk
  have HLI2 := Lib.hid (HLI.out w2 hB2)
  have HB2 := Lib.hid hB2
  clear hB2 hB02 HLI HPA hcc hk hky
  go_wp2_with fail
  refine HLI2.out.mono ?_; rintro e w3 ⟨d, o3, rfl, hd, hs3⟩
  simp only [Bool.false_and]
  have hB3 := HB2.out.trans ((all_below hs3).mono HB2.out.size)
  have hcc3 := ((HFR.out.call).below hB3).cell
  have hr3 := HFR.out.res.below hB3
  have hrc := hr3.cell
  have hrf := hr3.free
  have HB3 := Lib.hid (HB1.out.trans (hB3.mono (by simp)))
  clear hd hs3 hB3 hr3 HLI2 HB2 HB1 HFR hcc2 hk2
  go_wp2_with fail
  exact bodyPost_ret (v := repV 7 [] 0 (.slice none 0 0)) (by simp [results, Tryz.results37, go_sem, hrc]) rfl ⟨_, rfl, Vw.nil _ _ _, below_four HB3.out⟩
variable {k : List UInt8}
theorem goes_pop (left : Bool) : Goes (popN left) 37 := by cases left <;> simp [Goes, popN]
theorem fits_pop (left : Bool) {n : Nat} (h : 2 ≤ n) : Fits (popN left) n := by
  cases left with
  | true => exact ⟨⟨lpopB, -2, true, false, 1, 1, 1⟩, by decide +kernel, .inr ⟨by decide, by show (2 : Int) ≤ n; omega⟩, by decide⟩
  | false => exact ⟨⟨rpopB, -2, true, false, 1, 1, 1⟩, by decide +kernel, .inr ⟨by decide, by show (2 : Int) ≤ n; omega⟩, by decide⟩
theorem fits_lindex : Fits lindexB 3 := ⟨⟨lindexB, 3, false, false, 1, 1, 1⟩, by decide +kernel, .inl ⟨by decide, by decide⟩, by decide⟩
theorem serves_pop (hq : q ≠ []) {left : Bool} {x : List UInt8} {tl : List (List UInt8)} (hk : KeyIs S k (endL left x tl)) (hs : ∀ y ∈ tl, y.length ≤ 1048576) (hB : tl.length ≤ 274877906944) (hc : c.num ≤ 1099511627770) {K : SP → Prop}
    (hK : ∀ n, KeyIs (S.setL 0 k tl n) k tl → K (S.setL 0 k tl n)) : Serves 37 w q p S c (popN left) [k] ⟨4, x, 0, []⟩ K := by
  intro o1 w1 cb m sv hj hm0 hB1 hcb hv
  obtain ⟨e1, e2, e3, e4, e5⟩ := hk.at hj 0
  obtain ⟨H, h1, h2, h3⟩ := e4 (by unfold endL; cases left <;> simp)
  have := lcpop_one hj hq hm0 hcb (k := k) (by simpa using hv) h1 h2 h3 hs hB (by omega)
  exact this.mono fun e w' h => RepJ.repL h (hK _ (hk.setL hj 0 tl _)) (by show c.num + 1 ≤ _; omega)
theorem serves_pop_none (hq : q ≠ []) {nm : List UInt8} (hk : KeyIs S k []) {K : SP → Prop} (hK : K S) : Serves 37 w q p S c nm [k] ⟨5, [], 0, []⟩ K := by
  intro o1 w1 cb m sv hj hm0 hB1 hcb hv
  have hn : S.at 0 k = none := by
    rw [hj.at_eq]
    rcases hk with ⟨_, h⟩ | ⟨h, _⟩
    · exact h
    · exact absurd rfl h
  exact (lcpop_none hj hq hcb (k := k) (by simpa using hv) hn).mono fun e w' h => h.repL hj hK
theorem serves_pop_gone (hq : q ≠ []) (hT : Tbl w) {nm : List UInt8} (hk : KeyIs S k []) {y : List UInt8} {n : Int} (hy : parseN y = some n) (hyl : y.length ≤ 1099511627776) (hn : 0 ≤ n) {K : SP → Prop} (hK : K S) : Serves 37 w q p S c nm [k, y] ⟨7, [], 0, []⟩ K := by
  intro o1 w1 cb m sv hj hm0 hB1 hcb hv
  have hn0 : S.at 0 k = none := by
    rw [hj.at_eq]
    rcases hk with ⟨_, h⟩ | ⟨h, _⟩
    · exact h
    · exact absurd rfl h
  exact (lcpop_gone hj hq (hT.below hB1) hcb (k := k) (y := y) (by simpa using hv) hn0 hy hyl hn).mono fun e w' h => h.repL hj hK
theorem serves_index (hq : q ≠ []) (hT : Tbl w) {x : List UInt8} {l : List (List UInt8)} (hk : KeyIs S k l) {a : Int} (hx : parseN x = some a) (hxl : x.length ≤ 1099511627776) (ha : -9223372036854775808 ≤ a ∧ a ≤ 9223372036854775807)
    (hL : l.length ≤ 1099511627776) {y : List UInt8} (hy : atL l a = some y) {K : SP → Prop} (hK : K S) : Serves 39 w q p S c lindexB [k, x] ⟨4, y, 0, []⟩ K := by
  intro o1 w1 cb m sv hj hm0 hB1 hcb hv
  obtain ⟨e1, e2, _⟩ := hk.at hj 0
  have := lcread_index hj hq (hT.below hB1) hcb (k := k) (x := x) (by simpa using hv) rfl rfl e2 hx hxl ha (by rw [e1]; exact hL) (y := y) (by rw [e1]; exact hy)
  exact this.mono fun e w' h => h.repL hj hK
end
end Go.Proofs.YtgmmeeikjofefaaGreatDoor
