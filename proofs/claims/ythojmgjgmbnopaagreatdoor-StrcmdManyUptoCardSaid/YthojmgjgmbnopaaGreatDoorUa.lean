import Derived.Test.YthojmgjgmbnopaaGreatDoorVm
import Derived.Test.YthojmgjgmbnopaaGreatDoorWe
import Derived.Test.YthojmgjgmbnopaaGreatDoorWr
namespace Go.Proofs.YthojmgjgmbnopaaGreatDoor
open Go Go.RowKit
/-! The document's look at a value: rising, empty; a copy. -/
set_option maxRecDepth 10000 in
set_option maxHeartbeats 1000000 in
theorem xvalid_any {A : Nat → Prop} {w : World} {v : Value} {l : List Tx} (h : Vw A w v 1 l.length (l.map txt)) (hn : l.length ≤ 1099511627776) :
    Calls Tryz.prog 145 #[v] w fun e w' => e = .returned (.bool (riseB l)) ∧ Below w.heap.size w w' := by
  obtain ⟨a, cap, rfl, _⟩ := id h.slice
  have HV := Lib.hid h
  clear h
  go_enter Tryz.func145, Tryz.ntmps145
  go_wp2_with fail
  go_loopw [3] (fun i wr => ∃ j q : Nat, i = .int .i64 ((j : Int) + 1) ∧ j ≤ l.length ∧ wr = w.drewN q ∧ (List.range (j + 1)).all (riseAt l) = true) (fun i _ => l.length + 1 - (intOf i).toNat)
  case atStart => exact ⟨0, 0, rfl, Nat.zero_le _, rfl, rfl⟩
  case round =>
    obtain ⟨j, q, rfl, hjl, rfl, hall⟩ := hrel
    by_cases hj : j + 1 < l.length
    · obtain ⟨x, hx⟩ : ∃ x, l[j]? = some x := ⟨_, List.getElem?_eq_getElem (by omega)⟩
      obtain ⟨y, hy⟩ : ∃ y, l[j + 1]? = some y := ⟨_, List.getElem?_eq_getElem hj⟩
      obtain ⟨b, off, rfl, _, _, hg⟩ := vw_get HV.out (by omega)
      have hcx : w.cell? ⟨b, off + j, none⟩ = some (.string ⟨x.toArray⟩) := hg j x hx
      have hcy : w.cell? ⟨b, off + (j + 1), none⟩ = some (.string ⟨y.toArray⟩) := hg (j + 1) y hy
      have hra : riseAt l (j + 1) = Op.bytesLess x y := by show ltB (l[j]?.getD []) (l[j + 1]?.getD []) = _; rw [hx, hy]; rfl
      have hjI : (0 : Int) ≤ j ∧ (j : Int) + 1 < l.length := by omega
      obtain ⟨hj0, hj1⟩ := hjI
      have ew : IntKind.i64.wrap (j : Int) = (j : Int) := by rw [IntKind.wrap_i64]; omega
      have hj2 : (j : Int) < l.length := by omega
      have hj3 : (0 : Int) ≤ (j : Int) + 1 := by omega
      have etn : ((j : Int) + 1).toNat = j + 1 := by omega
      have HA := Lib.hid hall
      have HRA := Lib.hid hra
      clear hg hx hy HV hall hra
      rcases hxy : Op.bytesLess x y with _ | _
      · have D := Lib.hid (show riseB l = false from all_range_false (k := j + 1) hj (by rw [HRA.out, hxy]))
        clear HA HRA hj
        go_wp2_with fail
        go_quiet (fail)
        go_wp2_with fail
        go_ret
        exact ⟨by rw [D.out]; rfl, by repeat (first | exact Below.refl _ _ | refine below_drewN ?_ _ | refine Below.drew ?_)⟩
      · have D := Lib.hid (show (List.range (j + 1 + 1)).all (riseAt l) = true from by rw [all_range_succ, HA.out, HRA.out, hxy]; rfl)
        clear HA HRA
        go_wp2_with fail
        go_quiet (fail)
        go_wp2_with fail
        go_roundw
        case rel => exact ⟨j + 1, _, by go_num, by omega, by first | rfl | exact World.drewN_drewN _ _ _, D.out⟩
        case measure => simp [intOf]; omega
    · have hjI : (0 : Int) ≤ j ∧ ¬ ((j : Int) + 1 < l.length) := by omega
      obtain ⟨hj0, hj1⟩ := hjI
      have D := Lib.hid (show riseB l = true from by
        unfold riseB
        rw [List.all_eq_true] at hall ⊢
        intro i hi
        exact hall i (by rw [List.mem_range] at *; omega))
      clear HV hall hj
      go_wp2_with fail
      go_ret
      exact ⟨by rw [D.out]; rfl, below_drewN (Below.refl _ _) _⟩
theorem len_zero {α : Type} (l : List α) : (((l.length : Nat) : Int) == 0) = l.isEmpty := by
  cases l with
  | nil => rfl
  | cons x t => simp; omega
set_option maxRecDepth 10000 in
theorem xempty_any (w : World) (l f r : Value) (V : VV) (hk : 1 ≤ V.kind ∧ V.kind ≤ 5) (hl : ∃ a c, l = .slice a V.list.length c) (hf : ∃ a c, f = .slice a V.fields.length c) (hr : ∃ a c, r = .slice a V.ranked.length c) : Calls Tryz.prog 144 #[valV V l f r] w fun e w' => e = .returned (.bool (emptyV V)) ∧ Below w.heap.size w w' := by
  obtain ⟨kind, text, list, fields, ranked⟩ := V
  dsimp only at hk hl hf hr
  obtain ⟨a1, c1, rfl⟩ := hl
  obtain ⟨a2, c2, rfl⟩ := hf
  obtain ⟨a3, c3, rfl⟩ := hr
  have e1 := Lib.hid (len_zero list)
  have e2 := Lib.hid (len_zero fields)
  have e3 := Lib.hid (len_zero ranked)
  rcases (show kind = 1 ∨ kind = 2 ∨ kind = 3 ∨ kind = 4 ∨ kind = 5 by omega) with rfl | rfl | rfl | rfl | rfl
  all_goals (
    clear hk
    go_enter Tryz.func144, Tryz.ntmps144
    go_wp2
    go_ret
    refine ⟨?_, (Below.refl _ _).alloc (Nat.le_refl _) _⟩
    simp only [emptyV]
    first | rfl | (simp only [e1.out]; done) | (simp [e1.out]; done) | (simp [e2.out]; done) | (simp [e3.out]; done))
theorem infoFld3 : (Tryz.prog.info? 129).map (fun i => (i.zero, i.size, i.bytes)) = some (some (.agg #[.string ⟨#[]⟩, .string ⟨#[]⟩]), 2, 32) := by kernel_rfl
theorem infoSc3 : (Tryz.prog.info? 131).map (fun i => (i.zero, i.size, i.bytes)) = some (some (.agg #[.string ⟨#[]⟩, .int .i64 0]), 2, 24) := by kernel_rfl
set_option maxRecDepth 10000 in
set_option maxHeartbeats 2000000 in
theorem xcopy_any {A : Nat → Prop} {w : World} {V : VV} {l f r : Value} (h : Val3 A w V l f r) (hs : VSmall V) : Calls Tryz.prog 92 #[valV V l f r] w (CopyDid w V) := by
  obtain ⟨i1, hi1, hz1, hy1, hb1⟩ := info_parts infoS
  obtain ⟨i2, hi2, hz2, hy2, hb2⟩ := info_parts infoFld3
  obtain ⟨i3, hi3, hz3, hy3, hb3⟩ := info_parts infoSc3
  obtain ⟨a1, c1, e1, _⟩ := h.list.slice
  obtain ⟨a2, c2, e2, _⟩ := h.fields.slice
  obtain ⟨a3, c3, e3, _⟩ := h.ranked.slice
  obtain ⟨kind, text, list, fields, ranked⟩ := V
  obtain ⟨hl, hf, hr⟩ := h
  obtain ⟨_, hs1, hs2, hs3⟩ := hs
  dsimp only at hl hf hr hs1 hs2 hs3 e1 e2 e3
  subst e1 e2 e3
  have hbx : Blk none0 (((w.alloc (.cells #[.int .i64 kind, .string ⟨text.toArray⟩, .slice a1 list.length c1, .slice a2 fields.length c2, .slice a3 ranked.length c3] 43)).alloc (.cells #[.int .i64 0, .string ⟨#[]⟩, .slice none 0 0, .slice none 0 0, .slice none 0 0] 43)).alloc (.cells #[.int .i64 kind, .string ⟨text.toArray⟩, .slice a1 list.length c1, .slice a2 fields.length c2, .slice a3 ranked.length c3] 43)) [] w.heap.size #[.int .i64 kind, .string ⟨text.toArray⟩, .slice a1 list.length c1, .slice a2 fields.length c2, .slice a3 ranked.length c3] 43 :=
    ⟨by rw [Below.heap_alloc _ _ _ (by simp; omega), Below.heap_alloc _ _ _ (by simp)]; exact heap_alloc_new w _, rfl⟩
  have hbt : Blk none0 (((w.alloc (.cells #[.int .i64 kind, .string ⟨text.toArray⟩, .slice a1 list.length c1, .slice a2 fields.length c2, .slice a3 ranked.length c3] 43)).alloc (.cells #[.int .i64 0, .string ⟨#[]⟩, .slice none 0 0, .slice none 0 0, .slice none 0 0] 43)).alloc (.cells #[.int .i64 kind, .string ⟨text.toArray⟩, .slice a1 list.length c1, .slice a2 fields.length c2, .slice a3 ranked.length c3] 43)) [] (w.heap.size + 1) #[.int .i64 0, .string ⟨#[]⟩, .slice none 0 0, .slice none 0 0, .slice none 0 0] 43 :=
    ⟨by rw [Below.heap_alloc _ _ _ (by simp), show w.heap.size + 1 = (w.alloc (.cells #[.int .i64 kind, .string ⟨text.toArray⟩, .slice a1 list.length c1, .slice a2 fields.length c2, .slice a3 ranked.length c3] 43)).heap.size from by simp]; exact heap_alloc_new _ _, rfl⟩
  have hb3 : Blk none0 (((w.alloc (.cells #[.int .i64 kind, .string ⟨text.toArray⟩, .slice a1 list.length c1, .slice a2 fields.length c2, .slice a3 ranked.length c3] 43)).alloc (.cells #[.int .i64 0, .string ⟨#[]⟩, .slice none 0 0, .slice none 0 0, .slice none 0 0] 43)).alloc (.cells #[.int .i64 kind, .string ⟨text.toArray⟩, .slice a1 list.length c1, .slice a2 fields.length c2, .slice a3 ranked.length c3] 43)) [] (w.heap.size + 1 + 1) #[.int .i64 kind, .string ⟨text.toArray⟩, .slice a1 list.length c1, .slice a2 fields.length c2, .slice a3 ranked.length c3] 43 :=
    ⟨by rw [show w.heap.size + 1 + 1 = ((w.alloc (.cells #[.int .i64 kind, .string ⟨text.toArray⟩, .slice a1 list.length c1, .slice a2 fields.length c2, .slice a3 ranked.length c3] 43)).alloc (.cells #[.int .i64 0, .string ⟨#[]⟩, .slice none 0 0, .slice none 0 0, .slice none 0 0] 43)).heap.size from by simp]; exact heap_alloc_new _ _, rfl⟩
  have hB3 : Below w.heap.size w (((w.alloc (.cells #[.int .i64 kind, .string ⟨text.toArray⟩, .slice a1 list.length c1, .slice a2 fields.length c2, .slice a3 ranked.length c3] 43)).alloc (.cells #[.int .i64 0, .string ⟨#[]⟩, .slice none 0 0, .slice none 0 0, .slice none 0 0] 43)).alloc (.cells #[.int .i64 kind, .string ⟨text.toArray⟩, .slice a1 list.length c1, .slice a2 fields.length c2, .slice a3 ranked.length c3] 43)) :=
    (((Below.refl _ _).alloc (Nat.le_refl _) _).alloc (by simp) _).alloc (by simp; omega) _
  have hz3 : (((w.alloc (.cells #[.int .i64 kind, .string ⟨text.toArray⟩, .slice a1 list.length c1, .slice a2 fields.length c2, .slice a3 ranked.length c3] 43)).alloc (.cells #[.int .i64 0, .string ⟨#[]⟩, .slice none 0 0, .slice none 0 0, .slice none 0 0] 43)).alloc (.cells #[.int .i64 kind, .string ⟨text.toArray⟩, .slice a1 list.length c1, .slice a2 fields.length c2, .slice a3 ranked.length c3] 43)).heap.size = w.heap.size + 3 := by simp
  have HM1 := Lib.hid (show 0 + list.length ≤ maxLen ∧ (0 + list.length) * 16 ≤ 140737488355328 from by unfold maxLen; omega)
  have HM2 := Lib.hid (show 0 + fields.length ≤ maxLen ∧ (0 + fields.length) * 32 ≤ 140737488355328 from by unfold maxLen; omega)
  have HM3 := Lib.hid (show 0 + ranked.length ≤ maxLen ∧ (0 + ranked.length) * 24 ≤ 140737488355328 from by unfold maxLen; omega)
  have HS1 := Lib.hid ((hl.below hB3).src (P := Tryz.prog) Tryz.underlying39 (one_list list))
  have HFS := Lib.hid (fun W (hB : Below w.heap.size w W) => (hf.below hB).src (P := Tryz.prog) Tryz.underlying40 (one_fields fields))
  have HRS := Lib.hid (fun W (hB : Below w.heap.size w W) => (hr.below hB).src (P := Tryz.prog) Tryz.underlying41 (one_ranked ranked))
  have HBX := Lib.hid hbx
  have HBT := Lib.hid hbt
  have HB3 := Lib.hid hb3
  have HBE := Lib.hid hB3
  have HZ := Lib.hid hz3
  clear hbx hbt hb3 hB3 hz3 hl hf hr hs1 hs2 hs3
  go_enter Tryz.func92, Tryz.ntmps92
  go_wp2_with (first
    | (at_builtin
       refine wpList_app _ rfl _ _ 39 39 rfl 9 i1 _ 1 16 Tryz.underlying39 hi1 hz1 hy1 hb1 rfl rfl (Row.nil none0 _ [9] 9 1) rfl HS1.out HM1.out.1 HM1.out.2 ?_
       intro v4 w4 o4 hr4 hs4
       rw [Nat.zero_add, List.nil_append] at hr4
       obtain ⟨b1, d1, rfl, _⟩ := id hr4.slice
       have hF4 := hr4.fresh hs4
       have hbx4 := HBX.out.below hF4.below
       have hb34 := HB3.out.below hF4.below
       have HX5 := Lib.hid (hbx4.setOther ⟨w.heap.size + 1 + 1, 2, none⟩ (.slice b1 list.length d1) (by simp; omega))
       have HT5 := Lib.hid ((HBT.out.below hF4.below).setOther ⟨w.heap.size + 1 + 1, 2, none⟩ (.slice b1 list.length d1) (by simp))
       have H35 := Lib.hid (hb34.setCell 2 (.slice b1 list.length d1))
       have hcx4 := hbx4.cell
       have hc34 := hb34.cell
       have hf34 := hb34.free
       have hsz4 : w.heap.size + 3 ≤ w4.heap.size := by have := hF4.below.size; have := HZ.out; omega
       have HE5 := Lib.hid (show Below w.heap.size w (w4.setCell ⟨w.heap.size + 1 + 1, 2, none⟩ (.slice b1 list.length d1)) from (HBE.out.trans (hF4.below.mono (by have := HZ.out; omega))).setCell (by simp; omega) _)
       have HV5 := Lib.hid (show Vw (fun b => w.heap.size + 3 ≤ b) (w4.setCell ⟨w.heap.size + 1 + 1, 2, none⟩ (.slice b1 list.length d1)) (.slice b1 list.length d1) 1 list.length (list.map txt) from (hF4.vw.imp (fun b hb => by have := HZ.out; omega)).stay (by simp) (fun b hb _ => heap_set_far (by show b ≠ w.heap.size + 1 + 1; omega)))
       have HS2 := Lib.hid (HFS.out _ HE5.out)
       have HZ5 := Lib.hid (show w.heap.size + 3 ≤ (w4.setCell ⟨w.heap.size + 1 + 1, 2, none⟩ (.slice b1 list.length d1)).heap.size from by simpa using hsz4)
       clear hr4 hs4 hF4 hbx4 hb34 hsz4 HS1 HBX HBT HB3 HBE HM1 HFS)
    | (at_builtin
       refine wpList_app _ rfl _ _ 40 40 rfl 129 i2 _ 2 32 Tryz.underlying40 hi2 hz2 hy2 hb2 rfl rfl (Row.nil none0 _ [9] 129 2) rfl HS2.out HM2.out.1 HM2.out.2 ?_
       intro v6 w6 o6 hr6 hs6
       rw [Nat.zero_add, List.nil_append] at hr6
       obtain ⟨b2, d2, rfl, _⟩ := id hr6.slice
       have hF6 := hr6.fresh hs6
       have hbx6 := HX5.out.below hF6.below
       have hb36 := H35.out.below hF6.below
       have HX7 := Lib.hid (hbx6.setOther ⟨w.heap.size + 1 + 1, 3, none⟩ (.slice b2 fields.length d2) (by simp; omega))
       have HT7 := Lib.hid ((HT5.out.below hF6.below).setOther ⟨w.heap.size + 1 + 1, 3, none⟩ (.slice b2 fields.length d2) (by simp))
       have H37 := Lib.hid (hb36.setCell 3 (.slice b2 fields.length d2))
       have hcx6 := hbx6.cell
       have hc36 := hb36.cell
       have hf36 := hb36.free
       have hsz6 : w.heap.size + 3 ≤ w6.heap.size := by have := hF6.below.size; have := HZ5.out; omega
       have HE7 := Lib.hid (show Below w.heap.size w (w6.setCell ⟨w.heap.size + 1 + 1, 3, none⟩ (.slice b2 fields.length d2)) from (HE5.out.trans (hF6.below.mono (by have := HZ5.out; omega))).setCell (by simp; omega) _)
       have HV7 := Lib.hid (show Vw (fun b => w.heap.size + 3 ≤ b) (w6.setCell ⟨w.heap.size + 1 + 1, 3, none⟩ (.slice b2 fields.length d2)) (.slice b1 list.length d1) 1 list.length (list.map txt) from (HV5.out.below hF6.below).stay (by simp) (fun b hb _ => heap_set_far (by show b ≠ w.heap.size + 1 + 1; omega)))
       have HU7 := Lib.hid (show Vw (fun b => w.heap.size + 3 ≤ b) (w6.setCell ⟨w.heap.size + 1 + 1, 3, none⟩ (.slice b2 fields.length d2)) (.slice b2 fields.length d2) 2 fields.length (fieldsC fields) from (hF6.vw.imp (fun b hb => by have := HZ5.out; omega)).stay (by simp) (fun b hb _ => heap_set_far (by show b ≠ w.heap.size + 1 + 1; omega)))
       have HS3 := Lib.hid (HRS.out _ HE7.out)
       have HZ7 := Lib.hid (show w.heap.size + 3 ≤ (w6.setCell ⟨w.heap.size + 1 + 1, 3, none⟩ (.slice b2 fields.length d2)).heap.size from by simpa using hsz6)
       clear hr6 hs6 hF6 hbx6 hb36 hsz6 HS2 HX5 HT5 H35 HE5 HV5 HM2 HZ5 hcx4 hc34 hf34 HRS)
    | (at_builtin
       refine wpList_app _ rfl _ _ 41 41 rfl 131 i3 _ 2 24 Tryz.underlying41 hi3 hz3 hy3 hb3 rfl rfl (Row.nil none0 _ [9] 131 2) rfl HS3.out HM3.out.1 HM3.out.2 ?_
       intro v8 w8 o8 hr8 hs8
       rw [Nat.zero_add, List.nil_append] at hr8
       obtain ⟨b3, d3, rfl, _⟩ := id hr8.slice
       have hF8 := hr8.fresh hs8
       have hb38 := H37.out.below hF8.below
       have hbt8 := HT7.out.below hF8.below
       have hc38 := hb38.cell
       have hf38 := hb38.free
       have hct8 := hbt8.cell
       have hft8 := hbt8.free
       have hsz8 : w.heap.size + 3 ≤ w8.heap.size := by have := hF8.below.size; have := HZ7.out; omega
       have HE8 := Lib.hid (HE7.out.trans (hF8.below.mono (by have := HZ7.out; omega)))
       have HW8 := Lib.hid (show Val3 (fun b => w.heap.size + 3 ≤ b) w8 ⟨kind, text, list, fields, ranked⟩ (.slice b1 list.length d1) (.slice b2 fields.length d2) (.slice b3 ranked.length d3) from ⟨HV7.out.below hF8.below, HU7.out.below hF8.below, hF8.vw.imp (fun b hb => by have := HZ7.out; omega)⟩)
       clear hr8 hs8 hF8 hb38 hbt8 HS3 HX7 HT7 H37 HE7 HV7 HU7 HM3 HZ7 hcx6 hc36 hf36))
  refine bodyPost_ret (v := valV ⟨kind, text, list, fields, ranked⟩ (.slice b1 list.length d1) (.slice b2 fields.length d2) (.slice b3 ranked.length d3)) (by simp [results, Tryz.results92, go_sem, valV, hct8]) rfl ⟨_, _, _, rfl, ?_, ?_⟩
  · refine (HW8.out.stay (by simp) (fun b hb _ => ?_)).imp (fun b hb => Nat.le_trans (Nat.le_add_right _ _) hb)
    iterate 5 rw [heap_set_far (by show b ≠ w.heap.size + 1; omega)]
    rw [heap_set_far (by show b ≠ w.heap.size + 1 + 1; omega)]
  · iterate 6 refine Below.setCell ?_ (by first | (simp; done) | (simp; omega)) _
    exact HE8.out
end Go.Proofs.YthojmgjgmbnopaaGreatDoor
