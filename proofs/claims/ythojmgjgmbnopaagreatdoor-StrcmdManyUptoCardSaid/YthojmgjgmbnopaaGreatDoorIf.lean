import Derived.Test.YthojmgjgmbnopaaGreatDoorIa
import Derived.Test.YthojmgjgmbnopaaGreatDoorJB
import Derived.Deep.RegionLaw
import Derived.StillTail
namespace Go.Proofs.YthojmgjgmbnopaaGreatDoor
open Go Go.RowKit
/-! MGET over any space. -/
/-- What MGET tells of a key. -/
def oneF (S : SP) (now : Int) (k : Tx) : Rf := if S.is now k && !S.bad now k then ⟨4, S.txt now k, 0⟩ else ⟨5, [], 0⟩
def MgRel (w : World) (S : SP) (now : Int) (l : List Tx) (i : Value) (wr : World) : Prop :=
  ∃ k v o', k ≤ l.length ∧ i = .int .i64 ((k : Nat) : Int) ∧ Blk o' wr [9, 1] (w.heap.size + 1) #[.int .i64 6, .string ⟨#[]⟩, .int .i64 0, v] 30 ∧ Blk o' wr [9, 2] w.heap.size #[.int .i64 0, .string ⟨#[]⟩, .int .i64 0, .slice none 0 0] 30 ∧ Row o' wr [9, 0] 30 4 v k (rfsC ((l.take k).map (oneF S now))) ∧ Stp [9] none0 w o' wr
theorem wpAny_seq {P : Program} {md : Region.Mode} {ops : Array Oper} {Q : Exit → Act → World → Prop} {n k : Nat} {listed : Array Bool} {a : Act} {w : World} (hB : Region.seqB md ops n k listed = true) (hn : (ops.toList.drop k).length = n) (h : wpList P ops Q (ops.toList.drop k) a w) : wpAny P md ops Q n listed a w := by
  subst hn
  exact wpAny_of_seq _ k _ _ _ (fun j => by rw [List.getElem?_drop, Array.getElem?_toList]) hB h
section
variable {o : Roles} {w : World} {q : List Nat} {p : Nat} {c : Cnt} {S : SP} {cb : Nat} {ρ : List Nat} {now : Int} {sv : Value} {nm : Tx}
set_option maxRecDepth 10000 in
set_option maxHeartbeats 8000000 in
theorem mget_ok (h : SpJ o w q p S c) {l : List Tx} (hcb : Blk o w ρ cb (callC p now nm sv) 108) (hv : Vw (Old w) w sv 1 l.length (l.map txt)) (hn : l.length ≤ 1099511627776) :
    Calls Tryz.prog 109 #[.pointer (some ⟨cb, 0, none⟩)] w (RepB w ⟨6, [], 0, l.map (oneF S now)⟩) := by
  obtain ⟨a, cap, rfl, _⟩ := id hv.slice
  have HV := Lib.hid hv
  have HTX := Lib.hid (fun (W : World) (hW : Below w.heap.size w W) (k : Tx) => ctext_any (h.below hW) (hcb.below hW) k)
  have HCB := Lib.hid (fun (W : World) (hW : Below w.heap.size w W) => (hcb.below hW).cell)
  have hcc := hcb.cell
  have hcl := hcb.lt
  have HCL := Lib.hid hcl
  have hat : MgRel w S now l (.int .i64 0) ((w.alloc (.cells #[.int .i64 0, .string ⟨#[]⟩, .int .i64 0, .slice none 0 0] 30)).alloc (.cells #[.int .i64 6, .string ⟨#[]⟩, .int .i64 0, .slice none 0 0] 30)) := by
    have h0 : (w.alloc (.cells #[.int .i64 0, .string ⟨#[]⟩, .int .i64 0, .slice none 0 0] 30)).heap.size = w.heap.size + 1 := by simp
    have b1 := Blk.new none0 w [9, 2] #[.int .i64 0, .string ⟨#[]⟩, .int .i64 0, .slice none 0 0] 30 w.heap.size rfl
    have s1 := (Stp.refl [9] none0 w).alloc (r' := [9, 2]) (.cells #[.int .i64 0, .string ⟨#[]⟩, .int .i64 0, .slice none 0 0] 30) w.heap.size rfl
    have b2 := Blk.new (none0.put w.heap.size [9, 2]) _ [9, 1] #[.int .i64 6, .string ⟨#[]⟩, .int .i64 0, .slice none 0 0] 30 (w.heap.size + 1) h0.symm
    have s2 := s1.alloc (r' := [9, 1]) (.cells #[.int .i64 6, .string ⟨#[]⟩, .int .i64 0, .slice none 0 0] 30) (w.heap.size + 1) h0.symm
    exact ⟨0, _, _, Nat.zero_le _, rfl, b2, b1.alloc _ _ [9, 1] h0.symm, Row.nil _ _ _ _ _, s2⟩
  have HAT := Lib.hid hat
  clear hv h hcb hat
  go_enter Tryz.func109, Tryz.ntmps109
  go_wp2_with fail
  go_loopw [15] (fun i wr => MgRel w S now l i wr) (fun i _ => l.length - (intOf i).toNat)
  case atStart => exact HAT.out
  case round =>
    obtain ⟨k, v, o1, hk, rfl, hblk, hres, hrow, hst⟩ := hrel
    clear HAT hcc hcl
    by_cases hkl : k < l.length
    · obtain ⟨x, hx⟩ : ∃ x, l[k]? = some x := ⟨_, List.getElem?_eq_getElem hkl⟩
      have hB := hst.below0
      have hvr := HV.out.below hB
      obtain ⟨⟨a1, c1, e4, hc1, _, hcells⟩, _⟩ := hvr
      injection e4 with e5 e6 e7
      subst e5 e7
      rcases hcells with hcells | ⟨bv, ov, rfl, hbv, _, hcv⟩
      · omega
      have hcell : wr.cell? ⟨bv, ov + k, none⟩ = some (.string ⟨x.toArray⟩) := hcv k (txt x) (by rw [List.getElem?_map, hx]; rfl)
      obtain ⟨av, cav, rfl, _⟩ := id hrow.slice
      have hkI : (0 : Int) ≤ k ∧ (k : Int) < l.length := by omega
      have HTEXT := Lib.hid (HTX.out wr hB x)
      have HX := Lib.hid (show (l.take (k + 1)).map (oneF S now) = (l.take k).map (oneF S now) ++ [oneF S now x] by rw [List.take_add_one, hx]; simp)
      have HONE := Lib.hid (show oneF S now x = if S.is now x && !S.bad now x then ⟨4, S.txt now x, 0⟩ else ⟨5, [], 0⟩ from rfl)
      generalize oneF S now x = rf at HX HONE
      have HONE := HONE.out
      generalize S.txt now x = tx at *
      generalize S.is now x = ok at *
      generalize S.bad now x = wg at *
      have HBLK := Lib.hid hblk
      have HRES := Lib.hid hres
      have HROW := Lib.hid hrow
      have HST := Lib.hid hst
      have HEN := Lib.hid (show ∀ us w, (callFunc 187 us).run Tryz.prog w = .ok (.enter 187 us) w from enters_of Tryz.func187 (by kernel_rfl) rfl)
      obtain ⟨i0, hi0, hz0, hz1, hz2⟩ := info_parts infoRp
      clear hblk hres hrow hst hB hcv hx
      go_wp2_with fail
      refine HTEXT.out.mono ?_; rintro e w2 ⟨rfl, hB2⟩
      have hb2 := HBLK.out.below hB2
      have hld := hb2.cell 3
      have HBLK := Lib.hid hb2
      have HRES := Lib.hid (HRES.out.below hB2)
      have HROW := Lib.hid (HROW.out.below hB2)
      have HST := Lib.hid (HST.out.trans (Stp.ofBelow [9] o1 hB2))
      simp only [List.getElem?_toArray, List.getElem?_cons_succ, List.getElem?_cons_zero] at hld
      clear hB2 hb2 hcell HTEXT
      cases ok with
      | false =>
        have hold := lold_ok (World.drew w2) tx false
        simp only [Bool.false_eq_true, if_false] at hold
        unfold txt at hold
        have HOLD := Lib.hid hold
        simp only [Bool.false_and, Bool.false_eq_true, if_false] at HONE
        subst HONE
        clear hold
        go_wp2_with fail
        refine wp_region_any (by kernel_rfl) ?_
        change wpAny _ _ _ _ (12 + 1) _ _ (World.drew w2)
        refine wpAny_take (i := 0) (v := .pointer (some ⟨w.heap.size + 1, 3, none⟩)) rfl (by kernel_rfl) (by kernel_rfl) (by kernel_rfl) (fun _ _ _ h => h) (Or.inl ⟨by kernel_rfl, fun _ => by kernel_rfl⟩) ?_
        dsimp only [Act.put, List.setIfInBounds_toArray, List.set_cons_zero, List.set_cons_succ]
        refine wpAny_take (fuel := 11) (i := 2) (v := .string ⟨tx.toArray⟩) rfl (by kernel_rfl) (by kernel_rfl) (by kernel_rfl) (fun _ _ _ h => h) (Or.inl ⟨by kernel_rfl, fun _ => by kernel_rfl⟩) ?_
        dsimp only [Act.put, List.setIfInBounds_toArray, List.set_cons_zero, List.set_cons_succ]
        refine wpAny_take (fuel := 10) (i := 3) (v := .bool false) rfl (by kernel_rfl) (by kernel_rfl) (by kernel_rfl) (fun _ _ _ h => h) (Or.inl ⟨by kernel_rfl, fun _ => by kernel_rfl⟩) ?_
        dsimp only [Act.put, List.setIfInBounds_toArray, List.set_cons_zero, List.set_cons_succ]
        refine wpAny_take (fuel := 9) (i := 4) (v := .bool false) rfl (by kernel_rfl) (by kernel_rfl) (by kernel_rfl) (fun _ _ _ h => h) (Or.inl ⟨by kernel_rfl, fun _ => by kernel_rfl⟩) ?_
        dsimp only [Act.put, List.setIfInBounds_toArray, List.set_cons_zero, List.set_cons_succ]
        refine wpAny_take (fuel := 8) (i := 5) (v := undef) rfl (by kernel_rfl) (by kernel_rfl) (by kernel_rfl) (fun _ _ _ h => h) (Or.inr ⟨by kernel_rfl, rfl⟩) ?_
        dsimp only [Act.put, List.setIfInBounds_toArray, List.set_cons_zero, List.set_cons_succ]
        refine wpAny_take (fuel := 7) (i := 6) (v := undef) rfl (by kernel_rfl) (by kernel_rfl) (by kernel_rfl) (fun _ _ _ h => h) (Or.inr ⟨by kernel_rfl, rfl⟩) ?_
        dsimp only [Act.put, List.setIfInBounds_toArray, List.set_cons_zero, List.set_cons_succ]
        refine wpAny_take (fuel := 6) (i := 7) (v := .bool false) rfl (by kernel_rfl) (by kernel_rfl) (by kernel_rfl) (fun _ _ _ h => h) (Or.inl ⟨by kernel_rfl, fun _ => by kernel_rfl⟩) ?_
        dsimp only [Act.put, List.setIfInBounds_toArray, List.set_cons_zero, List.set_cons_succ]
        refine wpAny_ready (fuel := 5) (rs := [1, 8]) (by kernel_rfl) (by simp) (AllReady.cons rfl (fun K1 hK1 => ?_) (AllReady.cons rfl (fun K1 hK1 => ?_) AllReady.nil))
        · rw [if_pos (by kernel_rfl)]
          go_simp
          refine hK1 _ _ (wpAny_seq (k := 8) (by kernel_rfl) (by kernel_rfl) ?_)
          simp only [List.drop_succ_cons, List.drop_zero]
          go_wp2_with fail
          refine HOLD.out.mono ?_; rintro e w3 ⟨rfl, hB3⟩
          have hB3' : Below w2.heap.size w2 w3 := (Below.refl _ w2).drew.trans hB3
          have hld3 : w3.cell? ⟨w.heap.size + 1, 3, none⟩ = some (.slice av k cav) := (HBLK.out.below hB3').cell 3
          have hB4 := hB3'.alloc hB3'.size (.cells #[.int .i64 5, .string ⟨#[]⟩, .int .i64 0, .slice none 0 0] 30)
          have hld4 : (w3.alloc (.cells #[.int .i64 5, .string ⟨#[]⟩, .int .i64 0, .slice none 0 0] 30)).cell? ⟨w.heap.size + 1, 3, none⟩ = some (.slice av k cav) := (HBLK.out.below hB4).cell 3
          have HR4 := Lib.hid (HROW.out.below hB4)
          have HB4 := Lib.hid hB4
          have HSRC := Lib.hid ((vw_newE (w := w3) #[.int .i64 5, .string ⟨#[]⟩, .int .i64 0, .slice none 0 0] 30 4 rfl).src (P := Tryz.prog) Tryz.underlying28 (by intro u hu; simp at hu; rcases hu with rfl | rfl | rfl | rfl <;> rfl))
          have HM := Lib.hid (show k + 1 ≤ maxLen ∧ (k + 1) * 56 ≤ 140737488355328 from by unfold maxLen; omega)
          clear hB3 hB3' hB4
          go_wp2_with (first
            | (at_builtin
               refine wpList_app _ rfl _ _ 28 28 rfl 30 i0 _ 4 56 Tryz.underlying28 hi0 hz0 hz1 hz2 rfl rfl HR4.out rfl HSRC.out HM.out.1 HM.out.2 ?_
               intro v' w5 o5 hrow5 hst5
               obtain ⟨av5, cv5, rfl, _⟩ := id hrow5.slice
               have hbk5 := (HBLK.out.below HB4.out).keep hst5 (by decide)
               have hld5 : w5.cell? ⟨w.heap.size + 1, 3, none⟩ = some (.slice av k cav) := hbk5.cell 3
               have hfr5 := hbk5.free
               have hrs5 := (HRES.out.below HB4.out).keep hst5 (by decide)
               have hs5 := HST.out.trans ((Stp.ofBelow [9] o1 HB4.out).trans (hst5.wide (by decide)))
               have D := Lib.hid (show MgRel w S now l (.int .i64 ((k + 1 : Nat) : Int)) (w5.setCell ⟨w.heap.size + 1, 3, none⟩ (.slice av5 (k + 1) cv5)) from
                 ⟨k + 1, _, o5, hkl, rfl, hbk5.setCell 3 _, hrs5.setOther _ _ (by simp), by rw [HX.out, rfsC_app]; exact hrow5.setCell _ _ (by show o5 (w.heap.size + 1) ≠ _; rw [hbk5.role]; decide), hs5.setCell (by show [9] <+: o5 (w.heap.size + 1); rw [hbk5.role]; decide) _⟩)
               clear hrow5 hst5 hbk5 hrs5 hs5))
          go_roundw
          case rel => exact D.out
          case measure => simp [intOf]; omega
        · refine step_call (f := 187) rfl _ _ rfl (by rfl) HEN.out HOLD.out ?_
          rintro e w3 ⟨rfl, hB3⟩
          refine ⟨_, rfl, hK1 _ _ ?_⟩
          dsimp only [Act.put, List.setIfInBounds_toArray, List.set_cons_zero, List.set_cons_succ]
          have hB3' : Below w2.heap.size w2 w3 := (Below.refl _ w2).drew.trans hB3
          have hld3 : w3.cell? ⟨w.heap.size + 1, 3, none⟩ = some (.slice av k cav) := (HBLK.out.below hB3').cell 3
          have hB4 := hB3'.alloc hB3'.size (.cells #[.int .i64 5, .string ⟨#[]⟩, .int .i64 0, .slice none 0 0] 30)
          have hld4 : (w3.alloc (.cells #[.int .i64 5, .string ⟨#[]⟩, .int .i64 0, .slice none 0 0] 30)).cell? ⟨w.heap.size + 1, 3, none⟩ = some (.slice av k cav) := (HBLK.out.below hB4).cell 3
          have HR4 := Lib.hid (HROW.out.below hB4)
          have HB4 := Lib.hid hB4
          have HSRC := Lib.hid ((vw_newE (w := w3) #[.int .i64 5, .string ⟨#[]⟩, .int .i64 0, .slice none 0 0] 30 4 rfl).src (P := Tryz.prog) Tryz.underlying28 (by intro u hu; simp at hu; rcases hu with rfl | rfl | rfl | rfl <;> rfl))
          have HM := Lib.hid (show k + 1 ≤ maxLen ∧ (k + 1) * 56 ≤ 140737488355328 from by unfold maxLen; omega)
          clear hB3 hB3' hB4
          refine wpAny_ready (fuel := 4) (rs := [1, 9]) (by kernel_rfl) (by simp) (AllReady.cons rfl (fun K2 hK2 => ?_) (AllReady.cons rfl (fun K2 hK2 => ?_) AllReady.nil))
          · rw [if_pos (by kernel_rfl)]
            go_simp
            refine hK2 _ _ (wpAny_seq (k := 9) (by kernel_rfl) (by kernel_rfl) ?_)
            simp only [List.drop_succ_cons, List.drop_zero]
            go_wp2_with (first
              | (at_builtin
                 refine wpList_app _ rfl _ _ 28 28 rfl 30 i0 _ 4 56 Tryz.underlying28 hi0 hz0 hz1 hz2 rfl rfl HR4.out rfl HSRC.out HM.out.1 HM.out.2 ?_
                 intro v' w5 o5 hrow5 hst5
                 obtain ⟨av5, cv5, rfl, _⟩ := id hrow5.slice
                 have hbk5 := (HBLK.out.below HB4.out).keep hst5 (by decide)
                 have hld5 : w5.cell? ⟨w.heap.size + 1, 3, none⟩ = some (.slice av k cav) := hbk5.cell 3
                 have hfr5 := hbk5.free
                 have hrs5 := (HRES.out.below HB4.out).keep hst5 (by decide)
                 have hs5 := HST.out.trans ((Stp.ofBelow [9] o1 HB4.out).trans (hst5.wide (by decide)))
                 have D := Lib.hid (show MgRel w S now l (.int .i64 ((k + 1 : Nat) : Int)) (w5.setCell ⟨w.heap.size + 1, 3, none⟩ (.slice av5 (k + 1) cv5)) from
                   ⟨k + 1, _, o5, hkl, rfl, hbk5.setCell 3 _, hrs5.setOther _ _ (by simp), by rw [HX.out, rfsC_app]; exact hrow5.setCell _ _ (by show o5 (w.heap.size + 1) ≠ _; rw [hbk5.role]; decide), hs5.setCell (by show [9] <+: o5 (w.heap.size + 1); rw [hbk5.role]; decide) _⟩)
                 clear hrow5 hst5 hbk5 hrs5 hs5))
            go_roundw
            case rel => exact D.out
            case measure => simp [intOf]; omega
          · rw [if_pos (by kernel_rfl)]
            go_simp
            refine hK2 _ _ ?_
            refine wpAny_ready (fuel := 3) (rs := [1]) (by kernel_rfl) (by simp) (AllReady.cons rfl (fun K3 hK3 => ?_) AllReady.nil)
            rw [if_pos (by kernel_rfl)]
            go_simp
            refine hK3 _ _ (wpAny_seq (k := 10) (by kernel_rfl) (by kernel_rfl) ?_)
            simp only [List.drop_succ_cons, List.drop_zero]
            go_wp2_with (first
              | (at_builtin
                 refine wpList_app _ rfl _ _ 28 28 rfl 30 i0 _ 4 56 Tryz.underlying28 hi0 hz0 hz1 hz2 rfl rfl HR4.out rfl HSRC.out HM.out.1 HM.out.2 ?_
                 intro v' w5 o5 hrow5 hst5
                 obtain ⟨av5, cv5, rfl, _⟩ := id hrow5.slice
                 have hbk5 := (HBLK.out.below HB4.out).keep hst5 (by decide)
                 have hld5 : w5.cell? ⟨w.heap.size + 1, 3, none⟩ = some (.slice av k cav) := hbk5.cell 3
                 have hfr5 := hbk5.free
                 have hrs5 := (HRES.out.below HB4.out).keep hst5 (by decide)
                 have hs5 := HST.out.trans ((Stp.ofBelow [9] o1 HB4.out).trans (hst5.wide (by decide)))
                 have D := Lib.hid (show MgRel w S now l (.int .i64 ((k + 1 : Nat) : Int)) (w5.setCell ⟨w.heap.size + 1, 3, none⟩ (.slice av5 (k + 1) cv5)) from
                   ⟨k + 1, _, o5, hkl, rfl, hbk5.setCell 3 _, hrs5.setOther _ _ (by simp), by rw [HX.out, rfsC_app]; exact hrow5.setCell _ _ (by show o5 (w.heap.size + 1) ≠ _; rw [hbk5.role]; decide), hs5.setCell (by show [9] <+: o5 (w.heap.size + 1); rw [hbk5.role]; decide) _⟩)
                 clear hrow5 hst5 hbk5 hrs5 hs5))
            go_roundw
            case rel => exact D.out
            case measure => simp [intOf]; omega
      | true =>
        cases wg with
        | false =>
          have hold := lold_ok (World.drew w2) tx true
          simp only [if_true] at hold
          unfold txt at hold
          have HOLD := Lib.hid hold
          simp only [Bool.not_false, Bool.and_true, if_true] at HONE
          subst HONE
          clear hold
          go_wp2_with fail
          refine wp_region_any (by kernel_rfl) ?_
          change wpAny _ _ _ _ (12 + 1) _ _ (World.drew w2)
          refine wpAny_take (i := 0) (v := .pointer (some ⟨w.heap.size + 1, 3, none⟩)) rfl (by kernel_rfl) (by kernel_rfl) (by kernel_rfl) (fun _ _ _ h => h) (Or.inl ⟨by kernel_rfl, fun _ => by kernel_rfl⟩) ?_
          dsimp only [Act.put, List.setIfInBounds_toArray, List.set_cons_zero, List.set_cons_succ]
          refine wpAny_take (fuel := 11) (i := 2) (v := .string ⟨tx.toArray⟩) rfl (by kernel_rfl) (by kernel_rfl) (by kernel_rfl) (fun _ _ _ h => h) (Or.inl ⟨by kernel_rfl, fun _ => by kernel_rfl⟩) ?_
          dsimp only [Act.put, List.setIfInBounds_toArray, List.set_cons_zero, List.set_cons_succ]
          refine wpAny_take (fuel := 10) (i := 3) (v := .bool true) rfl (by kernel_rfl) (by kernel_rfl) (by kernel_rfl) (fun _ _ _ h => h) (Or.inl ⟨by kernel_rfl, fun _ => by kernel_rfl⟩) ?_
          dsimp only [Act.put, List.setIfInBounds_toArray, List.set_cons_zero, List.set_cons_succ]
          refine wpAny_take (fuel := 9) (i := 4) (v := .bool true) rfl (by kernel_rfl) (by kernel_rfl) (by kernel_rfl) (fun _ _ _ h => h) (Or.inl ⟨by kernel_rfl, fun _ => by kernel_rfl⟩) ?_
          dsimp only [Act.put, List.setIfInBounds_toArray, List.set_cons_zero, List.set_cons_succ]
          refine wpAny_take (fuel := 8) (i := 5) (v := .bool false) rfl (by kernel_rfl) (by kernel_rfl) (by kernel_rfl) (fun _ _ _ h => h) (Or.inl ⟨by kernel_rfl, fun _ => by kernel_rfl⟩) ?_
          dsimp only [Act.put, List.setIfInBounds_toArray, List.set_cons_zero, List.set_cons_succ]
          refine wpAny_take (fuel := 7) (i := 6) (v := .bool true) rfl (by kernel_rfl) (by kernel_rfl) (by kernel_rfl) (fun _ _ _ h => h) (Or.inl ⟨by kernel_rfl, fun _ => by kernel_rfl⟩) ?_
          dsimp only [Act.put, List.setIfInBounds_toArray, List.set_cons_zero, List.set_cons_succ]
          refine wpAny_take (fuel := 6) (i := 7) (v := .bool true) rfl (by kernel_rfl) (by kernel_rfl) (by kernel_rfl) (fun _ _ _ h => h) (Or.inl ⟨by kernel_rfl, fun _ => by kernel_rfl⟩) ?_
          dsimp only [Act.put, List.setIfInBounds_toArray, List.set_cons_zero, List.set_cons_succ]
          refine wpAny_ready (fuel := 5) (rs := [1, 8]) (by kernel_rfl) (by simp) (AllReady.cons rfl (fun K1 hK1 => ?_) (AllReady.cons rfl (fun K1 hK1 => ?_) AllReady.nil))
          · rw [if_pos (by kernel_rfl)]
            go_simp
            refine hK1 _ _ (wpAny_seq (k := 8) (by kernel_rfl) (by kernel_rfl) ?_)
            simp only [List.drop_succ_cons, List.drop_zero]
            go_wp2_with fail
            refine HOLD.out.mono ?_; rintro e w3 ⟨rfl, hB3⟩
            have hB3' : Below w2.heap.size w2 w3 := (Below.refl _ w2).drew.trans hB3
            have hld3 : w3.cell? ⟨w.heap.size + 1, 3, none⟩ = some (.slice av k cav) := (HBLK.out.below hB3').cell 3
            have hB4 := hB3'.alloc hB3'.size (.cells #[.int .i64 4, .string ⟨tx.toArray⟩, .int .i64 0, .slice none 0 0] 30)
            have hld4 : (w3.alloc (.cells #[.int .i64 4, .string ⟨tx.toArray⟩, .int .i64 0, .slice none 0 0] 30)).cell? ⟨w.heap.size + 1, 3, none⟩ = some (.slice av k cav) := (HBLK.out.below hB4).cell 3
            have HR4 := Lib.hid (HROW.out.below hB4)
            have HB4 := Lib.hid hB4
            have HSRC := Lib.hid ((vw_newE (w := w3) #[.int .i64 4, .string ⟨tx.toArray⟩, .int .i64 0, .slice none 0 0] 30 4 rfl).src (P := Tryz.prog) Tryz.underlying28 (by intro u hu; simp at hu; rcases hu with rfl | rfl | rfl | rfl <;> rfl))
            have HM := Lib.hid (show k + 1 ≤ maxLen ∧ (k + 1) * 56 ≤ 140737488355328 from by unfold maxLen; omega)
            clear hB3 hB3' hB4
            go_wp2_with (first
              | (at_builtin
                 refine wpList_app _ rfl _ _ 28 28 rfl 30 i0 _ 4 56 Tryz.underlying28 hi0 hz0 hz1 hz2 rfl rfl HR4.out rfl HSRC.out HM.out.1 HM.out.2 ?_
                 intro v' w5 o5 hrow5 hst5
                 obtain ⟨av5, cv5, rfl, _⟩ := id hrow5.slice
                 have hbk5 := (HBLK.out.below HB4.out).keep hst5 (by decide)
                 have hld5 : w5.cell? ⟨w.heap.size + 1, 3, none⟩ = some (.slice av k cav) := hbk5.cell 3
                 have hfr5 := hbk5.free
                 have hrs5 := (HRES.out.below HB4.out).keep hst5 (by decide)
                 have hs5 := HST.out.trans ((Stp.ofBelow [9] o1 HB4.out).trans (hst5.wide (by decide)))
                 have D := Lib.hid (show MgRel w S now l (.int .i64 ((k + 1 : Nat) : Int)) (w5.setCell ⟨w.heap.size + 1, 3, none⟩ (.slice av5 (k + 1) cv5)) from
                   ⟨k + 1, _, o5, hkl, rfl, hbk5.setCell 3 _, hrs5.setOther _ _ (by simp), by rw [HX.out, rfsC_app]; exact hrow5.setCell _ _ (by show o5 (w.heap.size + 1) ≠ _; rw [hbk5.role]; decide), hs5.setCell (by show [9] <+: o5 (w.heap.size + 1); rw [hbk5.role]; decide) _⟩)
                 clear hrow5 hst5 hbk5 hrs5 hs5))
            go_roundw
            case rel => exact D.out
            case measure => simp [intOf]; omega
          · refine step_call (f := 187) rfl _ _ rfl (by rfl) HEN.out HOLD.out ?_
            rintro e w3 ⟨rfl, hB3⟩
            refine ⟨_, rfl, hK1 _ _ ?_⟩
            dsimp only [Act.put, List.setIfInBounds_toArray, List.set_cons_zero, List.set_cons_succ]
            have hB3' : Below w2.heap.size w2 w3 := (Below.refl _ w2).drew.trans hB3
            have hld3 : w3.cell? ⟨w.heap.size + 1, 3, none⟩ = some (.slice av k cav) := (HBLK.out.below hB3').cell 3
            have hB4 := hB3'.alloc hB3'.size (.cells #[.int .i64 4, .string ⟨tx.toArray⟩, .int .i64 0, .slice none 0 0] 30)
            have hld4 : (w3.alloc (.cells #[.int .i64 4, .string ⟨tx.toArray⟩, .int .i64 0, .slice none 0 0] 30)).cell? ⟨w.heap.size + 1, 3, none⟩ = some (.slice av k cav) := (HBLK.out.below hB4).cell 3
            have HR4 := Lib.hid (HROW.out.below hB4)
            have HB4 := Lib.hid hB4
            have HSRC := Lib.hid ((vw_newE (w := w3) #[.int .i64 4, .string ⟨tx.toArray⟩, .int .i64 0, .slice none 0 0] 30 4 rfl).src (P := Tryz.prog) Tryz.underlying28 (by intro u hu; simp at hu; rcases hu with rfl | rfl | rfl | rfl <;> rfl))
            have HM := Lib.hid (show k + 1 ≤ maxLen ∧ (k + 1) * 56 ≤ 140737488355328 from by unfold maxLen; omega)
            clear hB3 hB3' hB4
            refine wpAny_ready (fuel := 4) (rs := [1, 9]) (by kernel_rfl) (by simp) (AllReady.cons rfl (fun K2 hK2 => ?_) (AllReady.cons rfl (fun K2 hK2 => ?_) AllReady.nil))
            · rw [if_pos (by kernel_rfl)]
              go_simp
              refine hK2 _ _ (wpAny_seq (k := 9) (by kernel_rfl) (by kernel_rfl) ?_)
              simp only [List.drop_succ_cons, List.drop_zero]
              go_wp2_with (first
                | (at_builtin
                   refine wpList_app _ rfl _ _ 28 28 rfl 30 i0 _ 4 56 Tryz.underlying28 hi0 hz0 hz1 hz2 rfl rfl HR4.out rfl HSRC.out HM.out.1 HM.out.2 ?_
                   intro v' w5 o5 hrow5 hst5
                   obtain ⟨av5, cv5, rfl, _⟩ := id hrow5.slice
                   have hbk5 := (HBLK.out.below HB4.out).keep hst5 (by decide)
                   have hld5 : w5.cell? ⟨w.heap.size + 1, 3, none⟩ = some (.slice av k cav) := hbk5.cell 3
                   have hfr5 := hbk5.free
                   have hrs5 := (HRES.out.below HB4.out).keep hst5 (by decide)
                   have hs5 := HST.out.trans ((Stp.ofBelow [9] o1 HB4.out).trans (hst5.wide (by decide)))
                   have D := Lib.hid (show MgRel w S now l (.int .i64 ((k + 1 : Nat) : Int)) (w5.setCell ⟨w.heap.size + 1, 3, none⟩ (.slice av5 (k + 1) cv5)) from
                     ⟨k + 1, _, o5, hkl, rfl, hbk5.setCell 3 _, hrs5.setOther _ _ (by simp), by rw [HX.out, rfsC_app]; exact hrow5.setCell _ _ (by show o5 (w.heap.size + 1) ≠ _; rw [hbk5.role]; decide), hs5.setCell (by show [9] <+: o5 (w.heap.size + 1); rw [hbk5.role]; decide) _⟩)
                   clear hrow5 hst5 hbk5 hrs5 hs5))
              go_roundw
              case rel => exact D.out
              case measure => simp [intOf]; omega
            · rw [if_pos (by kernel_rfl)]
              go_simp
              refine hK2 _ _ ?_
              refine wpAny_ready (fuel := 3) (rs := [1]) (by kernel_rfl) (by simp) (AllReady.cons rfl (fun K3 hK3 => ?_) AllReady.nil)
              rw [if_pos (by kernel_rfl)]
              go_simp
              refine hK3 _ _ (wpAny_seq (k := 10) (by kernel_rfl) (by kernel_rfl) ?_)
              simp only [List.drop_succ_cons, List.drop_zero]
              go_wp2_with (first
                | (at_builtin
                   refine wpList_app _ rfl _ _ 28 28 rfl 30 i0 _ 4 56 Tryz.underlying28 hi0 hz0 hz1 hz2 rfl rfl HR4.out rfl HSRC.out HM.out.1 HM.out.2 ?_
                   intro v' w5 o5 hrow5 hst5
                   obtain ⟨av5, cv5, rfl, _⟩ := id hrow5.slice
                   have hbk5 := (HBLK.out.below HB4.out).keep hst5 (by decide)
                   have hld5 : w5.cell? ⟨w.heap.size + 1, 3, none⟩ = some (.slice av k cav) := hbk5.cell 3
                   have hfr5 := hbk5.free
                   have hrs5 := (HRES.out.below HB4.out).keep hst5 (by decide)
                   have hs5 := HST.out.trans ((Stp.ofBelow [9] o1 HB4.out).trans (hst5.wide (by decide)))
                   have D := Lib.hid (show MgRel w S now l (.int .i64 ((k + 1 : Nat) : Int)) (w5.setCell ⟨w.heap.size + 1, 3, none⟩ (.slice av5 (k + 1) cv5)) from
                     ⟨k + 1, _, o5, hkl, rfl, hbk5.setCell 3 _, hrs5.setOther _ _ (by simp), by rw [HX.out, rfsC_app]; exact hrow5.setCell _ _ (by show o5 (w.heap.size + 1) ≠ _; rw [hbk5.role]; decide), hs5.setCell (by show [9] <+: o5 (w.heap.size + 1); rw [hbk5.role]; decide) _⟩)
                   clear hrow5 hst5 hbk5 hrs5 hs5))
              go_roundw
              case rel => exact D.out
              case measure => simp [intOf]; omega
        | true =>
          have hold := lold_ok (World.drew w2) tx false
          simp only [Bool.false_eq_true, if_false] at hold
          unfold txt at hold
          have HOLD := Lib.hid hold
          simp only [Bool.not_true, Bool.and_false, Bool.false_eq_true, if_false] at HONE
          subst HONE
          clear hold
          go_wp2_with fail
          refine wp_region_any (by kernel_rfl) ?_
          change wpAny _ _ _ _ (12 + 1) _ _ (World.drew w2)
          refine wpAny_take (i := 0) (v := .pointer (some ⟨w.heap.size + 1, 3, none⟩)) rfl (by kernel_rfl) (by kernel_rfl) (by kernel_rfl) (fun _ _ _ h => h) (Or.inl ⟨by kernel_rfl, fun _ => by kernel_rfl⟩) ?_
          dsimp only [Act.put, List.setIfInBounds_toArray, List.set_cons_zero, List.set_cons_succ]
          refine wpAny_take (fuel := 11) (i := 2) (v := .string ⟨tx.toArray⟩) rfl (by kernel_rfl) (by kernel_rfl) (by kernel_rfl) (fun _ _ _ h => h) (Or.inl ⟨by kernel_rfl, fun _ => by kernel_rfl⟩) ?_
          dsimp only [Act.put, List.setIfInBounds_toArray, List.set_cons_zero, List.set_cons_succ]
          refine wpAny_take (fuel := 10) (i := 3) (v := .bool true) rfl (by kernel_rfl) (by kernel_rfl) (by kernel_rfl) (fun _ _ _ h => h) (Or.inl ⟨by kernel_rfl, fun _ => by kernel_rfl⟩) ?_
          dsimp only [Act.put, List.setIfInBounds_toArray, List.set_cons_zero, List.set_cons_succ]
          refine wpAny_take (fuel := 9) (i := 4) (v := .bool true) rfl (by kernel_rfl) (by kernel_rfl) (by kernel_rfl) (fun _ _ _ h => h) (Or.inl ⟨by kernel_rfl, fun _ => by kernel_rfl⟩) ?_
          dsimp only [Act.put, List.setIfInBounds_toArray, List.set_cons_zero, List.set_cons_succ]
          refine wpAny_take (fuel := 8) (i := 5) (v := .bool true) rfl (by kernel_rfl) (by kernel_rfl) (by kernel_rfl) (fun _ _ _ h => h) (Or.inl ⟨by kernel_rfl, fun _ => by kernel_rfl⟩) ?_
          dsimp only [Act.put, List.setIfInBounds_toArray, List.set_cons_zero, List.set_cons_succ]
          refine wpAny_take (fuel := 7) (i := 6) (v := .bool false) rfl (by kernel_rfl) (by kernel_rfl) (by kernel_rfl) (fun _ _ _ h => h) (Or.inl ⟨by kernel_rfl, fun _ => by kernel_rfl⟩) ?_
          dsimp only [Act.put, List.setIfInBounds_toArray, List.set_cons_zero, List.set_cons_succ]
          refine wpAny_take (fuel := 6) (i := 7) (v := .bool false) rfl (by kernel_rfl) (by kernel_rfl) (by kernel_rfl) (fun _ _ _ h => h) (Or.inl ⟨by kernel_rfl, fun _ => by kernel_rfl⟩) ?_
          dsimp only [Act.put, List.setIfInBounds_toArray, List.set_cons_zero, List.set_cons_succ]
          refine wpAny_ready (fuel := 5) (rs := [1, 8]) (by kernel_rfl) (by simp) (AllReady.cons rfl (fun K1 hK1 => ?_) (AllReady.cons rfl (fun K1 hK1 => ?_) AllReady.nil))
          · rw [if_pos (by kernel_rfl)]
            go_simp
            refine hK1 _ _ (wpAny_seq (k := 8) (by kernel_rfl) (by kernel_rfl) ?_)
            simp only [List.drop_succ_cons, List.drop_zero]
            go_wp2_with fail
            refine HOLD.out.mono ?_; rintro e w3 ⟨rfl, hB3⟩
            have hB3' : Below w2.heap.size w2 w3 := (Below.refl _ w2).drew.trans hB3
            have hld3 : w3.cell? ⟨w.heap.size + 1, 3, none⟩ = some (.slice av k cav) := (HBLK.out.below hB3').cell 3
            have hB4 := hB3'.alloc hB3'.size (.cells #[.int .i64 5, .string ⟨#[]⟩, .int .i64 0, .slice none 0 0] 30)
            have hld4 : (w3.alloc (.cells #[.int .i64 5, .string ⟨#[]⟩, .int .i64 0, .slice none 0 0] 30)).cell? ⟨w.heap.size + 1, 3, none⟩ = some (.slice av k cav) := (HBLK.out.below hB4).cell 3
            have HR4 := Lib.hid (HROW.out.below hB4)
            have HB4 := Lib.hid hB4
            have HSRC := Lib.hid ((vw_newE (w := w3) #[.int .i64 5, .string ⟨#[]⟩, .int .i64 0, .slice none 0 0] 30 4 rfl).src (P := Tryz.prog) Tryz.underlying28 (by intro u hu; simp at hu; rcases hu with rfl | rfl | rfl | rfl <;> rfl))
            have HM := Lib.hid (show k + 1 ≤ maxLen ∧ (k + 1) * 56 ≤ 140737488355328 from by unfold maxLen; omega)
            clear hB3 hB3' hB4
            go_wp2_with (first
              | (at_builtin
                 refine wpList_app _ rfl _ _ 28 28 rfl 30 i0 _ 4 56 Tryz.underlying28 hi0 hz0 hz1 hz2 rfl rfl HR4.out rfl HSRC.out HM.out.1 HM.out.2 ?_
                 intro v' w5 o5 hrow5 hst5
                 obtain ⟨av5, cv5, rfl, _⟩ := id hrow5.slice
                 have hbk5 := (HBLK.out.below HB4.out).keep hst5 (by decide)
                 have hld5 : w5.cell? ⟨w.heap.size + 1, 3, none⟩ = some (.slice av k cav) := hbk5.cell 3
                 have hfr5 := hbk5.free
                 have hrs5 := (HRES.out.below HB4.out).keep hst5 (by decide)
                 have hs5 := HST.out.trans ((Stp.ofBelow [9] o1 HB4.out).trans (hst5.wide (by decide)))
                 have D := Lib.hid (show MgRel w S now l (.int .i64 ((k + 1 : Nat) : Int)) (w5.setCell ⟨w.heap.size + 1, 3, none⟩ (.slice av5 (k + 1) cv5)) from
                   ⟨k + 1, _, o5, hkl, rfl, hbk5.setCell 3 _, hrs5.setOther _ _ (by simp), by rw [HX.out, rfsC_app]; exact hrow5.setCell _ _ (by show o5 (w.heap.size + 1) ≠ _; rw [hbk5.role]; decide), hs5.setCell (by show [9] <+: o5 (w.heap.size + 1); rw [hbk5.role]; decide) _⟩)
                 clear hrow5 hst5 hbk5 hrs5 hs5))
            go_roundw
            case rel => exact D.out
            case measure => simp [intOf]; omega
          · refine step_call (f := 187) rfl _ _ rfl (by rfl) HEN.out HOLD.out ?_
            rintro e w3 ⟨rfl, hB3⟩
            refine ⟨_, rfl, hK1 _ _ ?_⟩
            dsimp only [Act.put, List.setIfInBounds_toArray, List.set_cons_zero, List.set_cons_succ]
            have hB3' : Below w2.heap.size w2 w3 := (Below.refl _ w2).drew.trans hB3
            have hld3 : w3.cell? ⟨w.heap.size + 1, 3, none⟩ = some (.slice av k cav) := (HBLK.out.below hB3').cell 3
            have hB4 := hB3'.alloc hB3'.size (.cells #[.int .i64 5, .string ⟨#[]⟩, .int .i64 0, .slice none 0 0] 30)
            have hld4 : (w3.alloc (.cells #[.int .i64 5, .string ⟨#[]⟩, .int .i64 0, .slice none 0 0] 30)).cell? ⟨w.heap.size + 1, 3, none⟩ = some (.slice av k cav) := (HBLK.out.below hB4).cell 3
            have HR4 := Lib.hid (HROW.out.below hB4)
            have HB4 := Lib.hid hB4
            have HSRC := Lib.hid ((vw_newE (w := w3) #[.int .i64 5, .string ⟨#[]⟩, .int .i64 0, .slice none 0 0] 30 4 rfl).src (P := Tryz.prog) Tryz.underlying28 (by intro u hu; simp at hu; rcases hu with rfl | rfl | rfl | rfl <;> rfl))
            have HM := Lib.hid (show k + 1 ≤ maxLen ∧ (k + 1) * 56 ≤ 140737488355328 from by unfold maxLen; omega)
            clear hB3 hB3' hB4
            refine wpAny_ready (fuel := 4) (rs := [1, 9]) (by kernel_rfl) (by simp) (AllReady.cons rfl (fun K2 hK2 => ?_) (AllReady.cons rfl (fun K2 hK2 => ?_) AllReady.nil))
            · rw [if_pos (by kernel_rfl)]
              go_simp
              refine hK2 _ _ (wpAny_seq (k := 9) (by kernel_rfl) (by kernel_rfl) ?_)
              simp only [List.drop_succ_cons, List.drop_zero]
              go_wp2_with (first
                | (at_builtin
                   refine wpList_app _ rfl _ _ 28 28 rfl 30 i0 _ 4 56 Tryz.underlying28 hi0 hz0 hz1 hz2 rfl rfl HR4.out rfl HSRC.out HM.out.1 HM.out.2 ?_
                   intro v' w5 o5 hrow5 hst5
                   obtain ⟨av5, cv5, rfl, _⟩ := id hrow5.slice
                   have hbk5 := (HBLK.out.below HB4.out).keep hst5 (by decide)
                   have hld5 : w5.cell? ⟨w.heap.size + 1, 3, none⟩ = some (.slice av k cav) := hbk5.cell 3
                   have hfr5 := hbk5.free
                   have hrs5 := (HRES.out.below HB4.out).keep hst5 (by decide)
                   have hs5 := HST.out.trans ((Stp.ofBelow [9] o1 HB4.out).trans (hst5.wide (by decide)))
                   have D := Lib.hid (show MgRel w S now l (.int .i64 ((k + 1 : Nat) : Int)) (w5.setCell ⟨w.heap.size + 1, 3, none⟩ (.slice av5 (k + 1) cv5)) from
                     ⟨k + 1, _, o5, hkl, rfl, hbk5.setCell 3 _, hrs5.setOther _ _ (by simp), by rw [HX.out, rfsC_app]; exact hrow5.setCell _ _ (by show o5 (w.heap.size + 1) ≠ _; rw [hbk5.role]; decide), hs5.setCell (by show [9] <+: o5 (w.heap.size + 1); rw [hbk5.role]; decide) _⟩)
                   clear hrow5 hst5 hbk5 hrs5 hs5))
              go_roundw
              case rel => exact D.out
              case measure => simp [intOf]; omega
            · rw [if_pos (by kernel_rfl)]
              go_simp
              refine hK2 _ _ ?_
              refine wpAny_ready (fuel := 3) (rs := [1]) (by kernel_rfl) (by simp) (AllReady.cons rfl (fun K3 hK3 => ?_) AllReady.nil)
              rw [if_pos (by kernel_rfl)]
              go_simp
              refine hK3 _ _ (wpAny_seq (k := 10) (by kernel_rfl) (by kernel_rfl) ?_)
              simp only [List.drop_succ_cons, List.drop_zero]
              go_wp2_with (first
                | (at_builtin
                   refine wpList_app _ rfl _ _ 28 28 rfl 30 i0 _ 4 56 Tryz.underlying28 hi0 hz0 hz1 hz2 rfl rfl HR4.out rfl HSRC.out HM.out.1 HM.out.2 ?_
                   intro v' w5 o5 hrow5 hst5
                   obtain ⟨av5, cv5, rfl, _⟩ := id hrow5.slice
                   have hbk5 := (HBLK.out.below HB4.out).keep hst5 (by decide)
                   have hld5 : w5.cell? ⟨w.heap.size + 1, 3, none⟩ = some (.slice av k cav) := hbk5.cell 3
                   have hfr5 := hbk5.free
                   have hrs5 := (HRES.out.below HB4.out).keep hst5 (by decide)
                   have hs5 := HST.out.trans ((Stp.ofBelow [9] o1 HB4.out).trans (hst5.wide (by decide)))
                   have D := Lib.hid (show MgRel w S now l (.int .i64 ((k + 1 : Nat) : Int)) (w5.setCell ⟨w.heap.size + 1, 3, none⟩ (.slice av5 (k + 1) cv5)) from
                     ⟨k + 1, _, o5, hkl, rfl, hbk5.setCell 3 _, hrs5.setOther _ _ (by simp), by rw [HX.out, rfsC_app]; exact hrow5.setCell _ _ (by show o5 (w.heap.size + 1) ≠ _; rw [hbk5.role]; decide), hs5.setCell (by show [9] <+: o5 (w.heap.size + 1); rw [hbk5.role]; decide) _⟩)
                   clear hrow5 hst5 hbk5 hrs5 hs5))
              go_roundw
              case rel => exact D.out
              case measure => simp [intOf]; omega
    · obtain rfl : k = l.length := by omega
      obtain ⟨av, cav, rfl, _⟩ := id hrow.slice
      have hb := hblk.cell
      have hr := hres.cell
      have hrf := hres.free
      rw [List.take_length] at hrow
      have HD := Lib.hid hrow
      have HBL := Lib.hid hblk
      have HRS := Lib.hid hres
      have HST := Lib.hid hst
      clear hblk hres hrow hst HV HTX
      go_wp2_with fail
      have h0 := HRS.out.role
      have hfr : Fresh w ((((wr.setCell ⟨w.heap.size, 0, none⟩ (.int .i64 6)).setCell ⟨w.heap.size, 1, none⟩ (.string ⟨#[]⟩)).setCell ⟨w.heap.size, 2, none⟩ (.int .i64 0)).setCell ⟨w.heap.size, 3, none⟩ (.slice av l.length cav)) 30 4 (.slice av l.length cav) l.length (rfsC (l.map (oneF S now))) := by
        refine Row.fresh2 (o' := o1) (r := [9, 0]) (a := 9) (t := []) ?_ (by decide) ?_
        · iterate 4 refine Row.setCell ?_ _ _ (by show o1 w.heap.size ≠ _; rw [h0]; decide)
          exact HD.out
        · iterate 4 refine Stp.setCell ?_ (by show [9] <+: o1 w.heap.size; rw [h0]; decide) _
          exact HST.out
      exact bodyPost_ret (v := repV 6 [] 0 (.slice av l.length cav)) (by simp [results, Tryz.results109, go_sem, hr]) rfl ⟨_, rfl, by rw [List.length_map]; exact hfr.vw, hfr.below⟩
end
end Go.Proofs.YthojmgjgmbnopaaGreatDoor
