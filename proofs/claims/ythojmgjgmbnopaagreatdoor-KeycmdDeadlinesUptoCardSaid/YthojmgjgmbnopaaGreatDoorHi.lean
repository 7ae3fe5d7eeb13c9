import Derived.Test.YthojmgjgmbnopaaGreatDoorHh
import Derived.ScopeJumps
import Derived.Deep.RegionHeld
namespace Go.Proofs.YthojmgjgmbnopaaGreatDoor
open Go Go.RowKit
/-! keycmd's expire: a flag refuses it. -/
section
variable {o : Roles} {w : World} {q : List Nat} {p : Nat} {c : Cnt} {S : SP} {cb : Nat} {ρ : List Nat} {now : Int} {sv : Value} {nm : Tx}

/-- The frame at the label, behind one flag. -/
def expFrame (cb R : Nat) (n at_ : Int) (nx gt lt : Bool) (x : Nat → Value) : Act := { tmps := List.toArray (.pointer (some ⟨cb, 0, none⟩) :: x 1 :: .pointer (some ⟨R, 0, none⟩) :: .int .i64 n :: x 4 :: .int .i64 at_ :: x 6 :: .bool nx :: .bool false :: .bool gt :: .bool lt :: .int .i64 3 :: x 12 :: x 13 :: x 14 :: x 15 :: x 16 :: x 17 :: x 18 :: x 19 :: x 20 :: x 21 :: x 22 :: x 23 :: x 24 :: x 25 :: x 26 :: x 27 :: x 28 :: x 29 :: x 30 :: x 31 :: x 32 :: x 33 :: x 34 :: x 35 :: x 36 :: x 37 :: x 38 :: x 39 :: x 40 :: x 41 :: x 42 :: x 43 :: x 44 :: x 45 :: x 46 :: x 47 :: x 48 :: x 49 :: x 50 :: x 51 :: x 52 :: x 53 :: x 54 :: x 55 :: x 56 :: x 57 :: x 58 :: x 59 :: x 60 :: x 61 :: x 62 :: x 63 :: x 64 :: x 65 :: x 66 :: x 67 :: x 68 :: x 69 :: x 70 :: x 71 :: x 72 :: x 73 :: x 74 :: x 75 :: x 76 :: x 77 :: x 78 :: x 79 :: x 80 :: x 81 :: x 82 :: x 83 :: x 84 :: x 85 :: x 86 :: x 87 :: x 88 :: x 89 :: x 90 :: x 91 :: x 92 :: x 93 :: x 94 :: x 95 :: x 96 :: x 97 :: x 98 :: x 99 :: x 100 :: x 101 :: x 102 :: x 103 :: x 104 :: x 105 :: x 106 :: x 107 :: x 108 :: x 109 :: x 110 :: x 111 :: x 112 :: x 113 :: x 114 :: x 115 :: x 116 :: x 117 :: x 118 :: x 119 :: x 120 :: x 121 :: x 122 :: x 123 :: x 124 :: x 125 :: x 126 :: x 127 :: x 128 :: x 129 :: x 130 :: x 131 :: x 132 :: x 133 :: x 134 :: x 135 :: x 136 :: x 137 :: x 138 :: x 139 :: x 140 :: x 141 :: x 142 :: x 143 :: x 144 :: x 145 :: x 146 :: x 147 :: x 148 :: x 149 :: x 150 :: x 151 :: x 152 :: x 153 :: x 154 :: x 155 :: x 156 :: x 157 :: x 158 :: x 159 :: []), defers := [] }
theorem frame_intro {A : Act} {W W0 : World} {cb R : Nat} {n at_ : Int} {nx gt lt : Bool} (h : A = expFrame cb R n at_ nx gt lt (fun i => A.tmps.getD i undef)) (hB : Below W0.heap.size W0 W) : ∃ x : Nat → Value, A = expFrame cb R n at_ nx gt lt x ∧ Below W0.heap.size W0 W := ⟨_, h, hB⟩
set_option maxRecDepth 10000 in
set_option maxHeartbeats 20000000 in
theorem kexp_refused (h : SpJ o w q p S c) (hq : q ≠ []) (hTb : Tbl w) {k y fl : Tx} (hcb : Blk o w ρ cb (callC p now nm sv) 112)
    (hv : Vw (Old w) w sv 1 3 ([k, y, fl].map txt)) (hfl : fl = [71, 84] ∨ fl = [76, 84] ∨ fl = [78, 88]) {n at_ : Int} (hy : parseN y = some n) (hyl : y.length ≤ 1099511627776) (hd : DeadIs nm now n at_) {H : Hd} (hS : S.at now k = some H) (hdue : H.due = at_) (h0 : at_ ≠ 0) :
    Calls Tryz.prog 66 #[.pointer (some ⟨cb, 0, none⟩)] w (RepJ o w q p S c ⟨3, [], 0⟩) := by
  obtain ⟨o1, m1, hbg, hj⟩ := begin_roles h hq
  have hfr0 := Fj.begin hbg hj hcb
  have hcc := hcb.cell
  have hcl := hcb.lt
  obtain ⟨a0, cap, rfl, hcap, _, _⟩ := id hv.slice
  obtain ⟨b, off, rfl, hbl, hcap, hg⟩ := vw_get hv (by omega)
  replace hbl : b < w.heap.size := hbl
  have hk0 := hg 0 k rfl
  have hk1 := hg 1 y rfl
  have hk2 := hg 2 fl rfl
  rw [Nat.add_zero] at hk0
  have hcapI : (3 : Int) ≤ (cap : Int) := by omega
  have hb0 : (w.alloc (.cells zRepC 30)).cell? ⟨b, off, none⟩ = some (.string ⟨k.toArray⟩) := cell_below hbg.res.2 hk0
  have hb1 : (w.alloc (.cells zRepC 30)).cell? ⟨b, off + 1, none⟩ = some (.string ⟨y.toArray⟩) := cell_below hbg.res.2 hk1
  have hb2 : (w.alloc (.cells zRepC 30)).cell? ⟨b, off + 2, none⟩ = some (.string ⟨fl.toArray⟩) := cell_below hbg.res.2 hk2
  have hp1 := parse_ok (hTb.below hbg.res.2) y hyl
  unfold ParseDid at hp1
  rw [hy] at hp1
  simp only [Option.getD_some, Option.isSome_some, if_true] at hp1
  have HF := Lib.hid hfr0
  have HPA := Lib.hid hp1
  have HBG := Lib.hid hbg
  have HDD := Lib.hid (fun (W : World) (hW : Blk o1 W ρ cb (callC p now nm (.slice (some ⟨b, off, none⟩) 3 cap)) 112) => kdead_ok hW hd)
  have HCB := Lib.hid (fun (W : World) (hB : Below (w.alloc (.cells zRepC 30)).heap.size (w.alloc (.cells zRepC 30)) W) => And.intro (cell_below hB hb0) (And.intro (cell_below hB hb1) (cell_below hB hb2)))

  have HDU0 := Lib.hid (fun (W : World) (hj2 : SpJ o1 W q p S c) => jdue_ok hj2 k now)
  unfold DueDid at HDU0
  rw [hS] at HDU0
  simp only [Option.getD_some, Option.isSome_some, hdue] at HDU0
  have HLO := Lib.hid (fun W => lower_ok fl W (by rcases hfl with rfl | rfl | rfl <;> decide))
  have z0 : (at_ == 0) = false := beq_eq_false_iff_ne.2 h0
  clear h hcb hv hbg hj hfr0 hg hTb hy hp1 hd hS hdue hk0 hk1 hk2
  unfold txt at HPA HDU0 HLO
  rcases hfl with rfl | rfl | rfl
  · rw [show lowL [71, 84] = [103, 116] by decide] at HLO
    go_enter Tryz.func66, Tryz.ntmps66
    go_wp2_with fail
    refine wp_scope_jumps 0 (fun a W => ∃ x : Nat → Value, a = expFrame cb w.heap.size n at_ false true false x ∧ Below (w.alloc (.cells zRepC 30)).heap.size (w.alloc (.cells zRepC 30)) W) (fun _ _ => 0) rfl ?_ ?_
    · go_wp2_with fail
      refine HPA.out.mono ?_; rintro e w3 ⟨rfl, hB3⟩
      have hf3 := HF.out.below hB3
      have hcc3 := hf3.call.cell
      obtain ⟨e30, e31, e32⟩ := HCB.out w3 hB3
      have HD3 := Lib.hid (HDD.out w3 hf3.call)
      have HB3 := Lib.hid hB3
      clear hB3 hf3 HPA HF hcc hb0 hb1 hb2 HCB HDD HDU0
      go_wp2_with fail
      refine HD3.out.mono ?_; rintro e w4 ⟨rfl, hw4⟩
      subst hw4
      go_wp2_with fail
      go_step3
      go_wp2_with fail
      refine (HLO.out _).mono ?_; rintro e w5 ⟨rfl, hB5⟩
      have HB5 := Lib.hid (HB3.out.trans (hB5.mono HB3.out.size))
      clear hB5 HLO HB3
      go_wp2_with fail
      go_step3
      exact ⟨rfl, frame_intro rfl HB5.out⟩
    · intro ax W5 hJ
      obtain ⟨x, rfl, hB5⟩ := hJ
      have hf5 := HF.out.below hB5
      have hcc5 := hf5.call.cell
      obtain ⟨e50, e51, e52⟩ := HCB.out W5 hB5
      have HC5 := Lib.hid (fun (W : World) (hW : Below W5.heap.size W5 W) => show W.cell? ⟨cb, 0, none⟩ = some (.pointer (some ⟨p, 0, none⟩)) ∧ W.cell? ⟨cb, 1, none⟩ = some (.int .i64 now) from ⟨(hf5.call.below hW).cell 0, (hf5.call.below hW).cell 1⟩)
      have HDU := Lib.hid (fun (W : World) (hW : Below W5.heap.size W5 W) => HDU0.out W (hf5.sp.below hW))
      have HF3 := Lib.hid hf5
      clear hB5 hf5 HPA HF hcc hb0 hb1 hb2 HCB HDD HDU0 HLO
      unfold expFrame
      go_wp2_with fail
      go_region_held (fun W => W.cell? ⟨cb, 0, none⟩ = some (.pointer (some ⟨p, 0, none⟩)) ∧ W.cell? ⟨cb, 1, none⟩ = some (.int .i64 now))
        (first | (refine HC5.out _ ?_ <;> (repeat (first | exact Below.refl _ _ | refine Below.drew ?_ | refine below_drewN ?_ _ | refine Below.alloc ?_ (by first | exact Nat.le_refl _ | simp | (simp; omega)) _)) <;> done) | (refine HC5.out _ (HB6.out.trans (Below.mono ?_ HB6.out.size)) <;> (repeat (first | exact Below.refl _ _ | refine Below.drew ?_ | refine below_drewN ?_ _ | refine Below.alloc ?_ (by first | exact Nat.le_refl _ | simp | (simp; omega)) _)) <;> done)) (first
        | (go_at_call 20
           (with_reducible refine (HDU.out _ (by (repeat (first | exact Below.refl _ _ | refine Below.drew ?_ | refine below_drewN ?_ _ | refine Below.alloc ?_ (by first | exact Nat.le_refl _ | simp | (simp; omega)) _)); done)).mono ?_)
           rintro e w6 ⟨rfl, hB6⟩
           have HB6 := Lib.hid (show Below W5.heap.size W5 w6 from Below.trans (by (repeat (first | exact Below.refl _ _ | refine Below.drew ?_ | refine below_drewN ?_ _ | refine Below.alloc ?_ (by first | exact Nat.le_refl _ | simp | (simp; omega)) _)); done) (hB6.mono (by simp)))
           have hf6 := HF3.out.below HB6.out
           have hcj := hf6.call.cell
           have HF6 := Lib.hid hf6
           clear hB6 hf6))
      all_goals (
        clear HDU HC5 HF3
        go_wp2_with fail
        refine (kint_ok _ _).mono ?_; rintro e w8 ⟨rfl, hB8⟩
        have hf8 := (HF6.out.below (by (repeat (first | exact Below.refl _ _ | refine Below.drew ?_ | refine below_drewN ?_ _ | refine Below.alloc ?_ (by first | exact Nat.le_refl _ | simp | (simp; omega)) _)); done)).below hB8
        have HF8 := Lib.hid hf8
        have hrc := hf8.res.cell
        have hrf := hf8.res.free
        clear hB8 hf8 HF6 hcj
        go_wp2_with fail
        obtain ⟨hj9, hs9⟩ := HF8.out.fin HBG.out (.int .i64 3) (.string ⟨#[]⟩) (.int .i64 0) (.slice none 0 0)
        exact bodyPost_ret (v := repV 3 [] 0 (.slice none 0 0)) (by simp [results, Tryz.results66, go_sem, hrc]) rfl ⟨rfl, o1, hj9, hs9⟩)
  · rw [show lowL [76, 84] = [108, 116] by decide] at HLO
    go_enter Tryz.func66, Tryz.ntmps66
    go_wp2_with fail
    refine wp_scope_jumps 0 (fun a W => ∃ x : Nat → Value, a = expFrame cb w.heap.size n at_ false false true x ∧ Below (w.alloc (.cells zRepC 30)).heap.size (w.alloc (.cells zRepC 30)) W) (fun _ _ => 0) rfl ?_ ?_
    · go_wp2_with fail
      refine HPA.out.mono ?_; rintro e w3 ⟨rfl, hB3⟩
      have hf3 := HF.out.below hB3
      have hcc3 := hf3.call.cell
      obtain ⟨e30, e31, e32⟩ := HCB.out w3 hB3
      have HD3 := Lib.hid (HDD.out w3 hf3.call)
      have HB3 := Lib.hid hB3
      clear hB3 hf3 HPA HF hcc hb0 hb1 hb2 HCB HDD HDU0
      go_wp2_with fail
      refine HD3.out.mono ?_; rintro e w4 ⟨rfl, hw4⟩
      subst hw4
      go_wp2_with fail
      go_step3
      go_wp2_with fail
      refine (HLO.out _).mono ?_; rintro e w5 ⟨rfl, hB5⟩
      have HB5 := Lib.hid (HB3.out.trans (hB5.mono HB3.out.size))
      clear hB5 HLO HB3
      go_wp2_with fail
      go_step3
      exact ⟨rfl, frame_intro rfl HB5.out⟩
    · intro ax W5 hJ
      obtain ⟨x, rfl, hB5⟩ := hJ
      have hf5 := HF.out.below hB5
      have hcc5 := hf5.call.cell
      obtain ⟨e50, e51, e52⟩ := HCB.out W5 hB5
      have HC5 := Lib.hid (fun (W : World) (hW : Below W5.heap.size W5 W) => show W.cell? ⟨cb, 0, none⟩ = some (.pointer (some ⟨p, 0, none⟩)) ∧ W.cell? ⟨cb, 1, none⟩ = some (.int .i64 now) from ⟨(hf5.call.below hW).cell 0, (hf5.call.below hW).cell 1⟩)
      have HDU := Lib.hid (fun (W : World) (hW : Below W5.heap.size W5 W) => HDU0.out W (hf5.sp.below hW))
      have HF3 := Lib.hid hf5
      clear hB5 hf5 HPA HF hcc hb0 hb1 hb2 HCB HDD HDU0 HLO
      unfold expFrame
      go_wp2_with fail
      go_region_held (fun W => W.cell? ⟨cb, 0, none⟩ = some (.pointer (some ⟨p, 0, none⟩)) ∧ W.cell? ⟨cb, 1, none⟩ = some (.int .i64 now))
        (first | (refine HC5.out _ ?_ <;> (repeat (first | exact Below.refl _ _ | refine Below.drew ?_ | refine below_drewN ?_ _ | refine Below.alloc ?_ (by first | exact Nat.le_refl _ | simp | (simp; omega)) _)) <;> done) | (refine HC5.out _ (HB6.out.trans (Below.mono ?_ HB6.out.size)) <;> (repeat (first | exact Below.refl _ _ | refine Below.drew ?_ | refine below_drewN ?_ _ | refine Below.alloc ?_ (by first | exact Nat.le_refl _ | simp | (simp; omega)) _)) <;> done)) (first
        | (go_at_call 20
           (with_reducible refine (HDU.out _ (by (repeat (first | exact Below.refl _ _ | refine Below.drew ?_ | refine below_drewN ?_ _ | refine Below.alloc ?_ (by first | exact Nat.le_refl _ | simp | (simp; omega)) _)); done)).mono ?_)
           rintro e w6 ⟨rfl, hB6⟩
           have HB6 := Lib.hid (show Below W5.heap.size W5 w6 from Below.trans (by (repeat (first | exact Below.refl _ _ | refine Below.drew ?_ | refine below_drewN ?_ _ | refine Below.alloc ?_ (by first | exact Nat.le_refl _ | simp | (simp; omega)) _)); done) (hB6.mono (by simp)))
           have hf6 := HF3.out.below HB6.out
           have hcj := hf6.call.cell
           have HF6 := Lib.hid hf6
           clear hB6 hf6))
      all_goals (
        clear HDU HC5 HF3
        go_wp2_with fail
        refine (kint_ok _ _).mono ?_; rintro e w8 ⟨rfl, hB8⟩
        have hf8 := (HF6.out.below (by (repeat (first | exact Below.refl _ _ | refine Below.drew ?_ | refine below_drewN ?_ _ | refine Below.alloc ?_ (by first | exact Nat.le_refl _ | simp | (simp; omega)) _)); done)).below hB8
        have HF8 := Lib.hid hf8
        have hrc := hf8.res.cell
        have hrf := hf8.res.free
        clear hB8 hf8 HF6 hcj
        go_wp2_with fail
        obtain ⟨hj9, hs9⟩ := HF8.out.fin HBG.out (.int .i64 3) (.string ⟨#[]⟩) (.int .i64 0) (.slice none 0 0)
        exact bodyPost_ret (v := repV 3 [] 0 (.slice none 0 0)) (by simp [results, Tryz.results66, go_sem, hrc]) rfl ⟨rfl, o1, hj9, hs9⟩)
  · rw [show lowL [78, 88] = [110, 120] by decide] at HLO
    go_enter Tryz.func66, Tryz.ntmps66
    go_wp2_with fail
    refine wp_scope_jumps 0 (fun a W => ∃ x : Nat → Value, a = expFrame cb w.heap.size n at_ true false false x ∧ Below (w.alloc (.cells zRepC 30)).heap.size (w.alloc (.cells zRepC 30)) W) (fun _ _ => 0) rfl ?_ ?_
    · go_wp2_with fail
      refine HPA.out.mono ?_; rintro e w3 ⟨rfl, hB3⟩
      have hf3 := HF.out.below hB3
      have hcc3 := hf3.call.cell
      obtain ⟨e30, e31, e32⟩ := HCB.out w3 hB3
      have HD3 := Lib.hid (HDD.out w3 hf3.call)
      have HB3 := Lib.hid hB3
      clear hB3 hf3 HPA HF hcc hb0 hb1 hb2 HCB HDD HDU0
      go_wp2_with fail
      refine HD3.out.mono ?_; rintro e w4 ⟨rfl, hw4⟩
      subst hw4
      go_wp2_with fail
      go_step3
      go_wp2_with fail
      refine (HLO.out _).mono ?_; rintro e w5 ⟨rfl, hB5⟩
      have HB5 := Lib.hid (HB3.out.trans (hB5.mono HB3.out.size))
      clear hB5 HLO HB3
      go_wp2_with fail
      go_step3
      exact ⟨rfl, frame_intro rfl HB5.out⟩
    · intro ax W5 hJ
      obtain ⟨x, rfl, hB5⟩ := hJ
      have hf5 := HF.out.below hB5
      have hcc5 := hf5.call.cell
      obtain ⟨e50, e51, e52⟩ := HCB.out W5 hB5
      have HC5 := Lib.hid (fun (W : World) (hW : Below W5.heap.size W5 W) => show W.cell? ⟨cb, 0, none⟩ = some (.pointer (some ⟨p, 0, none⟩)) ∧ W.cell? ⟨cb, 1, none⟩ = some (.int .i64 now) from ⟨(hf5.call.below hW).cell 0, (hf5.call.below hW).cell 1⟩)
      have HDU := Lib.hid (fun (W : World) (hW : Below W5.heap.size W5 W) => HDU0.out W (hf5.sp.below hW))
      have HF3 := Lib.hid hf5
      clear hB5 hf5 HPA HF hcc hb0 hb1 hb2 HCB HDD HDU0 HLO
      unfold expFrame
      go_wp2_with fail
      go_region_held (fun W => W.cell? ⟨cb, 0, none⟩ = some (.pointer (some ⟨p, 0, none⟩)) ∧ W.cell? ⟨cb, 1, none⟩ = some (.int .i64 now))
        (first | (refine HC5.out _ ?_ <;> (repeat (first | exact Below.refl _ _ | refine Below.drew ?_ | refine below_drewN ?_ _ | refine Below.alloc ?_ (by first | exact Nat.le_refl _ | simp | (simp; omega)) _)) <;> done) | (refine HC5.out _ (HB6.out.trans (Below.mono ?_ HB6.out.size)) <;> (repeat (first | exact Below.refl _ _ | refine Below.drew ?_ | refine below_drewN ?_ _ | refine Below.alloc ?_ (by first | exact Nat.le_refl _ | simp | (simp; omega)) _)) <;> done)) (first
        | (go_at_call 20
           (with_reducible refine (HDU.out _ (by (repeat (first | exact Below.refl _ _ | refine Below.drew ?_ | refine below_drewN ?_ _ | refine Below.alloc ?_ (by first | exact Nat.le_refl _ | simp | (simp; omega)) _)); done)).mono ?_)
           rintro e w6 ⟨rfl, hB6⟩
           have HB6 := Lib.hid (show Below W5.heap.size W5 w6 from Below.trans (by (repeat (first | exact Below.refl _ _ | refine Below.drew ?_ | refine below_drewN ?_ _ | refine Below.alloc ?_ (by first | exact Nat.le_refl _ | simp | (simp; omega)) _)); done) (hB6.mono (by simp)))
           have hf6 := HF3.out.below HB6.out
           have hcj := hf6.call.cell
           have HF6 := Lib.hid hf6
           clear hB6 hf6))
      all_goals (
        clear HDU HC5 HF3
        go_wp2_with fail
        refine (kint_ok _ _).mono ?_; rintro e w8 ⟨rfl, hB8⟩
        have hf8 := (HF6.out.below (by (repeat (first | exact Below.refl _ _ | refine Below.drew ?_ | refine below_drewN ?_ _ | refine Below.alloc ?_ (by first | exact Nat.le_refl _ | simp | (simp; omega)) _)); done)).below hB8
        have HF8 := Lib.hid hf8
        have hrc := hf8.res.cell
        have hrf := hf8.res.free
        clear hB8 hf8 HF6 hcj
        go_wp2_with fail
        obtain ⟨hj9, hs9⟩ := HF8.out.fin HBG.out (.int .i64 3) (.string ⟨#[]⟩) (.int .i64 0) (.slice none 0 0)
        exact bodyPost_ret (v := repV 3 [] 0 (.slice none 0 0)) (by simp [results, Tryz.results66, go_sem, hrc]) rfl ⟨rfl, o1, hj9, hs9⟩)
end
end Go.Proofs.YthojmgjgmbnopaaGreatDoor
