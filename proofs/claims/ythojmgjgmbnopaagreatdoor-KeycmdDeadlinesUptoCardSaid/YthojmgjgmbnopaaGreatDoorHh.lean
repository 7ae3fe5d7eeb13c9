import Derived.Test.YthojmgjgmbnopaaGreatDoorHg
import Derived.Deep.RegionHeld
namespace Go.Proofs.YthojmgjgmbnopaaGreatDoor
open Go Go.RowKit
/-! keycmd's expire: a deadline is set; the key is dropped; a flag refuses it. -/
section
variable {o : Roles} {w : World} {q : List Nat} {p : Nat} {c : Cnt} {S : SP} {cb : Nat} {ρ : List Nat} {now : Int} {sv : Value} {nm : Tx}

set_option maxRecDepth 10000 in
set_option maxHeartbeats 8000000 in
theorem kexp_set (h : SpJ o w q p S c) (hq : q ≠ []) (hρ : ¬ q <+: ρ) (hTb : Tbl w) {k y : Tx} (hcb : Blk o w ρ cb (callC p now nm sv) 112)
    (hv : Vw (Old w) w sv 1 2 ([k, y].map txt)) {n at_ : Int} (hy : parseN y = some n) (hyl : y.length ≤ 1099511627776) (hd : DeadIs nm now n at_) {H : Hd} (hS : S.at now k = some H) (hat : now < at_) (hat2 : 0 ≤ at_ ∧ at_ ≤ 9007199254740992) (hc : c.num ≤ 4611686018427387000) (hf : c.few ≤ 1099511627000) :
    Calls Tryz.prog 66 #[.pointer (some ⟨cb, 0, none⟩)] w (RepJ o w q p (S.put k ⟨H.v, at_, c.num + 1⟩) c.next ⟨3, [], 1⟩) := by
  obtain ⟨o1, m1, hbg, hj⟩ := begin_roles h hq
  have hfr0 := Fj.begin hbg hj hcb
  have hcc := hcb.cell
  have hcl := hcb.lt
  obtain ⟨a0, cap, rfl, hcap, _, _⟩ := id hv.slice
  obtain ⟨b, off, rfl, hbl, hcap, hg⟩ := vw_get hv (by omega)
  replace hbl : b < w.heap.size := hbl
  have hk0 := hg 0 k rfl
  have hk1 := hg 1 y rfl
  rw [Nat.add_zero] at hk0
  have hcapI : (2 : Int) ≤ (cap : Int) := by omega
  have hb0 : (w.alloc (.cells zRepC 30)).cell? ⟨b, off, none⟩ = some (.string ⟨k.toArray⟩) := cell_below hbg.res.2 hk0
  have hb1 : (w.alloc (.cells zRepC 30)).cell? ⟨b, off + 1, none⟩ = some (.string ⟨y.toArray⟩) := cell_below hbg.res.2 hk1
  have hp1 := parse_ok (hTb.below hbg.res.2) y hyl
  unfold ParseDid at hp1
  rw [hy] at hp1
  simp only [Option.getD_some, Option.isSome_some, if_true] at hp1
  have hov : now < H.due ∨ H.due = 0 := by
    have h2 := (SP.at_some hS).2
    unfold Hd.over at h2
    by_cases h0 : H.due = 0
    · exact .inr h0
    · left
      have : decide (H.due ≤ now) = false := by
        cases hd : decide (H.due ≤ now) with
        | false => rfl
        | true => rw [hd, Bool.and_true] at h2; simp at h2; exact absurd h2 h0
      have := of_decide_eq_false this
      omega
  have HF := Lib.hid hfr0
  have HPA := Lib.hid hp1
  have HBG := Lib.hid hbg
  have HDD := Lib.hid (fun (W : World) (hW : Blk o1 W ρ cb (callC p now nm (.slice (some ⟨b, off, none⟩) 2 cap)) 112) => kdead_ok hW hd)
  have HCB := Lib.hid (fun (W : World) (hB : Below (w.alloc (.cells zRepC 30)).heap.size (w.alloc (.cells zRepC 30)) W) => And.intro (cell_below hB hb0) (cell_below hB hb1))

  have HW := Lib.hid (fun (W : World) (hj2 : SpJ o1 W q p S c) => jsetdue_ok hj2 k (SP.at_some hS).1 at_ hat2.1 hat2.2 (by omega) (by omega))
  have hle : decide (at_ ≤ now) = false := decide_eq_false (by omega)
  have HDU0 := Lib.hid (fun (W : World) (hj2 : SpJ o1 W q p S c) => jdue_ok hj2 k now)
  unfold DueDid at HDU0
  rw [hS] at HDU0
  simp only [Option.getD_some, Option.isSome_some] at HDU0
  obtain ⟨S1, c1, hS1⟩ : ∃ S1 c1, S1 = (S.put k ⟨H.v, at_, c.num + 1⟩) ∧ c1 = c.next := ⟨_, _, rfl, rfl⟩
  obtain ⟨hS1, hc1⟩ := hS1
  rw [← hS1, ← hc1] at HW ⊢
  clear h hcb hv hbg hj hfr0 hg hTb hy hp1 hd hS hat hov hS1 hc1 hk0 hk1
  unfold txt at HPA HW HDU0
  generalize H.due = d at *
  go_enter Tryz.func66, Tryz.ntmps66
  go_wp2_with fail
  go_step3
  go_wp2_with fail
  refine HPA.out.mono ?_; rintro e w3 ⟨rfl, hB3⟩
  have hf3 := HF.out.below hB3
  have hcc3 := hf3.call.cell
  obtain ⟨e30, e31⟩ := HCB.out w3 hB3
  have HD3 := Lib.hid (HDD.out w3 hf3.call)
  have HC5 := Lib.hid (fun (W : World) (hW : Below w3.heap.size w3 W) => show W.cell? ⟨cb, 0, none⟩ = some (.pointer (some ⟨p, 0, none⟩)) ∧ W.cell? ⟨cb, 1, none⟩ = some (.int .i64 now) from ⟨(hf3.call.below hW).cell 0, (hf3.call.below hW).cell 1⟩)
  have HDU := Lib.hid (fun (W : World) (hW : Below w3.heap.size w3 W) => HDU0.out W (hf3.sp.below hW))
  have HF3 := Lib.hid hf3
  clear hB3 hf3 HPA HF hcc hb0 hb1 HCB HDD HDU0
  go_wp2_with fail
  refine HD3.out.mono ?_; rintro e w4 ⟨rfl, hw4⟩
  subst hw4
  go_wp2_with fail
  go_step3
  go_wp2_with fail
  go_region_held (fun W => W.cell? ⟨cb, 0, none⟩ = some (.pointer (some ⟨p, 0, none⟩)) ∧ W.cell? ⟨cb, 1, none⟩ = some (.int .i64 now))
    (first | (refine HC5.out _ ?_ <;> (repeat (first | exact Below.refl _ _ | refine Below.drew ?_ | refine below_drewN ?_ _ | refine Below.alloc ?_ (by first | exact Nat.le_refl _ | simp | (simp; omega)) _)) <;> done) | (refine HC5.out _ (HB6.out.trans (Below.mono ?_ HB6.out.size)) <;> (repeat (first | exact Below.refl _ _ | refine Below.drew ?_ | refine below_drewN ?_ _ | refine Below.alloc ?_ (by first | exact Nat.le_refl _ | simp | (simp; omega)) _)) <;> done)) (first
    | (go_at_call 20
       (with_reducible refine (HDU.out _ (by (repeat (first | exact Below.refl _ _ | refine Below.drew ?_ | refine below_drewN ?_ _ | refine Below.alloc ?_ (by first | exact Nat.le_refl _ | simp | (simp; omega)) _)); done)).mono ?_)
       rintro e w6 ⟨rfl, hB6⟩
       have HB6 := Lib.hid (show Below w4.heap.size w4 w6 from Below.trans (by (repeat (first | exact Below.refl _ _ | refine Below.drew ?_ | refine below_drewN ?_ _ | refine Below.alloc ?_ (by first | exact Nat.le_refl _ | simp | (simp; omega)) _)); done) (hB6.mono (by simp)))
       have hf6 := HF3.out.below HB6.out
       have hcj := hf6.call.cell
       have HF6 := Lib.hid hf6
       clear hB6 hf6))
  all_goals (
    clear HDU HC5 HF3 HD3
    go_wp2_with fail
    refine (HW.out _ (HF6.out.below (by (repeat (first | exact Below.refl _ _ | refine Below.drew ?_ | refine below_drewN ?_ _ | refine Below.alloc ?_ (by first | exact Nat.le_refl _ | simp | (simp; omega)) _)); done)).sp).mono ?_; rintro e w7 ⟨rfl, o7, hj7, hs7⟩
    have hf7 := (HF6.out.below (by (repeat (first | exact Below.refl _ _ | refine Below.drew ?_ | refine below_drewN ?_ _ | refine Below.alloc ?_ (by first | exact Nat.le_refl _ | simp | (simp; omega)) _)); done)).put HBG.out hρ hj7 hs7
    have HF7 := Lib.hid hf7
    clear hj7 hs7 hf7 HW HF6 HB6 hcj
    go_wp2_with fail
    refine (kint_ok _ _).mono ?_; rintro e w8 ⟨rfl, hB8⟩
    have hf8 := HF7.out.below hB8
    have HF8 := Lib.hid hf8
    have hrc := hf8.res.cell
    have hrf := hf8.res.free
    clear hB8 hf8 HF7
    go_wp2_with fail
    obtain ⟨hj9, hs9⟩ := HF8.out.fin HBG.out (.int .i64 3) (.string ⟨#[]⟩) (.int .i64 1) (.slice none 0 0)
    exact bodyPost_ret (v := repV 3 [] 1 (.slice none 0 0)) (by simp [results, Tryz.results66, go_sem, hrc]) rfl ⟨rfl, o7, hj9, hs9⟩)
set_option maxRecDepth 10000 in
set_option maxHeartbeats 8000000 in
theorem kexp_drop (h : SpJ o w q p S c) (hq : q ≠ []) (hρ : ¬ q <+: ρ) (hTb : Tbl w) {k y : Tx} (hcb : Blk o w ρ cb (callC p now nm sv) 112)
    (hv : Vw (Old w) w sv 1 2 ([k, y].map txt)) {n at_ : Int} (hy : parseN y = some n) (hyl : y.length ≤ 1099511627776) (hd : DeadIs nm now n at_) {H : Hd} (hS : S.at now k = some H) (hat : at_ ≤ now) (hc : c.num ≤ 4611686018427387000) (hf : c.few ≤ 1099511627000) :
    Calls Tryz.prog 66 #[.pointer (some ⟨cb, 0, none⟩)] w (RepJ o w q p (S.del k) c.touch ⟨3, [], 1⟩) := by
  obtain ⟨o1, m1, hbg, hj⟩ := begin_roles h hq
  have hfr0 := Fj.begin hbg hj hcb
  have hcc := hcb.cell
  have hcl := hcb.lt
  obtain ⟨a0, cap, rfl, hcap, _, _⟩ := id hv.slice
  obtain ⟨b, off, rfl, hbl, hcap, hg⟩ := vw_get hv (by omega)
  replace hbl : b < w.heap.size := hbl
  have hk0 := hg 0 k rfl
  have hk1 := hg 1 y rfl
  rw [Nat.add_zero] at hk0
  have hcapI : (2 : Int) ≤ (cap : Int) := by omega
  have hb0 : (w.alloc (.cells zRepC 30)).cell? ⟨b, off, none⟩ = some (.string ⟨k.toArray⟩) := cell_below hbg.res.2 hk0
  have hb1 : (w.alloc (.cells zRepC 30)).cell? ⟨b, off + 1, none⟩ = some (.string ⟨y.toArray⟩) := cell_below hbg.res.2 hk1
  have hp1 := parse_ok (hTb.below hbg.res.2) y hyl
  unfold ParseDid at hp1
  rw [hy] at hp1
  simp only [Option.getD_some, Option.isSome_some, if_true] at hp1
  have hov : now < H.due ∨ H.due = 0 := by
    have h2 := (SP.at_some hS).2
    unfold Hd.over at h2
    by_cases h0 : H.due = 0
    · exact .inr h0
    · left
      have : decide (H.due ≤ now) = false := by
        cases hd : decide (H.due ≤ now) with
        | false => rfl
        | true => rw [hd, Bool.and_true] at h2; simp at h2; exact absurd h2 h0
      have := of_decide_eq_false this
      omega
  have HF := Lib.hid hfr0
  have HPA := Lib.hid hp1
  have HBG := Lib.hid hbg
  have HDD := Lib.hid (fun (W : World) (hW : Blk o1 W ρ cb (callC p now nm (.slice (some ⟨b, off, none⟩) 2 cap)) 112) => kdead_ok hW hd)
  have HCB := Lib.hid (fun (W : World) (hB : Below (w.alloc (.cells zRepC 30)).heap.size (w.alloc (.cells zRepC 30)) W) => And.intro (cell_below hB hb0) (cell_below hB hb1))

  have HW := Lib.hid (fun (W : World) (hj2 : SpJ o1 W q p S c) => jdrop_ok hj2 k (SP.at_some hS).1 (by omega) (by omega))
  have hle : decide (at_ ≤ now) = true := decide_eq_true hat
  have HDU0 := Lib.hid (fun (W : World) (hj2 : SpJ o1 W q p S c) => jdue_ok hj2 k now)
  unfold DueDid at HDU0
  rw [hS] at HDU0
  simp only [Option.getD_some, Option.isSome_some] at HDU0
  obtain ⟨S1, c1, hS1⟩ : ∃ S1 c1, S1 = (S.del k) ∧ c1 = c.touch := ⟨_, _, rfl, rfl⟩
  obtain ⟨hS1, hc1⟩ := hS1
  rw [← hS1, ← hc1] at HW ⊢
  clear h hcb hv hbg hj hfr0 hg hTb hy hp1 hd hS hat hov hS1 hc1 hk0 hk1
  unfold txt at HPA HW HDU0
  generalize H.due = d at *
  go_enter Tryz.func66, Tryz.ntmps66
  go_wp2_with fail
  go_step3
  go_wp2_with fail
  refine HPA.out.mono ?_; rintro e w3 ⟨rfl, hB3⟩
  have hf3 := HF.out.below hB3
  have hcc3 := hf3.call.cell
  obtain ⟨e30, e31⟩ := HCB.out w3 hB3
  have HD3 := Lib.hid (HDD.out w3 hf3.call)
  have HC5 := Lib.hid (fun (W : World) (hW : Below w3.heap.size w3 W) => show W.cell? ⟨cb, 0, none⟩ = some (.pointer (some ⟨p, 0, none⟩)) ∧ W.cell? ⟨cb, 1, none⟩ = some (.int .i64 now) from ⟨(hf3.call.below hW).cell 0, (hf3.call.below hW).cell 1⟩)
  have HDU := Lib.hid (fun (W : World) (hW : Below w3.heap.size w3 W) => HDU0.out W (hf3.sp.below hW))
  have HF3 := Lib.hid hf3
  clear hB3 hf3 HPA HF hcc hb0 hb1 HCB HDD HDU0
  go_wp2_with fail
  refine HD3.out.mono ?_; rintro e w4 ⟨rfl, hw4⟩
  subst hw4
  go_wp2_with fail
  go_step3
  go_wp2_with fail
  go_region_held (fun W => W.cell? ⟨cb, 0, none⟩ = some (.pointer (some ⟨p, 0, none⟩)) ∧ W.cell? ⟨cb, 1, none⟩ = some (.int .i64 now))
    (first | (refine HC5.out _ ?_ <;> (repeat (first | exact Below.refl _ _ | refine Below.drew ?_ | refine below_drewN ?_ _ | refine Below.alloc ?_ (by first | exact Nat.le_refl _ | simp | (simp; omega)) _)) <;> done) | (refine HC5.out _ (HB6.out.trans (Below.mono ?_ HB6.out.size)) <;> (repeat (first | exact Below.refl _ _ | refine Below.drew ?_ | refine below_drewN ?_ _ | refine Below.alloc ?_ (by first | exact Nat.le_refl _ | simp | (simp; omega)) _)) <;> done)) (first
    | (go_at_call 20
       (with_reducible refine (HDU.out _ (by (repeat (first | exact Below.refl _ _ | refine Below.drew ?_ | refine below_drewN ?_ _ | refine Below.alloc ?_ (by first | exact Nat.le_refl _ | simp | (simp; omega)) _)); done)).mono ?_)
       rintro e w6 ⟨rfl, hB6⟩
       have HB6 := Lib.hid (show Below w4.heap.size w4 w6 from Below.trans (by (repeat (first | exact Below.refl _ _ | refine Below.drew ?_ | refine below_drewN ?_ _ | refine Below.alloc ?_ (by first | exact Nat.le_refl _ | simp | (simp; omega)) _)); done) (hB6.mono (by simp)))
       have hf6 := HF3.out.below HB6.out
       have hcj := hf6.call.cell
       have HF6 := Lib.hid hf6
       clear hB6 hf6))
  all_goals (
    clear HDU HC5 HF3 HD3
    go_wp2_with fail
    refine (HW.out _ (HF6.out.below (by (repeat (first | exact Below.refl _ _ | refine Below.drew ?_ | refine below_drewN ?_ _ | refine Below.alloc ?_ (by first | exact Nat.le_refl _ | simp | (simp; omega)) _)); done)).sp).mono ?_; rintro e w7 ⟨rfl, o7, hj7, hs7⟩
    have hf7 := (HF6.out.below (by (repeat (first | exact Below.refl _ _ | refine Below.drew ?_ | refine below_drewN ?_ _ | refine Below.alloc ?_ (by first | exact Nat.le_refl _ | simp | (simp; omega)) _)); done)).put HBG.out hρ hj7 hs7
    have HF7 := Lib.hid hf7
    clear hj7 hs7 hf7 HW HF6 HB6 hcj
    go_wp2_with fail
    refine (kint_ok _ _).mono ?_; rintro e w8 ⟨rfl, hB8⟩
    have hf8 := HF7.out.below hB8
    have HF8 := Lib.hid hf8
    have hrc := hf8.res.cell
    have hrf := hf8.res.free
    clear hB8 hf8 HF7
    go_wp2_with fail
    obtain ⟨hj9, hs9⟩ := HF8.out.fin HBG.out (.int .i64 3) (.string ⟨#[]⟩) (.int .i64 1) (.slice none 0 0)
    exact bodyPost_ret (v := repV 3 [] 1 (.slice none 0 0)) (by simp [results, Tryz.results66, go_sem, hrc]) rfl ⟨rfl, o7, hj9, hs9⟩)
end
end Go.Proofs.YthojmgjgmbnopaaGreatDoor
