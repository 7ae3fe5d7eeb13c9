import Derived.Test.YthojmgjgmbnopaaGreatDoorHc
import Derived.Deep.RegionHeld
namespace Go.Proofs.YthojmgjgmbnopaaGreatDoor
open Go Go.RowKit
/-! keycmd: left. -/
section
variable {o : Roles} {w : World} {q : List Nat} {p : Nat} {c : Cnt} {S : SP} {cb : Nat} {ρ : List Nat} {now : Int} {sv : Value} {nm : Tx}
abbrev ttlB : Tx := [116, 116, 108]
abbrev pttlB : Tx := [112, 116, 116, 108]
abbrev etB : Tx := [101, 120, 112, 105, 114, 101, 116, 105, 109, 101]
abbrev petB : Tx := [112, 101, 120, 112, 105, 114, 101, 116, 105, 109, 101]
/-- How long a key lives, or till when: by ttl or pttl; in seconds. -/
def leftD (sub sec : Bool) (now d : Int) : Int := if sec then ((if sub then d - now else d) + 999) / 1000 else if sub then d - now else d
def leftN (sub sec : Bool) (now : Int) : Option Hd → Int
  | none => -2
  | some H => if H.due = 0 then -1 else leftD sub sec now H.due
def leftB (sub sec : Bool) : Tx := if sec then (if sub then ttlB else etB) else if sub then pttlB else petB
set_option maxRecDepth 10000 in
set_option maxHeartbeats 8000000 in
theorem kleft_ok (h : SpJ o w q p S c) (hq : q ≠ []) {k : Tx} (sub sec : Bool) (hcb : Blk o w ρ cb (callC p now (leftB sub sec) sv) 112) (hnow : 0 ≤ now ∧ now ≤ 9007199254740992)
    (hv : Vw (Old w) w sv 1 1 ([k].map txt)) :
    Calls Tryz.prog 67 #[.pointer (some ⟨cb, 0, none⟩)] w (RepJ o w q p S c ⟨3, [], leftN sub sec now (S.at now k)⟩) := by
  obtain ⟨o1, m1, hbg, hj⟩ := begin_roles h hq
  have hfr0 := Fj.begin hbg hj hcb
  obtain ⟨a0, cap, rfl, hcap, _, _⟩ := id hv.slice
  obtain ⟨b, off, rfl, hbl, hcap, hg⟩ := vw_get hv (by omega)
  replace hbl : b < w.heap.size := hbl
  have hk := hg 0 k rfl
  rw [Nat.add_zero] at hk
  have hcapI : (1 : Int) ≤ (cap : Int) := by omega
  have hka : (w.alloc (.cells zRepC 30)).cell? ⟨b, off, none⟩ = some (.string ⟨k.toArray⟩) := cell_below hbg.res.2 hk
  obtain ⟨nm, hnm⟩ : ∃ nm, nm = leftB sub sec := ⟨_, rfl⟩
  rw [← hnm] at hcb hfr0
  have HDU := Lib.hid (fun (W : World) (hW : Below (w.alloc (.cells zRepC 30)).heap.size (w.alloc (.cells zRepC 30)) W) => jdue_ok (hfr0.sp.below hW) k now)
  have HC := Lib.hid (fun (W : World) (hW : Below (w.alloc (.cells zRepC 30)).heap.size (w.alloc (.cells zRepC 30)) W) => show W.cell? ⟨cb, 0, none⟩ = some (.pointer (some ⟨p, 0, none⟩)) ∧ W.cell? ⟨cb, 1, none⟩ = some (.int .i64 now) ∧ W.cell? ⟨cb, 3, none⟩ = some (.slice (some ⟨b, off, none⟩) 1 cap) ∧ W.cell? ⟨b, off, none⟩ = some (.string ⟨k.toArray⟩) from ⟨(hfr0.call.below hW).cell 0, (hfr0.call.below hW).cell 1, (hfr0.call.below hW).cell 3, cell_below hW hka⟩)
  have HF := Lib.hid hfr0
  have HBG := Lib.hid hbg
  have hlim := h.lim' now k
  unfold DueDid at HDU
  have hov : ∀ H, S.at now k = some H → H.due = 0 ∨ now < H.due := fun H hH => by
    have h2 := (SP.at_some hH).2
    unfold Hd.over at h2
    by_cases h0 : H.due = 0
    · exact .inl h0
    · right
      have : decide (H.due ≤ now) = false := by
        cases hd : decide (H.due ≤ now) with
        | false => rfl
        | true => rw [hd, Bool.and_true] at h2; simp at h2; exact absurd h2 h0
      have := of_decide_eq_false this
      omega
  generalize S.at now k = OH at *
  clear h hcb hv hbg hj hfr0 hg hk hka
  unfold txt at *
  rcases OH with _ | H
  · simp only [Option.getD_none, Option.isSome_none] at HDU
    have e0 : leftN sub sec now none = -2 := rfl
    rw [e0]
    go_enter Tryz.func67, Tryz.ntmps67
    go_wp2_with fail
    go_region_held (fun W => W.cell? ⟨cb, 0, none⟩ = some (.pointer (some ⟨p, 0, none⟩)) ∧ W.cell? ⟨cb, 1, none⟩ = some (.int .i64 now) ∧ W.cell? ⟨cb, 3, none⟩ = some (.slice (some ⟨b, off, none⟩) 1 cap) ∧ W.cell? ⟨b, off, none⟩ = some (.string ⟨k.toArray⟩))
      (first | (refine HC.out _ ?_ <;> (repeat (first | exact Below.refl _ _ | refine Below.drew ?_ | refine below_drewN ?_ _ | refine Below.alloc ?_ (by first | exact Nat.le_refl _ | simp | (simp; omega)) _)) <;> done) | (refine HC.out _ (HB2.out.trans (Below.mono ?_ HB2.out.size)) <;> (repeat (first | exact Below.refl _ _ | refine Below.drew ?_ | refine below_drewN ?_ _ | refine Below.alloc ?_ (by first | exact Nat.le_refl _ | simp | (simp; omega)) _)) <;> done)) (first
      | (go_at_call 20
         (with_reducible refine (HDU.out _ (by (repeat (first | exact Below.refl _ _ | refine Below.drew ?_ | refine below_drewN ?_ _ | refine Below.alloc ?_ (by first | exact Nat.le_refl _ | simp | (simp; omega)) _)); done)).mono ?_)
         rintro e w2 ⟨rfl, hB2⟩
         have HB2 := Lib.hid (show Below (w.alloc (.cells zRepC 30)).heap.size (w.alloc (.cells zRepC 30)) w2 from Below.trans (by (repeat (first | exact Below.refl _ _ | refine Below.drew ?_ | refine below_drewN ?_ _ | refine Below.alloc ?_ (by first | exact Nat.le_refl _ | simp | (simp; omega)) _)); done) (hB2.mono (by simp)))
         have HF2 := Lib.hid (HF.out.below HB2.out)
         clear hB2))
    all_goals (
      clear HDU HC HF
      go_wp2_with fail
      refine (kint_ok _ _).mono ?_; rintro e w8 ⟨rfl, hB8⟩
      have hf8 := (HF2.out.below (by (repeat (first | exact Below.refl _ _ | refine Below.drew ?_ | refine below_drewN ?_ _ | refine Below.alloc ?_ (by first | exact Nat.le_refl _ | simp | (simp; omega)) _)); done)).below hB8
      have HF8 := Lib.hid hf8
      have hrc := hf8.res.cell
      have hrf := hf8.res.free
      clear hB8 hf8 HF2
      go_wp2_with fail
      obtain ⟨hj9, hs9⟩ := HF8.out.fin HBG.out (.int .i64 3) (.string ⟨#[]⟩) (.int .i64 (-2)) (.slice none 0 0)
      exact bodyPost_ret (v := repV 3 [] (-2) (.slice none 0 0)) (by simp [results, Tryz.results67, go_sem, hrc]) rfl ⟨rfl, o1, hj9, hs9⟩)
  · obtain ⟨hv, d, ver⟩ := H
    simp only [Option.getD_some, Option.isSome_some] at HDU hlim
    have hov := hov _ rfl
    dsimp only at hov
    by_cases h0 : d = 0
    · subst h0
      have e0 : leftN sub sec now (some ⟨hv, 0, ver⟩) = -1 := rfl
      rw [e0]
      go_enter Tryz.func67, Tryz.ntmps67
      go_wp2_with fail
      go_region_held (fun W => W.cell? ⟨cb, 0, none⟩ = some (.pointer (some ⟨p, 0, none⟩)) ∧ W.cell? ⟨cb, 1, none⟩ = some (.int .i64 now) ∧ W.cell? ⟨cb, 3, none⟩ = some (.slice (some ⟨b, off, none⟩) 1 cap) ∧ W.cell? ⟨b, off, none⟩ = some (.string ⟨k.toArray⟩))
        (first | (refine HC.out _ ?_ <;> (repeat (first | exact Below.refl _ _ | refine Below.drew ?_ | refine below_drewN ?_ _ | refine Below.alloc ?_ (by first | exact Nat.le_refl _ | simp | (simp; omega)) _)) <;> done) | (refine HC.out _ (HB2.out.trans (Below.mono ?_ HB2.out.size)) <;> (repeat (first | exact Below.refl _ _ | refine Below.drew ?_ | refine below_drewN ?_ _ | refine Below.alloc ?_ (by first | exact Nat.le_refl _ | simp | (simp; omega)) _)) <;> done)) (first
        | (go_at_call 20
           (with_reducible refine (HDU.out _ (by (repeat (first | exact Below.refl _ _ | refine Below.drew ?_ | refine below_drewN ?_ _ | refine Below.alloc ?_ (by first | exact Nat.le_refl _ | simp | (simp; omega)) _)); done)).mono ?_)
           rintro e w2 ⟨rfl, hB2⟩
           have HB2 := Lib.hid (show Below (w.alloc (.cells zRepC 30)).heap.size (w.alloc (.cells zRepC 30)) w2 from Below.trans (by (repeat (first | exact Below.refl _ _ | refine Below.drew ?_ | refine below_drewN ?_ _ | refine Below.alloc ?_ (by first | exact Nat.le_refl _ | simp | (simp; omega)) _)); done) (hB2.mono (by simp)))
           have hf2 := HF.out.below HB2.out
           have hcj := hf2.call.cell
           have HF2 := Lib.hid hf2
           clear hB2 hf2))
      all_goals (
      clear HDU HC HF
      go_wp2_with fail
      refine (kint_ok _ _).mono ?_; rintro e w8 ⟨rfl, hB8⟩
      have hf8 := (HF2.out.below (by (repeat (first | exact Below.refl _ _ | refine Below.drew ?_ | refine below_drewN ?_ _ | refine Below.alloc ?_ (by first | exact Nat.le_refl _ | simp | (simp; omega)) _)); done)).below hB8
      have HF8 := Lib.hid hf8
      have hrc := hf8.res.cell
      have hrf := hf8.res.free
      clear hB8 hf8 HF2 hcj
      go_wp2_with fail
      obtain ⟨hj9, hs9⟩ := HF8.out.fin HBG.out (.int .i64 3) (.string ⟨#[]⟩) (.int .i64 (-1)) (.slice none 0 0)
      exact bodyPost_ret (v := repV 3 [] (-1) (.slice none 0 0)) (by simp [results, Tryz.results67, go_sem, hrc]) rfl ⟨rfl, o1, hj9, hs9⟩)
    · have e0 : leftN sub sec now (some ⟨hv, d, ver⟩) = leftD sub sec now d := if_neg h0
      rw [e0]
      have hd0 : (d == 0) = false := beq_eq_false_iff_ne.2 h0
      have hdn : now < d := by omega
      cases sub <;> cases sec
      · show Calls _ _ _ _ (RepJ o w q p S c ⟨3, [], d⟩)
        replace hnm : nm = petB := hnm
        subst hnm
        go_enter Tryz.func67, Tryz.ntmps67
        go_wp2_with fail
        go_region_held (fun W => W.cell? ⟨cb, 0, none⟩ = some (.pointer (some ⟨p, 0, none⟩)) ∧ W.cell? ⟨cb, 1, none⟩ = some (.int .i64 now) ∧ W.cell? ⟨cb, 3, none⟩ = some (.slice (some ⟨b, off, none⟩) 1 cap) ∧ W.cell? ⟨b, off, none⟩ = some (.string ⟨k.toArray⟩))
          (first | (refine HC.out _ ?_ <;> (repeat (first | exact Below.refl _ _ | refine Below.drew ?_ | refine below_drewN ?_ _ | refine Below.alloc ?_ (by first | exact Nat.le_refl _ | simp | (simp; omega)) _)) <;> done) | (refine HC.out _ (HB2.out.trans (Below.mono ?_ HB2.out.size)) <;> (repeat (first | exact Below.refl _ _ | refine Below.drew ?_ | refine below_drewN ?_ _ | refine Below.alloc ?_ (by first | exact Nat.le_refl _ | simp | (simp; omega)) _)) <;> done)) (first
          | (go_at_call 20
             (with_reducible refine (HDU.out _ (by (repeat (first | exact Below.refl _ _ | refine Below.drew ?_ | refine below_drewN ?_ _ | refine Below.alloc ?_ (by first | exact Nat.le_refl _ | simp | (simp; omega)) _)); done)).mono ?_)
             rintro e w2 ⟨rfl, hB2⟩
             have HB2 := Lib.hid (show Below (w.alloc (.cells zRepC 30)).heap.size (w.alloc (.cells zRepC 30)) w2 from Below.trans (by (repeat (first | exact Below.refl _ _ | refine Below.drew ?_ | refine below_drewN ?_ _ | refine Below.alloc ?_ (by first | exact Nat.le_refl _ | simp | (simp; omega)) _)); done) (hB2.mono (by simp)))
             have hf2 := HF.out.below HB2.out
             have hcj := hf2.call.cell
             have HF2 := Lib.hid hf2
             clear hB2 hf2))
        all_goals (
        clear HDU HC HF hov h0
        go_wp2_with fail
        refine (kint_ok _ _).mono ?_; rintro e w8 ⟨rfl, hB8⟩
        have hf8 := (HF2.out.below (by (repeat (first | exact Below.refl _ _ | refine Below.drew ?_ | refine below_drewN ?_ _ | refine Below.alloc ?_ (by first | exact Nat.le_refl _ | simp | (simp; omega)) _)); done)).below hB8
        have HF8 := Lib.hid hf8
        have hrc := hf8.res.cell
        have hrf := hf8.res.free
        clear hB8 hf8 HF2 hcj
        go_wp2_with fail
        obtain ⟨hj9, hs9⟩ := HF8.out.fin HBG.out (.int .i64 3) (.string ⟨#[]⟩) (.int .i64 d) (.slice none 0 0)
        exact bodyPost_ret (v := repV 3 [] d (.slice none 0 0)) (by simp [results, Tryz.results67, go_sem, hrc]) rfl ⟨rfl, o1, hj9, hs9⟩)
      · show Calls _ _ _ _ (RepJ o w q p S c ⟨3, [], ((d + 999) / 1000)⟩)
        have e2 : IntKind.i64.wrap (d + 999) = d + 999 := by rw [IntKind.wrap_i64]; omega
        have e3 : Int.tdiv (d + 999) 1000 = (d + 999) / 1000 := Int.tdiv_eq_ediv_of_nonneg (by omega)
        replace hnm : nm = etB := hnm
        subst hnm
        go_enter Tryz.func67, Tryz.ntmps67
        go_wp2_with fail
        go_region_held (fun W => W.cell? ⟨cb, 0, none⟩ = some (.pointer (some ⟨p, 0, none⟩)) ∧ W.cell? ⟨cb, 1, none⟩ = some (.int .i64 now) ∧ W.cell? ⟨cb, 3, none⟩ = some (.slice (some ⟨b, off, none⟩) 1 cap) ∧ W.cell? ⟨b, off, none⟩ = some (.string ⟨k.toArray⟩))
          (first | (refine HC.out _ ?_ <;> (repeat (first | exact Below.refl _ _ | refine Below.drew ?_ | refine below_drewN ?_ _ | refine Below.alloc ?_ (by first | exact Nat.le_refl _ | simp | (simp; omega)) _)) <;> done) | (refine HC.out _ (HB2.out.trans (Below.mono ?_ HB2.out.size)) <;> (repeat (first | exact Below.refl _ _ | refine Below.drew ?_ | refine below_drewN ?_ _ | refine Below.alloc ?_ (by first | exact Nat.le_refl _ | simp | (simp; omega)) _)) <;> done)) (first
          | (go_at_call 20
             (with_reducible refine (HDU.out _ (by (repeat (first | exact Below.refl _ _ | refine Below.drew ?_ | refine below_drewN ?_ _ | refine Below.alloc ?_ (by first | exact Nat.le_refl _ | simp | (simp; omega)) _)); done)).mono ?_)
             rintro e w2 ⟨rfl, hB2⟩
             have HB2 := Lib.hid (show Below (w.alloc (.cells zRepC 30)).heap.size (w.alloc (.cells zRepC 30)) w2 from Below.trans (by (repeat (first | exact Below.refl _ _ | refine Below.drew ?_ | refine below_drewN ?_ _ | refine Below.alloc ?_ (by first | exact Nat.le_refl _ | simp | (simp; omega)) _)); done) (hB2.mono (by simp)))
             have hf2 := HF.out.below HB2.out
             have hcj := hf2.call.cell
             have HF2 := Lib.hid hf2
             clear hB2 hf2))
        all_goals (
        clear HDU HC HF hov h0
        go_wp2_with fail
        refine (kint_ok _ _).mono ?_; rintro e w8 ⟨rfl, hB8⟩
        have hf8 := (HF2.out.below (by (repeat (first | exact Below.refl _ _ | refine Below.drew ?_ | refine below_drewN ?_ _ | refine Below.alloc ?_ (by first | exact Nat.le_refl _ | simp | (simp; omega)) _)); done)).below hB8
        have HF8 := Lib.hid hf8
        have hrc := hf8.res.cell
        have hrf := hf8.res.free
        clear hB8 hf8 HF2 hcj
        go_wp2_with fail
        obtain ⟨hj9, hs9⟩ := HF8.out.fin HBG.out (.int .i64 3) (.string ⟨#[]⟩) (.int .i64 ((d + 999) / 1000)) (.slice none 0 0)
        exact bodyPost_ret (v := repV 3 [] ((d + 999) / 1000) (.slice none 0 0)) (by simp [results, Tryz.results67, go_sem, hrc]) rfl ⟨rfl, o1, hj9, hs9⟩)
      · show Calls _ _ _ _ (RepJ o w q p S c ⟨3, [], (d - now)⟩)
        have e1 : IntKind.i64.wrap (d - now) = d - now := by rw [IntKind.wrap_i64]; omega
        replace hnm : nm = pttlB := hnm
        subst hnm
        go_enter Tryz.func67, Tryz.ntmps67
        go_wp2_with fail
        go_region_held (fun W => W.cell? ⟨cb, 0, none⟩ = some (.pointer (some ⟨p, 0, none⟩)) ∧ W.cell? ⟨cb, 1, none⟩ = some (.int .i64 now) ∧ W.cell? ⟨cb, 3, none⟩ = some (.slice (some ⟨b, off, none⟩) 1 cap) ∧ W.cell? ⟨b, off, none⟩ = some (.string ⟨k.toArray⟩))
          (first | (refine HC.out _ ?_ <;> (repeat (first | exact Below.refl _ _ | refine Below.drew ?_ | refine below_drewN ?_ _ | refine Below.alloc ?_ (by first | exact Nat.le_refl _ | simp | (simp; omega)) _)) <;> done) | (refine HC.out _ (HB2.out.trans (Below.mono ?_ HB2.out.size)) <;> (repeat (first | exact Below.refl _ _ | refine Below.drew ?_ | refine below_drewN ?_ _ | refine Below.alloc ?_ (by first | exact Nat.le_refl _ | simp | (simp; omega)) _)) <;> done)) (first
          | (go_at_call 20
             (with_reducible refine (HDU.out _ (by (repeat (first | exact Below.refl _ _ | refine Below.drew ?_ | refine below_drewN ?_ _ | refine Below.alloc ?_ (by first | exact Nat.le_refl _ | simp | (simp; omega)) _)); done)).mono ?_)
             rintro e w2 ⟨rfl, hB2⟩
             have HB2 := Lib.hid (show Below (w.alloc (.cells zRepC 30)).heap.size (w.alloc (.cells zRepC 30)) w2 from Below.trans (by (repeat (first | exact Below.refl _ _ | refine Below.drew ?_ | refine below_drewN ?_ _ | refine Below.alloc ?_ (by first | exact Nat.le_refl _ | simp | (simp; omega)) _)); done) (hB2.mono (by simp)))
             have hf2 := HF.out.below HB2.out
             have hcj := hf2.call.cell
             have HF2 := Lib.hid hf2
             clear hB2 hf2))
        all_goals (
        clear HDU HC HF hov h0
        go_wp2_with fail
        refine (kint_ok _ _).mono ?_; rintro e w8 ⟨rfl, hB8⟩
        have hf8 := (HF2.out.below (by (repeat (first | exact Below.refl _ _ | refine Below.drew ?_ | refine below_drewN ?_ _ | refine Below.alloc ?_ (by first | exact Nat.le_refl _ | simp | (simp; omega)) _)); done)).below hB8
        have HF8 := Lib.hid hf8
        have hrc := hf8.res.cell
        have hrf := hf8.res.free
        clear hB8 hf8 HF2 hcj
        go_wp2_with fail
        obtain ⟨hj9, hs9⟩ := HF8.out.fin HBG.out (.int .i64 3) (.string ⟨#[]⟩) (.int .i64 (d - now)) (.slice none 0 0)
        exact bodyPost_ret (v := repV 3 [] (d - now) (.slice none 0 0)) (by simp [results, Tryz.results67, go_sem, hrc]) rfl ⟨rfl, o1, hj9, hs9⟩)
      · show Calls _ _ _ _ (RepJ o w q p S c ⟨3, [], ((d - now + 999) / 1000)⟩)
        have e1 : IntKind.i64.wrap (d - now) = d - now := by rw [IntKind.wrap_i64]; omega
        have e2 : IntKind.i64.wrap (d - now + 999) = d - now + 999 := by rw [IntKind.wrap_i64]; omega
        have e3 : Int.tdiv (d - now + 999) 1000 = (d - now + 999) / 1000 := Int.tdiv_eq_ediv_of_nonneg (by omega)
        replace hnm : nm = ttlB := hnm
        subst hnm
        go_enter Tryz.func67, Tryz.ntmps67
        go_wp2_with fail
        go_region_held (fun W => W.cell? ⟨cb, 0, none⟩ = some (.pointer (some ⟨p, 0, none⟩)) ∧ W.cell? ⟨cb, 1, none⟩ = some (.int .i64 now) ∧ W.cell? ⟨cb, 3, none⟩ = some (.slice (some ⟨b, off, none⟩) 1 cap) ∧ W.cell? ⟨b, off, none⟩ = some (.string ⟨k.toArray⟩))
          (first | (refine HC.out _ ?_ <;> (repeat (first | exact Below.refl _ _ | refine Below.drew ?_ | refine below_drewN ?_ _ | refine Below.alloc ?_ (by first | exact Nat.le_refl _ | simp | (simp; omega)) _)) <;> done) | (refine HC.out _ (HB2.out.trans (Below.mono ?_ HB2.out.size)) <;> (repeat (first | exact Below.refl _ _ | refine Below.drew ?_ | refine below_drewN ?_ _ | refine Below.alloc ?_ (by first | exact Nat.le_refl _ | simp | (simp; omega)) _)) <;> done)) (first
          | (go_at_call 20
             (with_reducible refine (HDU.out _ (by (repeat (first | exact Below.refl _ _ | refine Below.drew ?_ | refine below_drewN ?_ _ | refine Below.alloc ?_ (by first | exact Nat.le_refl _ | simp | (simp; omega)) _)); done)).mono ?_)
             rintro e w2 ⟨rfl, hB2⟩
             have HB2 := Lib.hid (show Below (w.alloc (.cells zRepC 30)).heap.size (w.alloc (.cells zRepC 30)) w2 from Below.trans (by (repeat (first | exact Below.refl _ _ | refine Below.drew ?_ | refine below_drewN ?_ _ | refine Below.alloc ?_ (by first | exact Nat.le_refl _ | simp | (simp; omega)) _)); done) (hB2.mono (by simp)))
             have hf2 := HF.out.below HB2.out
             have hcj := hf2.call.cell
             have HF2 := Lib.hid hf2
             clear hB2 hf2))
        all_goals (
        clear HDU HC HF hov h0
        go_wp2_with fail
        refine (kint_ok _ _).mono ?_; rintro e w8 ⟨rfl, hB8⟩
        have hf8 := (HF2.out.below (by (repeat (first | exact Below.refl _ _ | refine Below.drew ?_ | refine below_drewN ?_ _ | refine Below.alloc ?_ (by first | exact Nat.le_refl _ | simp | (simp; omega)) _)); done)).below hB8
        have HF8 := Lib.hid hf8
        have hrc := hf8.res.cell
        have hrf := hf8.res.free
        clear hB8 hf8 HF2 hcj
        go_wp2_with fail
        obtain ⟨hj9, hs9⟩ := HF8.out.fin HBG.out (.int .i64 3) (.string ⟨#[]⟩) (.int .i64 ((d - now + 999) / 1000)) (.slice none 0 0)
        exact bodyPost_ret (v := repV 3 [] ((d - now + 999) / 1000) (.slice none 0 0)) (by simp [results, Tryz.results67, go_sem, hrc]) rfl ⟨rfl, o1, hj9, hs9⟩)
end
end Go.Proofs.YthojmgjgmbnopaaGreatDoor
