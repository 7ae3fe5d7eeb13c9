import Derived.Test.YthojmgjgmbnopaaGreatDoorJJ
import Derived.Test.YthojmgjgmbnopaaGreatDoorJK
namespace Go.Proofs.YthojmgjgmbnopaaGreatDoor
open Go Go.RowKit
/-! GETRANGE of all. -/
theorem parse0 : parseN [48] = some 0 := by decide +kernel
theorem parseM : parseN [45, 49] = some (-1) := by decide +kernel
section
variable {o : Roles} {w : World} {q : List Nat} {p : Nat} {c : Cnt} {S : SP} {cb : Nat} {ρ : List Nat} {now : Int} {sv : Value} {nm : Tx}
set_option maxRecDepth 10000 in
set_option maxHeartbeats 4000000 in
theorem getrange_all (hT : Tbl w) (h : SpJ o w q p S c) (hq : q ≠ []) {k : Tx} (hcb : Blk o w ρ cb (callC p now nm sv) 108)
    (hv : Vw (fun b => b < w.heap.size ∧ ¬ q <+: o b) w sv 1 3 ([k, [48], [45, 49]].map txt)) (hbad : S.bad now k = false) (hs : (S.txt now k).length ≤ 1048576) :
    Calls Tryz.prog 107 #[.pointer (some ⟨cb, 0, none⟩)] w (RepJ o w q p S c ⟨4, S.txt now k, 0⟩) := by
  obtain ⟨o1, m1, hbg, hj⟩ := begin_roles h hq
  have hfr0 := Fr.begin hbg hj hcb
  have hcc := hfr0.call.cell
  have hcl := hfr0.call.lt
  obtain ⟨b, off, cap, rfl, hbl, hA, hcap, hg⟩ := arg_at (args := [k, [48], [45, 49]]) hv (by simp)
  have hB0 := hbg.res.2
  have hk := cell_below hB0 (hg 0 k rfl)
  rw [Nat.add_zero] at hk
  have hk1 := cell_below hB0 (hg 1 [48] rfl)
  have hk2 := cell_below hB0 (hg 2 [45, 49] rfl)
  have hcapI : (3 : Int) ≤ (cap : Int) := by simp at hcap; omega
  have HF := Lib.hid hfr0
  have HBG := Lib.hid hbg
  have HTW := Lib.hid (fun (W : World) (hW : Below (w.alloc (.cells zRepC 30)).heap.size (w.alloc (.cells zRepC 30)) W) => show Calls Tryz.prog 179 #[.string ⟨#[48]⟩, .string ⟨#[45, 49]⟩] W fun e w' => e = .returned (.tuple #[.int .i64 0, .int .i64 (-1), .bool true]) ∧ Below W.heap.size W w' from by
    have h1 := two_ok ((hT.below hB0).below hW) [48] [45, 49] (by decide) (by decide)
    unfold TwoDid at h1
    rw [parse0, parseM] at h1
    exact h1)
  have HTX := Lib.hid (fun (W : World) (hW : Below (w.alloc (.cells zRepC 30)).heap.size (w.alloc (.cells zRepC 30)) W) => by
    have h1 := ctext_any (hfr0.sp.below hW) (hfr0.call.below hW) k
    rw [hbad] at h1
    exact h1)
  have HRG := Lib.hid (fun W => brange_ok W (S.txt now k) hs)
  have HKS := Lib.hid (show ∀ W, Below (w.alloc (.cells zRepC 30)).heap.size (w.alloc (.cells zRepC 30)) W → (∀ j, W.cell? ⟨cb, j, none⟩ = (callC p now nm (.slice (some ⟨b, off, none⟩) 3 cap))[j]?) ∧ W.cell? ⟨b, off, none⟩ = some (.string ⟨k.toArray⟩) ∧ W.cell? ⟨b, off + 1, none⟩ = some (.string ⟨#[48]⟩) ∧ W.cell? ⟨b, off + 2, none⟩ = some (.string ⟨#[45, 49]⟩) from fun W hW => ⟨(hfr0.call.below hW).cell, cell_below hW hk, cell_below hW hk1, cell_below hW hk2⟩)
  generalize S.txt now k = tx at *
  generalize S.is now k = ok at *
  clear h hcb hv hbg hj hfr0 hg hcap hbad hs hT
  unfold txt at HRG
  go_enter Tryz.func107, Tryz.ntmps107
  go_wp2_with fail
  go_region_held (fun W => (∀ j, W.cell? ⟨cb, j, none⟩ = (callC p now nm (.slice (some ⟨b, off, none⟩) 3 cap))[j]?) ∧ W.cell? ⟨b, off, none⟩ = some (.string ⟨k.toArray⟩) ∧ W.cell? ⟨b, off + 1, none⟩ = some (.string ⟨#[48]⟩) ∧ W.cell? ⟨b, off + 2, none⟩ = some (.string ⟨#[45, 49]⟩)) (first | exact HKS.out _ (Below.refl _ _) | exact HKS.out _ (Below.refl _ _).drew | exact HC5.out) (first
    | (go_at_call 179
       (with_reducible refine (HTW.out _ (by first | exact (Below.refl _ _).drew | exact Below.refl _ _)).mono ?_)
       rintro e w5 ⟨rfl, hB5⟩
       have hB5' := (Below.refl _ (w.alloc (.cells zRepC 30))).drew.trans hB5
       have HC5 := Lib.hid (HKS.out _ hB5')
       have HB5 := Lib.hid hB5'
       clear hB5 hB5'))
  all_goals (
    obtain ⟨hcx, hkx, _, _⟩ := HC5.out
    have hlx : cb < w5.heap.size := Nat.lt_of_lt_of_le hcl HB5.out.size
    clear hcc hk hk1 hk2 HC5 HTW
    go_wp2_with fail
    refine (HTX.out _ HB5.out).mono ?_; rintro e w6 ⟨rfl, hB6⟩
    have hf6 := HF.out.below (HB5.out.trans (hB6.mono HB5.out.size))
    have HFX := Lib.hid hf6
    clear hB6 hf6 HTX HF hcx hkx HB5 HKS
    go_wp2_with fail
    refine (HRG.out _).mono ?_; rintro e w7 ⟨rfl, rfl⟩
    have HBU := Lib.hid (lbulk_ok w7 tx)
    unfold txt at HBU
    clear HRG
    go_wp2_with fail
    refine HBU.out.mono ?_; rintro e w8 ⟨rfl, hB8⟩
    have hf8 := HFX.out.below hB8
    have HF8 := Lib.hid hf8
    have hrc := hf8.res.cell
    have hrf := hf8.res.free
    clear hB8 hf8 HFX HBU
    go_wp2_with fail
    obtain ⟨hj7, hs7⟩ := HF8.out.fin HBG.out (.int .i64 4) (.string ⟨tx.toArray⟩) (.int .i64 0) (.slice none 0 0)
    exact bodyPost_ret (v := repV 4 tx 0 (.slice none 0 0)) (by simp [results, Tryz.results107, go_sem, hrc]) rfl ⟨rfl, o1, hj7, hs7⟩)
end
section
variable {o : Roles} {w w0 : World} {p m : Nat} {c : Cnt} {S : SP}
theorem run_getrange (hTb : Tbl w) (H : At w0 o w p S c m) (_hm : m ≤ 1000000000) {k t : Tx} (hT : TextAt S k t) (ht : t.length ≤ 1048576) :
    Calls Tryz.prog 17 #[.pointer (some ⟨p, 0, none⟩), .slice (some ⟨w.heap.size, 0, none⟩) 4 4] (w.alloc (.cells ([[103, 101, 116, 114, 97, 110, 103, 101], k, [48], [45, 49]].map txt).toArray 9)) (RunQ w0 p m ⟨4, t, 0, []⟩ (fun S' => TextAt S' k t)) :=
  run17 (args := [k, [48], [45, 49]]) (nm := [103, 101, 116, 114, 97, 110, 103, 101]) (low := [103, 101, 116, 114, 97, 110, 103, 101]) (H.lit _) (lit_apart o w [[103, 101, 116, 114, 97, 110, 103, 101], k, [48], [45, 49]] (by simp)) (by decide) (by decide) (by simp) (by simp) fits_getrange goes_getrange
    (fun _ _ _ _ _ hj _ hB hcb hv => (by
      have h1 := getrange_all ((hTb.below (lit_below0 w _)).below hB) hj (by decide) hcb hv hT.is.2.1 (by rw [hT.is.2.2]; exact ht)
      rw [hT.is.2.2] at h1
      exact h1.mono fun _ _ h => h.repL ⟨hT, near_same _⟩))
end
end Go.Proofs.YthojmgjgmbnopaaGreatDoor
