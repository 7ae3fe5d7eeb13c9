import Derived.Test.YthojmgjgmbnopaaGreatDoorHl
namespace Go.Proofs.YthojmgjgmbnopaaGreatDoor
open Go Go.RowKit
/-! keycmd: scan with a cursor that may not be; rename of a key that is not there. -/
abbrev scanB : Tx := [115, 99, 97, 110]
section
variable {o : Roles} {w : World} {q : List Nat} {p : Nat} {c : Cnt} {S : SP} {cb : Nat} {ρ : List Nat} {now : Int} {sv : Value} {nm : Tx}
set_option maxRecDepth 10000 in
set_option maxHeartbeats 4000000 in
theorem kscan_bad (h : SpJ o w q p S c) (hq : q ≠ []) (hcb : Blk o w ρ cb (callC p now scanB sv) 112) (hv : Vw (Old w) w sv 1 1 ([[49]].map txt)) :
    Calls Tryz.prog 69 #[.pointer (some ⟨cb, 0, none⟩)] w (RepJ o w q p S c ⟨2, cursErr, 0⟩) := by
  obtain ⟨o1, m1, hbg, hj⟩ := begin_roles h hq
  have hfr0 := Fj.begin hbg hj hcb
  have hcc := hcb.cell
  have hcl := hcb.lt
  obtain ⟨a0, cap, rfl, hcap, _, _⟩ := id hv.slice
  obtain ⟨b, off, rfl, hbl, hcap, hg⟩ := vw_get (l := [[49]]) hv (by omega)
  replace hbl : b < w.heap.size := hbl
  have hk0 := hg 0 [49] rfl
  rw [Nat.add_zero] at hk0
  have hcapI : (1 : Int) ≤ (cap : Int) := by omega
  have hkb : (w.alloc (.cells zRepC 30)).cell? ⟨b, off, none⟩ = some (.string ⟨#[49]⟩) := cell_below hbg.res.2 hk0
  have HF := Lib.hid hfr0
  have HBG := Lib.hid hbg
  have HX := Lib.hid (fun (W : World) => kfail_ok W cursErr)
  clear h hcb hv hbg hj hfr0 hg hk0
  unfold txt at HX
  go_enter Tryz.func69, Tryz.ntmps69
  go_wp2_with fail
  go_step3
  go_wp2_with fail
  refine (HX.out _).mono ?_; rintro e w8 ⟨rfl, hB8⟩
  have hf8 := (HF.out.below (Below.alloc (Below.refl _ _) (Nat.le_refl _) _)).below hB8
  have HF8 := Lib.hid hf8
  have hrc := hf8.res.cell
  have hrf := hf8.res.free
  clear hB8 hf8 HF HX hcc
  go_wp2_with fail
  obtain ⟨hj9, hs9⟩ := HF8.out.fin HBG.out (.int .i64 2) (.string ⟨#[69, 82, 82, 32, 116, 104, 101, 32, 99, 117, 114, 115, 111, 114, 32, 109, 97, 121, 32, 110, 111, 116, 32, 98, 101]⟩) (.int .i64 0) (.slice none 0 0)
  exact bodyPost_ret (v := repV 2 cursErr 0 (.slice none 0 0)) (by simp [results, Tryz.results69, go_sem, hrc]) rfl ⟨rfl, o1, hj9, hs9⟩
end
end Go.Proofs.YthojmgjgmbnopaaGreatDoor
