import Derived.Test.YthojmgjgmbnopaaGreatDoorHo
namespace Go.Proofs.YthojmgjgmbnopaaGreatDoor
open Go Go.RowKit
/-! keycmd: persist. -/
abbrev persistB : Tx := [112, 101, 114, 115, 105, 115, 116]
section
variable {o : Roles} {w : World} {q : List Nat} {p : Nat} {c : Cnt} {S : SP} {cb : Nat} {ρ : List Nat} {now : Int} {sv : Value} {nm : Tx}
set_option maxRecDepth 10000 in
set_option maxHeartbeats 8000000 in
theorem kpersist_no (h : SpJ o w q p S c) (hq : q ≠ []) {k : Tx} (hcb : Blk o w ρ cb (callC p now persistB sv) 112) (hv : Vw (Old w) w sv 1 1 ([k].map txt)) {H : Hd} (hS : S.at now k = some H) (hd : H.due = 0) :
    Calls Tryz.prog 71 #[.pointer (some ⟨cb, 0, none⟩)] w (RepJ o w q p S c ⟨3, [], 0⟩) := by
  obtain ⟨o1, m1, hbg, hj⟩ := begin_roles h hq
  have hfr0 := Fj.begin hbg hj hcb
  have hcc := hcb.cell
  have hcl := hcb.lt
  obtain ⟨a0, cap, rfl, hcap, _, _⟩ := id hv.slice
  obtain ⟨b, off, rfl, hbl, hcap, hg⟩ := vw_get (l := [k]) hv (by omega)
  replace hbl : b < w.heap.size := hbl
  have hk0 := hg 0 k rfl
  rw [Nat.add_zero] at hk0
  have hcapI : (1 : Int) ≤ (cap : Int) := by omega
  have hb0 : (w.alloc (.cells zRepC 30)).cell? ⟨b, off, none⟩ = some (.string ⟨k.toArray⟩) := cell_below hbg.res.2 hk0
  have HF := Lib.hid hfr0
  have HBG := Lib.hid hbg
  have HC := Lib.hid (fun (W : World) (hW : Below (w.alloc (.cells zRepC 30)).heap.size (w.alloc (.cells zRepC 30)) W) => show W.cell? ⟨cb, 0, none⟩ = some (.pointer (some ⟨p, 0, none⟩)) ∧ W.cell? ⟨cb, 1, none⟩ = some (.int .i64 now) ∧ W.cell? ⟨cb, 3, none⟩ = some (.slice (some ⟨b, off, none⟩) 1 cap) ∧ W.cell? ⟨b, off, none⟩ = some (.string ⟨k.toArray⟩) from ⟨(hfr0.call.below hW).cell 0, (hfr0.call.below hW).cell 1, (hfr0.call.below hW).cell 3, cell_below hW hb0⟩)
  obtain ⟨⟨kind, text, list, fields, ranked⟩, hV⟩ : ∃ V, V = ((S.at now k).getD hd0).v := ⟨_, rfl⟩
  have HG := Lib.hid (fun (W : World) (hW : Below (w.alloc (.cells zRepC 30)).heap.size (w.alloc (.cells zRepC 30)) W) => by
    have h1 := jget_ok (hfr0.sp.below hW) k now
    rw [← hV] at h1
    exact h1)
  have HDU := Lib.hid (fun (W : World) (hW : Below (w.alloc (.cells zRepC 30)).heap.size (w.alloc (.cells zRepC 30)) W) => jdue_ok (hfr0.sp.below hW) k now)
  clear hV
  unfold GetDid at HG
  unfold DueDid at HDU
  rw [hS] at HG HDU
  simp only [Option.getD_some, Option.isSome_some] at HG HDU
  rw [hd] at HDU
  clear h hcb hv hbg hj hfr0 hg hS hk0
  unfold txt at HG HDU
  go_enter Tryz.func71, Tryz.ntmps71
  go_wp2_with fail
  obtain ⟨wr, hwr⟩ : ∃ wr, wr = (w.alloc (.cells zRepC 30)) := ⟨_, rfl⟩
  have HBR := Lib.hid (show Below (w.alloc (.cells zRepC 30)).heap.size (w.alloc (.cells zRepC 30)) wr from by rw [hwr]; exact Below.refl _ _)
  have HD0 := Lib.hid (show Blk o1 (wr.alloc (.cells #[.int .i64 0, .string ⟨#[]⟩, .slice none 0 0, .slice none 0 0, .slice none 0 0] 43)) [m1 + 2] wr.heap.size #[.int .i64 0, .string ⟨#[]⟩, .slice none 0 0, .slice none 0 0, .slice none 0 0] 43 from ⟨heap_alloc_new _ _, HBG.out.new _ (Nat.le_trans HBG.out.res.2.size HBR.out.size)⟩)
  rw [← hwr]
  clear hwr
  go_cut [9, 10] from 144 to 162 (fun s8 s9 wx => GotR (w.alloc (.cells zRepC 30)) o1 m1 ⟨kind, text, list, fields, ranked⟩ true s8 s9 wx)
  case first =>
    go_region_held (fun W => W.cell? ⟨cb, 0, none⟩ = some (.pointer (some ⟨p, 0, none⟩)) ∧ W.cell? ⟨cb, 1, none⟩ = some (.int .i64 now) ∧ W.cell? ⟨cb, 3, none⟩ = some (.slice (some ⟨b, off, none⟩) 1 cap) ∧ W.cell? ⟨b, off, none⟩ = some (.string ⟨k.toArray⟩))
      (refine HC.out _ ?_ <;> (repeat (first | with_reducible exact Below.refl _ _ | with_reducible exact HBR.out | with_reducible exact HB2.out | with_reducible exact HB3.out | with_reducible exact HB6.out | with_reducible refine Below.drew ?_ | with_reducible refine below_drewN ?_ _ | (with_reducible refine bl_set ?_ ?_; (first | exact Nat.le_refl _ | exact HB2.out.size | exact HB3.out.size | exact HBR.out.size | exact HB6.out.size | (simp; done) | (simp; omega) | (simp; have := HBR.out.size; rw [World.size_alloc] at this; omega))) | (with_reducible refine bl_all ?_ ?_; (first | exact Nat.le_refl _ | exact HB2.out.size | exact HB3.out.size | exact HBR.out.size | exact HB6.out.size | (simp; done) | (simp; omega) | (simp; have := HBR.out.size; rw [World.size_alloc] at this; omega))))) <;> done) (first
      | (go_at_call 24
         (with_reducible refine (HG.out _ (by (repeat (first | with_reducible exact Below.refl _ _ | with_reducible exact HBR.out | with_reducible exact HB2.out | with_reducible exact HB3.out | with_reducible exact HB6.out | with_reducible refine Below.drew ?_ | with_reducible refine below_drewN ?_ _ | (with_reducible refine bl_set ?_ ?_; (first | exact Nat.le_refl _ | exact HB2.out.size | exact HB3.out.size | exact HBR.out.size | exact HB6.out.size | (simp; done) | (simp; omega) | (simp; have := HBR.out.size; rw [World.size_alloc] at this; omega))) | (with_reducible refine bl_all ?_ ?_; (first | exact Nat.le_refl _ | exact HB2.out.size | exact HB3.out.size | exact HBR.out.size | exact HB6.out.size | (simp; done) | (simp; omega) | (simp; have := HBR.out.size; rw [World.size_alloc] at this; omega))))); done)).mono ?_)
         rintro e w2 ⟨l, f, r, rfl, hv, hB2⟩
         obtain ⟨b1, d1, rfl, _⟩ := id hv.list.slice
         obtain ⟨b2, d2, rfl, _⟩ := id hv.fields.slice
         obtain ⟨b3, d3, rfl, _⟩ := id hv.ranked.slice
         have HV := Lib.hid hv
         have hB20 : Below (w.alloc (.cells zRepC 30)).heap.size (w.alloc (.cells zRepC 30)) w2 := Below.trans (by (repeat (first | with_reducible exact Below.refl _ _ | with_reducible exact HBR.out | with_reducible exact HB2.out | with_reducible exact HB3.out | with_reducible exact HB6.out | with_reducible refine Below.drew ?_ | with_reducible refine below_drewN ?_ _ | (with_reducible refine bl_set ?_ ?_; (first | exact Nat.le_refl _ | exact HB2.out.size | exact HB3.out.size | exact HBR.out.size | exact HB6.out.size | (simp; done) | (simp; omega) | (simp; have := HBR.out.size; rw [World.size_alloc] at this; omega))) | (with_reducible refine bl_all ?_ ?_; (first | exact Nat.le_refl _ | exact HB2.out.size | exact HB3.out.size | exact HBR.out.size | exact HB6.out.size | (simp; done) | (simp; omega) | (simp; have := HBR.out.size; rw [World.size_alloc] at this; omega))))); done) (hB2.mono (by (first | exact Nat.le_refl _ | exact HB2.out.size | exact HB3.out.size | exact HBR.out.size | exact HB6.out.size | (simp; done) | (simp; omega) | (simp; have := HBR.out.size; rw [World.size_alloc] at this; omega))))
         have HB2 := Lib.hid hB20
         first
         | (have hd2 := HD0.out.below (Below.trans (by (repeat (first | with_reducible exact Below.refl _ _ | with_reducible exact HBR.out | with_reducible exact HB2.out | with_reducible exact HB3.out | with_reducible exact HB6.out | with_reducible refine Below.drew ?_ | with_reducible refine below_drewN ?_ _ | (with_reducible refine bl_set ?_ ?_; (first | exact Nat.le_refl _ | exact HB2.out.size | exact HB3.out.size | exact HBR.out.size | exact HB6.out.size | (simp; done) | (simp; omega) | (simp; have := HBR.out.size; rw [World.size_alloc] at this; omega))) | (with_reducible refine bl_all ?_ ?_; (first | exact Nat.le_refl _ | exact HB2.out.size | exact HB3.out.size | exact HBR.out.size | exact HB6.out.size | (simp; done) | (simp; omega) | (simp; have := HBR.out.size; rw [World.size_alloc] at this; omega))))); done) hB2)
            have hcd := hd2.cell
            have hfd := hd2.free
            have HD2 := Lib.hid hd2
            clear hd2)
         | skip
         clear hv hB2 hB20))
    all_goals (
      clear HG HDU
      first
      | (have D := GotR.one (ok := true) HV.out (fun b hb => Nat.le_trans HBR.out.size hb) HBG.out HBG.out.res.2.size HB2.out
         have HD := Lib.hid D
         clear D
         go_wp2_with fail
         go_meet
         exact HD.out)
      | (have D := GotR.two (ok := true) HV.out (fun b hb => by have h1 := HBR.out.size; have h2 : wr.heap.size + 1 ≤ b := (by simpa using hb); constructor <;> omega) HD2.out HB2.out HBR.out.size
         have HD := Lib.hid D
         clear D
         go_wp2_with fail
         go_meet
         exact HD.out))
  case rest =>
    obtain ⟨g, l, f, r, rfl, rfl, hB3, hvb, hvv⟩ := hcut
    obtain ⟨lb, ld, rfl, _⟩ := id hvv.list.slice
    obtain ⟨fb, fd, rfl, _⟩ := id hvv.fields.slice
    obtain ⟨rb, rd, rfl, _⟩ := id hvv.ranked.slice
    have HB3 := Lib.hid hB3
    have HVB := Lib.hid hvb
    have HVV := Lib.hid hvv
    clear hB3 hvb hvv HBR HD0 HG
    have hcj3 := (HF.out.below HB3.out).call.cell
    go_wp2_with fail
    go_region_held (fun W => W.cell? ⟨cb, 0, none⟩ = some (.pointer (some ⟨p, 0, none⟩)) ∧ W.cell? ⟨cb, 1, none⟩ = some (.int .i64 now) ∧ W.cell? ⟨cb, 3, none⟩ = some (.slice (some ⟨b, off, none⟩) 1 cap) ∧ W.cell? ⟨b, off, none⟩ = some (.string ⟨k.toArray⟩))
      (refine HC.out _ ?_ <;> (repeat (first | with_reducible exact Below.refl _ _ | with_reducible exact HBR.out | with_reducible exact HB2.out | with_reducible exact HB3.out | with_reducible exact HB6.out | with_reducible refine Below.drew ?_ | with_reducible refine below_drewN ?_ _ | (with_reducible refine bl_set ?_ ?_; (first | exact Nat.le_refl _ | exact HB2.out.size | exact HB3.out.size | exact HBR.out.size | exact HB6.out.size | (simp; done) | (simp; omega) | (simp; have := HBR.out.size; rw [World.size_alloc] at this; omega))) | (with_reducible refine bl_all ?_ ?_; (first | exact Nat.le_refl _ | exact HB2.out.size | exact HB3.out.size | exact HBR.out.size | exact HB6.out.size | (simp; done) | (simp; omega) | (simp; have := HBR.out.size; rw [World.size_alloc] at this; omega))))) <;> done) (first
      | (go_at_call 20
         (with_reducible refine (HDU.out _ (by (repeat (first | with_reducible exact Below.refl _ _ | with_reducible exact HBR.out | with_reducible exact HB2.out | with_reducible exact HB3.out | with_reducible exact HB6.out | with_reducible refine Below.drew ?_ | with_reducible refine below_drewN ?_ _ | (with_reducible refine bl_set ?_ ?_; (first | exact Nat.le_refl _ | exact HB2.out.size | exact HB3.out.size | exact HBR.out.size | exact HB6.out.size | (simp; done) | (simp; omega) | (simp; have := HBR.out.size; rw [World.size_alloc] at this; omega))) | (with_reducible refine bl_all ?_ ?_; (first | exact Nat.le_refl _ | exact HB2.out.size | exact HB3.out.size | exact HBR.out.size | exact HB6.out.size | (simp; done) | (simp; omega) | (simp; have := HBR.out.size; rw [World.size_alloc] at this; omega))))); done)).mono ?_)
         rintro e w6 ⟨rfl, hB6⟩
         have hB36 : Below wc.heap.size wc w6 := Below.trans (by (repeat (first | with_reducible exact Below.refl _ _ | with_reducible exact HBR.out | with_reducible exact HB2.out | with_reducible exact HB3.out | with_reducible exact HB6.out | with_reducible refine Below.drew ?_ | with_reducible refine below_drewN ?_ _ | (with_reducible refine bl_set ?_ ?_; (first | exact Nat.le_refl _ | exact HB2.out.size | exact HB3.out.size | exact HBR.out.size | exact HB6.out.size | (simp; done) | (simp; omega) | (simp; have := HBR.out.size; rw [World.size_alloc] at this; omega))) | (with_reducible refine bl_all ?_ ?_; (first | exact Nat.le_refl _ | exact HB2.out.size | exact HB3.out.size | exact HBR.out.size | exact HB6.out.size | (simp; done) | (simp; omega) | (simp; have := HBR.out.size; rw [World.size_alloc] at this; omega))))); done) (hB6.mono (by (first | exact Nat.le_refl _ | exact HB2.out.size | exact HB3.out.size | exact HBR.out.size | exact HB6.out.size | (simp; done) | (simp; omega) | (simp; have := HBR.out.size; rw [World.size_alloc] at this; omega))))
         have hB60 : Below (w.alloc (.cells zRepC 30)).heap.size (w.alloc (.cells zRepC 30)) w6 := HB3.out.trans (hB36.mono HB3.out.size)
         have hf6 := HF.out.below hB60
         have hcj := hf6.call.cell
         have HF6 := Lib.hid hf6
         have HB6 := Lib.hid hB60
         have HVB6 := Lib.hid (HVB.out.below hB36)
         have HVV6 := Lib.hid (HVV.out.below hB36)
         clear hB6 hB60 hf6 hB36 HVB HVV))
    all_goals (
      clear HC HDU HF hcc hb0 HB3 hcj3
      go_wp2_with fail
      refine (kint_ok _ _).mono ?_; rintro e w8 ⟨rfl, hB8⟩
      have hf8 := (HF6.out.below (by (repeat (first | with_reducible exact Below.refl _ _ | with_reducible exact HBR.out | with_reducible exact HB2.out | with_reducible exact HB3.out | with_reducible exact HB6.out | with_reducible refine Below.drew ?_ | with_reducible refine below_drewN ?_ _ | (with_reducible refine bl_set ?_ ?_; (first | exact Nat.le_refl _ | exact HB2.out.size | exact HB3.out.size | exact HBR.out.size | exact HB6.out.size | (simp; done) | (simp; omega) | (simp; have := HBR.out.size; rw [World.size_alloc] at this; omega))) | (with_reducible refine bl_all ?_ ?_; (first | exact Nat.le_refl _ | exact HB2.out.size | exact HB3.out.size | exact HBR.out.size | exact HB6.out.size | (simp; done) | (simp; omega) | (simp; have := HBR.out.size; rw [World.size_alloc] at this; omega))))); done)).below hB8
      have HF8 := Lib.hid hf8
      have hrc := hf8.res.cell
      have hrf := hf8.res.free
      clear hB8 hf8 HF6 hcj
      go_wp2_with fail
      obtain ⟨hj9, hs9⟩ := HF8.out.fin HBG.out (.int .i64 3) (.string ⟨#[]⟩) (.int .i64 0) (.slice none 0 0)
      exact bodyPost_ret (v := repV 3 [] 0 (.slice none 0 0)) (by simp [results, Tryz.results71, go_sem, hrc]) rfl ⟨rfl, o1, hj9, hs9⟩)
end
end Go.Proofs.YthojmgjgmbnopaaGreatDoor
