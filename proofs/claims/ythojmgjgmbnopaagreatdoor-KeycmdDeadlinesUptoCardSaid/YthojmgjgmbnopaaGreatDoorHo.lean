import Derived.Test.YthojmgjgmbnopaaGreatDoorHn
namespace Go.Proofs.YthojmgjgmbnopaaGreatDoor
open Go Go.RowKit
/-! keycmd: rename of a text. -/
section
variable {o : Roles} {w : World} {q : List Nat} {p : Nat} {c : Cnt} {S : SP} {cb : Nat} {ρ : List Nat} {now : Int} {sv : Value} {nm : Tx}
set_option maxRecDepth 10000 in
set_option maxHeartbeats 8000000 in
/-- Rename of the text at a to b. -/
theorem kren_ok (h : SpJ o w q p S c) (hq : q ≠ []) (hρ : ¬ q <+: ρ) (hcb : Blk o w ρ cb (callC p now renameB sv) 112) {k d : Tx} (hk : k = [97]) (hd : d = [98]) (hv : Vw (Old w) w sv 1 2 ([k, d].map txt)) {s : Tx} {due : Int} {ver : Nat} (hS : S.at now k = some ⟨textV s, due, ver⟩) (hsl0 : s.length ≤ 1048576) (hc : c.num ≤ 4611686018427387000) (hfw : c.few ≤ 1099511627000) :
    Calls Tryz.prog 68 #[.pointer (some ⟨cb, 0, none⟩)] w (RepJ o w q p ((S.put d ⟨textV s, due, c.num + 1⟩).del k) c.next.touch ⟨1, [79, 75], 0⟩) := by
  have hlt := h.role.2
  have hlim := h.lim (SP.at_some hS).1
  obtain ⟨o1, m1, hbg, hj⟩ := begin_roles h hq
  have hfr0 := Fj.begin hbg hj hcb
  have hcc := hcb.cell
  have hcl := hcb.lt
  obtain ⟨a0, cap, rfl, hcap, _, _⟩ := id hv.slice
  obtain ⟨b, off, rfl, hbl, hcap, hg⟩ := vw_get hv (by omega)
  replace hbl : b < w.heap.size := hbl
  have hk0 := hg 0 k rfl
  have hk1 := hg 1 d rfl
  rw [Nat.add_zero] at hk0
  have hcapI : (2 : Int) ≤ (cap : Int) := by omega
  have hb0 : (w.alloc (.cells zRepC 30)).cell? ⟨b, off, none⟩ = some (.string ⟨k.toArray⟩) := cell_below hbg.res.2 hk0
  have hb1 : (w.alloc (.cells zRepC 30)).cell? ⟨b, off + 1, none⟩ = some (.string ⟨d.toArray⟩) := cell_below hbg.res.2 hk1
  obtain ⟨a2, c2, _, hcut, _, _⟩ := vw_cut hv 2 2 (by omega) (Nat.le_refl _)
  have hsl : ∀ W, (Instr.slice 39 (.slice (some ⟨b, off, none⟩) 2 cap) (some (.int .i64 2)) none none).run Tryz.prog W = .ok (.slice a2 0 c2) W := fun W => hcut rfl W
  clear hcut
  have HF := Lib.hid hfr0
  have HBG := Lib.hid hbg
  have HC := Lib.hid (fun (W : World) (hW : Below (w.alloc (.cells zRepC 30)).heap.size (w.alloc (.cells zRepC 30)) W) => show W.cell? ⟨cb, 0, none⟩ = some (.pointer (some ⟨p, 0, none⟩)) ∧ W.cell? ⟨cb, 1, none⟩ = some (.int .i64 now) from ⟨(hfr0.call.below hW).cell 0, (hfr0.call.below hW).cell 1⟩)
  obtain ⟨⟨kind, text, list, fields, ranked⟩, hV⟩ : ∃ V, V = ((S.at now k).getD hd0).v := ⟨_, rfl⟩
  have HG := Lib.hid (fun (W : World) (hW : Below (w.alloc (.cells zRepC 30)).heap.size (w.alloc (.cells zRepC 30)) W) => by
    have h1 := jget_ok (hfr0.sp.below hW) k now
    rw [← hV] at h1
    exact h1)
  have HDU := Lib.hid (fun (W : World) (hW : Below (w.alloc (.cells zRepC 30)).heap.size (w.alloc (.cells zRepC 30)) W) => jdue_ok (hfr0.sp.below hW) k now)
  have hV1 := hV
  rw [hS] at hV1
  simp only [Option.getD_some] at hV1
  injection hV1 with e1 e2 e3 e4 e5
  clear hV
  unfold GetDid at HG
  unfold DueDid at HDU
  rw [hS] at HG HDU
  simp only [Option.getD_some, Option.isSome_some] at HG HDU
  have HPU := Lib.hid (fun (W : World) (ll lf lr : Value) (hj2 : SpJ o1 W q p S c) (hv2 : Val3 (fun b => (w.alloc (.cells zRepC 30)).heap.size ≤ b) W ⟨kind, text, list, fields, ranked⟩ ll lf lr) => jput_ok hj2 d hv2 ⟨by show text.length ≤ _; rw [e2]; omega, by show list.length ≤ _; rw [e3]; simp, by show fields.length ≤ _; rw [e4]; simp, by show ranked.length ≤ _; rw [e5]; simp⟩ (fun b hb => by have := hbg.res.2.size; omega) due hlim (fun W2 hW2 => vcheck_text (hv2.below hW2) e1 e3 e4 e5 (by show text.length ≤ _; rw [e2]; exact hsl0)) (by omega) (by omega))
  have hne : k ≠ d := by rw [hk, hd]; decide
  have hS2 : (S.put d ⟨⟨kind, text, list, fields, ranked⟩, due, c.num + 1⟩) k = some ⟨textV s, due, ver⟩ := by
    unfold SP.put
    rw [if_neg hne]
    exact (SP.at_some hS).1
  have HDR := Lib.hid (fun (o7 : Roles) (W : World) (hj2 : SpJ o7 W q p (S.put d ⟨⟨kind, text, list, fields, ranked⟩, due, c.num + 1⟩) c.next) => jdrop_ok hj2 k hS2 (by show c.num + 1 ≤ _; omega) (by show c.few + 1 ≤ _; omega))
  obtain ⟨S1, hS1⟩ : ∃ S1, S1 = S.put d ⟨⟨kind, text, list, fields, ranked⟩, due, c.num + 1⟩ := ⟨_, rfl⟩
  have hSe : S.put d ⟨textV s, due, c.num + 1⟩ = S1 := by rw [hS1, e1, e2, e3, e4, e5]
  rw [hSe]
  rw [← hS1] at HPU HDR
  obtain ⟨S2, hS2'⟩ : ∃ S2, S2 = S1.del k := ⟨_, rfl⟩
  rw [← hS2'] at HDR ⊢
  obtain ⟨c1, hc1⟩ : ∃ c1, c1 = c.next := ⟨_, rfl⟩
  rw [← hc1] at HPU HDR ⊢
  have HX := Lib.hid (fun (W : World) => ksimple_ok W [79, 75])
  have HSL := Lib.hid (And.intro hsl0 (And.intro hc hfw))
  clear h hcb hv hbg hj hfr0 hg hS hk0 hk1 hS1 hSe hS2' hc1 e1 e2 e3 e4 e5 hS2 hlim hlt hne hsl0 hc hfw
  unfold txt at HG HDU HX HDR HPU
  subst hk hd
  go_enter Tryz.func68, Tryz.ntmps68
  go_wp2_with fail
  go_quiet (fail)
  go_wp2_with fail
  all_goals (
  go_loopw [5, 31] (fun r i wr => RenRel (w.alloc (.cells zRepC 30)) r i wr) (fun _ i _ => 0)
  case atStart => exact ⟨rfl, rfl, by (repeat (first | with_reducible exact Below.refl _ _ | with_reducible exact HBR.out | with_reducible exact HB2.out | with_reducible exact HB3.out | with_reducible exact HB6.out | with_reducible refine Below.drew ?_ | with_reducible refine below_drewN ?_ _ | (with_reducible refine bl_set ?_ ?_; (first | exact Nat.le_refl _ | exact HB2.out.size | exact HB3.out.size | exact HBR.out.size | exact HB6.out.size | (simp; done) | (simp; omega) | (simp; have := HBR.out.size; rw [World.size_alloc] at this; omega))) | (with_reducible refine bl_all ?_ ?_; (first | exact Nat.le_refl _ | exact HB2.out.size | exact HB3.out.size | exact HBR.out.size | exact HB6.out.size | (simp; done) | (simp; omega) | (simp; have := HBR.out.size; rw [World.size_alloc] at this; omega)))))⟩
  case round =>
    rename_i wr
    obtain ⟨rfl, rfl, hBr⟩ := hrel
    have HBR := Lib.hid hBr
    have HD0 := Lib.hid (show Blk o1 (wr.alloc (.cells #[.int .i64 0, .string ⟨#[]⟩, .slice none 0 0, .slice none 0 0, .slice none 0 0] 43)) [m1 + 2] wr.heap.size #[.int .i64 0, .string ⟨#[]⟩, .slice none 0 0, .slice none 0 0, .slice none 0 0] 43 from ⟨heap_alloc_new _ _, HBG.out.new _ (Nat.le_trans HBG.out.res.2.size hBr.size)⟩)
    clear hBr
    go_wp2_with fail
    go_cut [8, 9] from 40 to 53 (fun s8 s9 wx => GotR (w.alloc (.cells zRepC 30)) o1 m1 ⟨kind, text, list, fields, ranked⟩ true s8 s9 wx)
    case first =>
      go_region_held (fun W => W.cell? ⟨cb, 0, none⟩ = some (.pointer (some ⟨p, 0, none⟩)) ∧ W.cell? ⟨cb, 1, none⟩ = some (.int .i64 now))
        (refine HC.out _ ?_ <;> (repeat (first | with_reducible exact Below.refl _ _ | with_reducible exact HBR.out | with_reducible exact HB2.out | with_reducible exact HB3.out | with_reducible exact HB6.out | with_reducible refine Below.drew ?_ | with_reducible refine below_drewN ?_ _ | (with_reducible refine bl_set ?_ ?_; (first | exact Nat.le_refl _ | exact HB2.out.size | exact HB3.out.size | exact HBR.out.size | exact HB6.out.size | (simp; done) | (simp; omega) | (simp; have := HBR.out.size; rw [World.size_alloc] at this; omega))) | (with_reducible refine bl_all ?_ ?_; (first | exact Nat.le_refl _ | exact HB2.out.size | exact HB3.out.size | exact HBR.out.size | exact HB6.out.size | (simp; done) | (simp; omega) | (simp; have := HBR.out.size; rw [World.size_alloc] at this; omega))))) <;> done) (first
        | (go_at_call 24
           (with_reducible refine (HG.out _ (by (repeat (first | with_reducible exact Below.refl _ _ | with_reducible exact HBR.out | with_reducible exact HB2.out | with_reducible exact HB3.out | with_reducible exact HB6.out | with_reducible refine Below.drew ?_ | with_reducible refine below_drewN ?_ _ | (with_reducible refine bl_set ?_ ?_; (first | exact Nat.le_refl _ | exact HB2.out.size | exact HB3.out.size | exact HBR.out.size | exact HB6.out.size | (simp; done) | (simp; omega) | (simp; have := HBR.out.size; rw [World.size_alloc] at this; omega))) | (with_reducible refine bl_all ?_ ?_; (first | exact Nat.le_refl _ | exact HB2.out.size | exact HB3.out.size | exact HBR.out.size | exact HB6.out.size | (simp; done) | (simp; omega) | (simp; have := HBR.out.size; rw [World.size_alloc] at this; omega))))); done)).mono ?_)
           rintro e w2 ⟨l, f, r, rfl, hv, hB2⟩
           obtain ⟨b1, d1, rfl, _⟩ := id hv.list.slice
           obtain ⟨b2, d2, rfl, _⟩ := id hv.fields.slice
           obtain ⟨b3, d3, rfl, _⟩ := id hv.ranked.slice
           have HV := Lib.hid hv
           have hB20 : Below (w.alloc (.cells zRepC 30)).heap.size (w.alloc (.cells zRepC 30)) w2 := Below.trans (by (repeat (first | with_reducible exact Below.refl _ _ | with_reducible exact HBR.out | with_reducible exact HB2.out | with_reducible exact HB3.out | with_reducible exact HB6.out | with_reducible refine Below.drew ?_ | with_reducible refine below_drewN ?_ _ | (with_reducible refine bl_set ?_ ?_; (first | exact Nat.le_refl _ | exact HB2.out.size | exact HB3.out.size | exact HBR.out.size | exact HB6.out.size | (simp; done) | (simp; omega) | (simp; have := HBR.out.size; rw [World.size_alloc] at this; omega))) | (with_reducible refine bl_all ?_ ?_; (first | exact Nat.le_refl _ | exact HB2.out.size | exact HB3.out.size | exact HBR.out.size | exact HB6.out.size | (simp; done) | (simp; omega) | (simp; have := HBR.out.size; rw [World.size_alloc] at this; omega))))); done) (hB2.mono (by (first | exact Nat.le_refl _ | exact HB2.out.size | exact HB3.out.size | exact HBR.out.size | exact HB6.out.size | (simp; done) | (simp; omega) | (simp; have := HBR.out.size; rw [World.size_alloc] at this; omega))))
           have HB2 := Lib.hid hB20
           first
           | (have hd2 := HD0.out.below (Below.trans (by (repeat (first | with_reducible exact Below.refl _ _ | with_reducible exact HBR.out | with_reducible exact HB2.out | with_reducible exact HB3.out | with_reducible exact HB6.out | with_reducible refine Below.drew ?_ | with_reducible refine below_drewN ?_ _ | (with_reducible refine bl_set ?_ ?_; (first | exact Nat.le_refl _ | exact HB2.out.size | exact HB3.out.size | exact HBR.out.size | exact HB6.out.size | (simp; done) | (simp; omega) | (simp; have := HBR.out.size; rw [World.size_alloc] at this; omega))) | (with_reducible refine bl_all ?_ ?_; (first | exact Nat.le_refl _ | exact HB2.out.size | exact HB3.out.size | exact HBR.out.size | exact HB6.out.size | (simp; done) | (simp; omega) | (simp; have := HBR.out.size; rw [World.size_alloc] at this; omega))))); done) hB2)
              have hcd := hd2.cell
              have hfd := hd2.free
              have HD2 := Lib.hid hd2
              clear hd2)
           | skip
           clear hv hB2 hB20))
      all_goals (
        clear HG HDU
        first
        | (have D := GotR.one (ok := true) HV.out (fun b hb => Nat.le_trans HBR.out.size hb) HBG.out HBG.out.res.2.size HB2.out
           have HD := Lib.hid D
           clear D
           go_wp2_with fail
           go_meet
           exact HD.out)
        | (have D := GotR.two (ok := true) HV.out (fun b hb => by have h1 := HBR.out.size; have h2 : wr.heap.size + 1 ≤ b := (by simpa using hb); constructor <;> omega) HD2.out HB2.out HBR.out.size
           have HD := Lib.hid D
           clear D
           go_wp2_with fail
           go_meet
           exact HD.out))
    case rest =>
      obtain ⟨g, l, f, r, rfl, rfl, hB3, hvb, hvv⟩ := hcut
      obtain ⟨lb, ld, rfl, _⟩ := id hvv.list.slice
      obtain ⟨fb, fd, rfl, _⟩ := id hvv.fields.slice
      obtain ⟨rb, rd, rfl, _⟩ := id hvv.ranked.slice
      have HB3 := Lib.hid hB3
      have HVB := Lib.hid hvb
      have HVV := Lib.hid hvv
      clear hB3 hvb hvv HBR HD0 HG
      go_wp2_with fail
      go_region_held (fun W => W.cell? ⟨cb, 0, none⟩ = some (.pointer (some ⟨p, 0, none⟩)) ∧ W.cell? ⟨cb, 1, none⟩ = some (.int .i64 now))
        (refine HC.out _ ?_ <;> (repeat (first | with_reducible exact Below.refl _ _ | with_reducible exact HBR.out | with_reducible exact HB2.out | with_reducible exact HB3.out | with_reducible exact HB6.out | with_reducible refine Below.drew ?_ | with_reducible refine below_drewN ?_ _ | (with_reducible refine bl_set ?_ ?_; (first | exact Nat.le_refl _ | exact HB2.out.size | exact HB3.out.size | exact HBR.out.size | exact HB6.out.size | (simp; done) | (simp; omega) | (simp; have := HBR.out.size; rw [World.size_alloc] at this; omega))) | (with_reducible refine bl_all ?_ ?_; (first | exact Nat.le_refl _ | exact HB2.out.size | exact HB3.out.size | exact HBR.out.size | exact HB6.out.size | (simp; done) | (simp; omega) | (simp; have := HBR.out.size; rw [World.size_alloc] at this; omega))))) <;> done) (first
        | (go_at_call 20
           (with_reducible refine (HDU.out _ (by (repeat (first | with_reducible exact Below.refl _ _ | with_reducible exact HBR.out | with_reducible exact HB2.out | with_reducible exact HB3.out | with_reducible exact HB6.out | with_reducible refine Below.drew ?_ | with_reducible refine below_drewN ?_ _ | (with_reducible refine bl_set ?_ ?_; (first | exact Nat.le_refl _ | exact HB2.out.size | exact HB3.out.size | exact HBR.out.size | exact HB6.out.size | (simp; done) | (simp; omega) | (simp; have := HBR.out.size; rw [World.size_alloc] at this; omega))) | (with_reducible refine bl_all ?_ ?_; (first | exact Nat.le_refl _ | exact HB2.out.size | exact HB3.out.size | exact HBR.out.size | exact HB6.out.size | (simp; done) | (simp; omega) | (simp; have := HBR.out.size; rw [World.size_alloc] at this; omega))))); done)).mono ?_)
           rintro e w6 ⟨rfl, hB6⟩
           have hB36 : Below wc.heap.size wc w6 := Below.trans (by (repeat (first | with_reducible exact Below.refl _ _ | with_reducible exact HBR.out | with_reducible exact HB2.out | with_reducible exact HB3.out | with_reducible exact HB6.out | with_reducible refine Below.drew ?_ | with_reducible refine below_drewN ?_ _ | (with_reducible refine bl_set ?_ ?_; (first | exact Nat.le_refl _ | exact HB2.out.size | exact HB3.out.size | exact HBR.out.size | exact HB6.out.size | (simp; done) | (simp; omega) | (simp; have := HBR.out.size; rw [World.size_alloc] at this; omega))) | (with_reducible refine bl_all ?_ ?_; (first | exact Nat.le_refl _ | exact HB2.out.size | exact HB3.out.size | exact HBR.out.size | exact HB6.out.size | (simp; done) | (simp; omega) | (simp; have := HBR.out.size; rw [World.size_alloc] at this; omega))))); done) (hB6.mono (by (first | exact Nat.le_refl _ | exact HB2.out.size | exact HB3.out.size | exact HBR.out.size | exact HB6.out.size | (simp; done) | (simp; omega) | (simp; have := HBR.out.size; rw [World.size_alloc] at this; omega))))
           have hB60 : Below (w.alloc (.cells zRepC 30)).heap.size (w.alloc (.cells zRepC 30)) w6 := HB3.out.trans (hB36.mono HB3.out.size)
           have hf6 := HF.out.below hB60
           have hcj := hf6.call.cell
           have HF6 := Lib.hid hf6
           have HB6 := Lib.hid hB60
           have HVB6 := Lib.hid (HVB.out.below hB36)
           have HVV6 := Lib.hid (HVV.out.below hB36)
           clear hB6 hB60 hf6 hB36 HVB HVV))
      all_goals (
        clear HC HDU HF hcc hb0 hb1 HB3
        go_wp2_with fail
        refine (HX.out _).mono ?_; rintro e w8 ⟨rfl, hB8⟩
        have h68 : Below w6.heap.size w6 w8 := Below.trans (by (repeat (first | with_reducible exact Below.refl _ _ | with_reducible exact HBR.out | with_reducible exact HB2.out | with_reducible exact HB3.out | with_reducible exact HB6.out | with_reducible refine Below.drew ?_ | with_reducible refine below_drewN ?_ _ | (with_reducible refine bl_set ?_ ?_; (first | exact Nat.le_refl _ | exact HB2.out.size | exact HB3.out.size | exact HBR.out.size | exact HB6.out.size | (simp; done) | (simp; omega) | (simp; have := HBR.out.size; rw [World.size_alloc] at this; omega))) | (with_reducible refine bl_all ?_ ?_; (first | exact Nat.le_refl _ | exact HB2.out.size | exact HB3.out.size | exact HBR.out.size | exact HB6.out.size | (simp; done) | (simp; omega) | (simp; have := HBR.out.size; rw [World.size_alloc] at this; omega))))); done) hB8
        have hf8 := HF6.out.below h68
        have h89 : Below w8.heap.size w8 (w8.alloc (.cells #[.int .i64 1, .string ⟨#[79, 75]⟩, .int .i64 0, .slice none 0 0] 30)) := lit_below0 _ _
        have hcj9 := (hf8.below h89).call.cell
        have HCJ9 := Lib.hid (hf8.below h89)
        have HZ9 := Lib.hid (show Blk o1 (w8.alloc (.cells #[.int .i64 1, .string ⟨#[79, 75]⟩, .int .i64 0, .slice none 0 0] 30)) [m1 + 2] w8.heap.size #[.int .i64 1, .string ⟨#[79, 75]⟩, .int .i64 0, .slice none 0 0] 30 from ⟨heap_alloc_new _ _, HBG.out.new _ hf8.st.size⟩)
        have HVB9 := Lib.hid (HVB6.out.below (h68.trans (h89.mono h68.size)))
        have HVV9 := Lib.hid (HVV6.out.below (h68.trans (h89.mono h68.size)))
        clear hB8 h68 hf8 h89 HF6 HVB6 HVV6 HX hcj
        go_wp2_with fail
        obtain ⟨w9, hw9⟩ : ∃ w9, w9 = w8.alloc (.cells #[.int .i64 1, .string ⟨#[79, 75]⟩, .int .i64 0, .slice none 0 0] 30) := ⟨_, rfl⟩
        rw [← hw9] at hcj9 HCJ9 HZ9 HVB9 HVV9 ⊢
        have HC9 := Lib.hid (fun (W : World) (hW : Below w9.heap.size w9 W) => show W.cell? ⟨cb, 0, none⟩ = some (.pointer (some ⟨p, 0, none⟩)) ∧ W.cell? ⟨g, 0, none⟩ = some (.int .i64 kind) ∧ W.cell? ⟨g, 1, none⟩ = some (.string ⟨text.toArray⟩) ∧ W.cell? ⟨g, 2, none⟩ = some (.slice lb list.length ld) ∧ W.cell? ⟨g, 3, none⟩ = some (.slice fb fields.length fd) ∧ W.cell? ⟨g, 4, none⟩ = some (.slice rb ranked.length rd) from ⟨(HCJ9.out.call.below hW).cell 0, (HVB9.out.below hW).cell 0, (HVB9.out.below hW).cell 1, (HVB9.out.below hW).cell 2, (HVB9.out.below hW).cell 3, (HVB9.out.below hW).cell 4⟩)
        clear hw9 hcj9
        go_region_held (fun W => W.cell? ⟨cb, 0, none⟩ = some (.pointer (some ⟨p, 0, none⟩)) ∧ W.cell? ⟨g, 0, none⟩ = some (.int .i64 kind) ∧ W.cell? ⟨g, 1, none⟩ = some (.string ⟨text.toArray⟩) ∧ W.cell? ⟨g, 2, none⟩ = some (.slice lb list.length ld) ∧ W.cell? ⟨g, 3, none⟩ = some (.slice fb fields.length fd) ∧ W.cell? ⟨g, 4, none⟩ = some (.slice rb ranked.length rd))
          (first | (refine HC9.out _ ?_ <;> (repeat (first | with_reducible exact Below.refl _ _ | with_reducible exact HBR.out | with_reducible exact HB2.out | with_reducible exact HB3.out | with_reducible exact HB6.out | with_reducible refine Below.drew ?_ | with_reducible refine below_drewN ?_ _ | (with_reducible refine bl_set ?_ ?_; (first | exact Nat.le_refl _ | exact HB2.out.size | exact HB3.out.size | exact HBR.out.size | exact HB6.out.size | (simp; done) | (simp; omega) | (simp; have := HBR.out.size; rw [World.size_alloc] at this; omega))) | (with_reducible refine bl_all ?_ ?_; (first | exact Nat.le_refl _ | exact HB2.out.size | exact HB3.out.size | exact HBR.out.size | exact HB6.out.size | (simp; done) | (simp; omega) | (simp; have := HBR.out.size; rw [World.size_alloc] at this; omega))))) <;> done) | (refine HC10.out _ ?_ <;> (repeat (first | with_reducible exact Below.refl _ _ | with_reducible exact HBR.out | with_reducible exact HB2.out | with_reducible exact HB3.out | with_reducible exact HB6.out | with_reducible refine Below.drew ?_ | with_reducible refine below_drewN ?_ _ | (with_reducible refine bl_set ?_ ?_; (first | exact Nat.le_refl _ | exact HB2.out.size | exact HB3.out.size | exact HBR.out.size | exact HB6.out.size | (simp; done) | (simp; omega) | (simp; have := HBR.out.size; rw [World.size_alloc] at this; omega))) | (with_reducible refine bl_all ?_ ?_; (first | exact Nat.le_refl _ | exact HB2.out.size | exact HB3.out.size | exact HBR.out.size | exact HB6.out.size | (simp; done) | (simp; omega) | (simp; have := HBR.out.size; rw [World.size_alloc] at this; omega))))) <;> done)) (first
          | (go_at_call 32
             (with_reducible refine (HPU.out _ _ _ _ (HCJ9.out.below (by (repeat (first | with_reducible exact Below.refl _ _ | with_reducible exact HBR.out | with_reducible exact HB2.out | with_reducible exact HB3.out | with_reducible exact HB6.out | with_reducible refine Below.drew ?_ | with_reducible refine below_drewN ?_ _ | (with_reducible refine bl_set ?_ ?_; (first | exact Nat.le_refl _ | exact HB2.out.size | exact HB3.out.size | exact HBR.out.size | exact HB6.out.size | (simp; done) | (simp; omega) | (simp; have := HBR.out.size; rw [World.size_alloc] at this; omega))) | (with_reducible refine bl_all ?_ ?_; (first | exact Nat.le_refl _ | exact HB2.out.size | exact HB3.out.size | exact HBR.out.size | exact HB6.out.size | (simp; done) | (simp; omega) | (simp; have := HBR.out.size; rw [World.size_alloc] at this; omega))))); done)).sp (HVV9.out.below (by (repeat (first | with_reducible exact Below.refl _ _ | with_reducible exact HBR.out | with_reducible exact HB2.out | with_reducible exact HB3.out | with_reducible exact HB6.out | with_reducible refine Below.drew ?_ | with_reducible refine below_drewN ?_ _ | (with_reducible refine bl_set ?_ ?_; (first | exact Nat.le_refl _ | exact HB2.out.size | exact HB3.out.size | exact HBR.out.size | exact HB6.out.size | (simp; done) | (simp; omega) | (simp; have := HBR.out.size; rw [World.size_alloc] at this; omega))) | (with_reducible refine bl_all ?_ ?_; (first | exact Nat.le_refl _ | exact HB2.out.size | exact HB3.out.size | exact HBR.out.size | exact HB6.out.size | (simp; done) | (simp; omega) | (simp; have := HBR.out.size; rw [World.size_alloc] at this; omega))))); done))).mono ?_)
             rintro e w10 ⟨rfl, o7, hj7, hs7⟩
             have hf10 := (HCJ9.out.below (by (repeat (first | with_reducible exact Below.refl _ _ | with_reducible exact HBR.out | with_reducible exact HB2.out | with_reducible exact HB3.out | with_reducible exact HB6.out | with_reducible refine Below.drew ?_ | with_reducible refine below_drewN ?_ _ | (with_reducible refine bl_set ?_ ?_; (first | exact Nat.le_refl _ | exact HB2.out.size | exact HB3.out.size | exact HBR.out.size | exact HB6.out.size | (simp; done) | (simp; omega) | (simp; have := HBR.out.size; rw [World.size_alloc] at this; omega))) | (with_reducible refine bl_all ?_ ?_; (first | exact Nat.le_refl _ | exact HB2.out.size | exact HB3.out.size | exact HBR.out.size | exact HB6.out.size | (simp; done) | (simp; omega) | (simp; have := HBR.out.size; rw [World.size_alloc] at this; omega))))); done)).put HBG.out hρ hj7 hs7
             have hz10 := (HZ9.out.below (by (repeat (first | with_reducible exact Below.refl _ _ | with_reducible exact HBR.out | with_reducible exact HB2.out | with_reducible exact HB3.out | with_reducible exact HB6.out | with_reducible refine Below.drew ?_ | with_reducible refine below_drewN ?_ _ | (with_reducible refine bl_set ?_ ?_; (first | exact Nat.le_refl _ | exact HB2.out.size | exact HB3.out.size | exact HBR.out.size | exact HB6.out.size | (simp; done) | (simp; omega) | (simp; have := HBR.out.size; rw [World.size_alloc] at this; omega))) | (with_reducible refine bl_all ?_ ?_; (first | exact Nat.le_refl _ | exact HB2.out.size | exact HB3.out.size | exact HBR.out.size | exact HB6.out.size | (simp; done) | (simp; omega) | (simp; have := HBR.out.size; rw [World.size_alloc] at this; omega))))); done)).keep hs7 (HBG.out.aq 2).not
             have hv10 := (HVB9.out.below (by (repeat (first | with_reducible exact Below.refl _ _ | with_reducible exact HBR.out | with_reducible exact HB2.out | with_reducible exact HB3.out | with_reducible exact HB6.out | with_reducible refine Below.drew ?_ | with_reducible refine below_drewN ?_ _ | (with_reducible refine bl_set ?_ ?_; (first | exact Nat.le_refl _ | exact HB2.out.size | exact HB3.out.size | exact HBR.out.size | exact HB6.out.size | (simp; done) | (simp; omega) | (simp; have := HBR.out.size; rw [World.size_alloc] at this; omega))) | (with_reducible refine bl_all ?_ ?_; (first | exact Nat.le_refl _ | exact HB2.out.size | exact HB3.out.size | exact HBR.out.size | exact HB6.out.size | (simp; done) | (simp; omega) | (simp; have := HBR.out.size; rw [World.size_alloc] at this; omega))))); done)).keep hs7 (HBG.out.aq 2).not
             have HC10 := Lib.hid (fun (W : World) (hW : Below w10.heap.size w10 W) => show W.cell? ⟨cb, 0, none⟩ = some (.pointer (some ⟨p, 0, none⟩)) ∧ W.cell? ⟨g, 0, none⟩ = some (.int .i64 kind) ∧ W.cell? ⟨g, 1, none⟩ = some (.string ⟨text.toArray⟩) ∧ W.cell? ⟨g, 2, none⟩ = some (.slice lb list.length ld) ∧ W.cell? ⟨g, 3, none⟩ = some (.slice fb fields.length fd) ∧ W.cell? ⟨g, 4, none⟩ = some (.slice rb ranked.length rd) from ⟨(hf10.call.below hW).cell 0, (hv10.below hW).cell 0, (hv10.below hW).cell 1, (hv10.below hW).cell 2, (hv10.below hW).cell 3, (hv10.below hW).cell 4⟩)
             have hcj10 := hf10.call.cell
             have HF10 := Lib.hid hf10
             have HZ10 := Lib.hid hz10
             clear hj7 hs7 hf10 hz10 hv10))
        all_goals (
          clear HC9 HC10 HPU HCJ9 HZ9 HVB9 HVV9
          go_wp2_with fail
          refine (HDR.out _ _ (HF10.out.below (by (repeat (first | with_reducible exact Below.refl _ _ | with_reducible exact HBR.out | with_reducible exact HB2.out | with_reducible exact HB3.out | with_reducible exact HB6.out | with_reducible refine Below.drew ?_ | with_reducible refine below_drewN ?_ _ | (with_reducible refine bl_set ?_ ?_; (first | exact Nat.le_refl _ | exact HB2.out.size | exact HB3.out.size | exact HBR.out.size | exact HB6.out.size | (simp; done) | (simp; omega) | (simp; have := HBR.out.size; rw [World.size_alloc] at this; omega))) | (with_reducible refine bl_all ?_ ?_; (first | exact Nat.le_refl _ | exact HB2.out.size | exact HB3.out.size | exact HBR.out.size | exact HB6.out.size | (simp; done) | (simp; omega) | (simp; have := HBR.out.size; rw [World.size_alloc] at this; omega))))); done)).sp).mono ?_
          rintro e w12 ⟨rfl, o8, hj8, hs8⟩
          have hf12 := (HF10.out.below (by (repeat (first | with_reducible exact Below.refl _ _ | with_reducible exact HBR.out | with_reducible exact HB2.out | with_reducible exact HB3.out | with_reducible exact HB6.out | with_reducible refine Below.drew ?_ | with_reducible refine below_drewN ?_ _ | (with_reducible refine bl_set ?_ ?_; (first | exact Nat.le_refl _ | exact HB2.out.size | exact HB3.out.size | exact HBR.out.size | exact HB6.out.size | (simp; done) | (simp; omega) | (simp; have := HBR.out.size; rw [World.size_alloc] at this; omega))) | (with_reducible refine bl_all ?_ ?_; (first | exact Nat.le_refl _ | exact HB2.out.size | exact HB3.out.size | exact HBR.out.size | exact HB6.out.size | (simp; done) | (simp; omega) | (simp; have := HBR.out.size; rw [World.size_alloc] at this; omega))))); done)).put HBG.out hρ hj8 hs8
          have hz12 := (HZ10.out.below (by (repeat (first | with_reducible exact Below.refl _ _ | with_reducible exact HBR.out | with_reducible exact HB2.out | with_reducible exact HB3.out | with_reducible exact HB6.out | with_reducible refine Below.drew ?_ | with_reducible refine below_drewN ?_ _ | (with_reducible refine bl_set ?_ ?_; (first | exact Nat.le_refl _ | exact HB2.out.size | exact HB3.out.size | exact HBR.out.size | exact HB6.out.size | (simp; done) | (simp; omega) | (simp; have := HBR.out.size; rw [World.size_alloc] at this; omega))) | (with_reducible refine bl_all ?_ ?_; (first | exact Nat.le_refl _ | exact HB2.out.size | exact HB3.out.size | exact HBR.out.size | exact HB6.out.size | (simp; done) | (simp; omega) | (simp; have := HBR.out.size; rw [World.size_alloc] at this; omega))))); done)).keep hs8 (HBG.out.aq 2).not
          have HF12 := Lib.hid hf12
          have hrc := hf12.res.cell
          have hrf := hf12.res.free
          have hzc := hz12.cell
          clear hj8 hs8 hf12 hz12 HF10 HZ10 HDR hcj10
          go_wp2_with fail
          obtain ⟨hj9, hs9⟩ := HF12.out.fin HBG.out (.int .i64 1) (.string ⟨#[79, 75]⟩) (.int .i64 0) (.slice none 0 0)
          exact bodyPost_ret (v := repV 1 [79, 75] 0 (.slice none 0 0)) (by simp [results, Tryz.results68, go_sem, hrc]) rfl ⟨rfl, o8, hj9, hs9⟩)))
end
end Go.Proofs.YthojmgjgmbnopaaGreatDoor
