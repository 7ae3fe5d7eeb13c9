import Derived.Test.YthojmgjgmbnopaaGreatDoorHm
import Derived.Test.YthojmgjgmbnopaaGreatDoorVt
import Derived.Deep.QuietTactic
import Derived.Deep.CutRange
import Derived.Deep.RegionHeld
namespace Go.Proofs.YthojmgjgmbnopaaGreatDoor
open Go Go.RowKit
/-! keycmd: rename. -/
abbrev renameB : Tx := [114, 101, 110, 97, 109, 101]
abbrev nokeyErr : Tx := [69, 82, 82, 32, 110, 111, 32, 115, 117, 99, 104, 32, 107, 101, 121]
theorem bl_set {n : Nat} {w w' : World} {a : Addr} {v : Value} (hn : n ≤ a.block) (h : Below n w w') : Below n w (w'.setCell a v) := h.setCell hn v
theorem bl_all {n : Nat} {w w' : World} {x : Obj} (hn : n ≤ w'.heap.size) (h : Below n w w') : Below n w (w'.alloc x) := h.alloc hn x
def RenRel (w0 : World) (r i : Value) (wr : World) : Prop := r = .bool false ∧ i = .int .i64 0 ∧ Below w0.heap.size w0 wr
/-- What Get told, laid in a block of its own. -/
def GotR (w0 : World) (o1 : Roles) (m : Nat) (V : VV) (ok : Bool) (s8 s9 : Value) (wx : World) : Prop :=
  ∃ g l f r, s8 = .pointer (some ⟨g, 0, none⟩) ∧ s9 = .bool ok ∧ Below w0.heap.size w0 wx ∧ Blk o1 wx [m + 2] g #[.int .i64 V.kind, .string ⟨V.text.toArray⟩, l, f, r] 43 ∧ Val3 (fun b => w0.heap.size ≤ b) wx V l f r
theorem GotR.one {A : Nat → Prop} {w w0 w2 : World} {o o1 : Roles} {q : List Nat} {m : Nat} {V : VV} {ok : Bool} {l f r : Value} (hv : Val3 A w2 V l f r) (hA : ∀ b, A b → w0.heap.size ≤ b) (hb : Begin o w q o1 m) (h0 : w.heap.size ≤ w0.heap.size) (hB : Below w0.heap.size w0 w2) :
    GotR w0 o1 m V ok (.pointer (some ⟨w2.heap.size, 0, none⟩)) (.bool ok) (w2.alloc (.cells #[.int .i64 V.kind, .string ⟨V.text.toArray⟩, l, f, r] 43)) :=
  ⟨_, l, f, r, rfl, rfl, hB.alloc hB.size _, ⟨heap_alloc_new _ _, hb.new _ (Nat.le_trans h0 hB.size)⟩, (hv.imp hA).below ((Below.refl _ w2).alloc (Nat.le_refl _) _)⟩
theorem GotR.two {A : Nat → Prop} {w0 w2 : World} {o1 : Roles} {m g : Nat} {V : VV} {ok : Bool} {l f r : Value} (hv : Val3 A w2 V l f r) (hA : ∀ b, A b → w0.heap.size ≤ b ∧ b ≠ g) (hd : Blk o1 w2 [m + 2] g #[.int .i64 0, .string ⟨#[]⟩, .slice none 0 0, .slice none 0 0, .slice none 0 0] 43) (hB : Below w0.heap.size w0 w2) (hg : w0.heap.size ≤ g) :
    GotR w0 o1 m V ok (.pointer (some ⟨g, 0, none⟩)) (.bool ok) (((((w2.setCell ⟨g, 0, none⟩ (.int .i64 V.kind)).setCell ⟨g, 1, none⟩ (.string ⟨V.text.toArray⟩)).setCell ⟨g, 2, none⟩ l).setCell ⟨g, 3, none⟩ f).setCell ⟨g, 4, none⟩ r) := by
  refine ⟨g, l, f, r, rfl, rfl, ?_, ((((hd.setCell 0 (.int .i64 V.kind)).setCell 1 (.string ⟨V.text.toArray⟩)).setCell 2 l).setCell 3 f).setCell 4 r, ?_⟩
  · iterate 5 refine Below.setCell ?_ hg _
    exact hB
  · refine (hv.stay (by simp) (fun b hb _ => ?_)).imp (fun b hb => (hA b hb).1)
    have hne : b ≠ g := (hA b hb).2
    repeat rw [heap_set_far (by show b ≠ g; exact hne)]
section
variable {o : Roles} {w : World} {q : List Nat} {p : Nat} {c : Cnt} {S : SP} {cb : Nat} {ρ : List Nat} {now : Int} {sv : Value} {nm : Tx}
set_option maxRecDepth 10000 in
set_option maxHeartbeats 8000000 in
theorem kren_none (h : SpJ o w q p S c) (hq : q ≠ []) {k d : Tx} (hcb : Blk o w ρ cb (callC p now renameB sv) 112) (hv : Vw (Old w) w sv 1 2 ([k, d].map txt)) (hS : S.at now k = none) :
    Calls Tryz.prog 68 #[.pointer (some ⟨cb, 0, none⟩)] w (RepJ o w q p S c ⟨2, nokeyErr, 0⟩) := by
  obtain ⟨o1, m1, hbg, hj⟩ := begin_roles h hq
  have hfr0 := Fj.begin hbg hj hcb
  have hcc := hcb.cell
  have hcl := hcb.lt
  obtain ⟨a0, cap, rfl, hcap, _, _⟩ := id hv.slice
  obtain ⟨b, off, rfl, hbl, hcap, hg⟩ := vw_get hv (by omega)
  replace hbl : b < w.heap.size := hbl
  have hk0 := hg 0 k rfl
  have hk1 := hg 1 d rfl
  rw [Nat.add_zero] at hk0
  have hcapI : (2 : Int) ≤ (cap : Int) := by omega
  have hb0 : (w.alloc (.cells zRepC 30)).cell? ⟨b, off, none⟩ = some (.string ⟨k.toArray⟩) := cell_below hbg.res.2 hk0
  have hb1 : (w.alloc (.cells zRepC 30)).cell? ⟨b, off + 1, none⟩ = some (.string ⟨d.toArray⟩) := cell_below hbg.res.2 hk1
  obtain ⟨a2, c2, _, hcut, _, _⟩ := vw_cut hv 2 2 (by omega) (Nat.le_refl _)
  have hsl : ∀ W, (Instr.slice 39 (.slice (some ⟨b, off, none⟩) 2 cap) (some (.int .i64 2)) none none).run Tryz.prog W = .ok (.slice a2 0 c2) W := fun W => hcut rfl W
  clear hcut
  have HF := Lib.hid hfr0
  have HBG := Lib.hid hbg
  have HC := Lib.hid (fun (W : World) (hW : Below (w.alloc (.cells zRepC 30)).heap.size (w.alloc (.cells zRepC 30)) W) => show W.cell? ⟨cb, 0, none⟩ = some (.pointer (some ⟨p, 0, none⟩)) ∧ W.cell? ⟨cb, 1, none⟩ = some (.int .i64 now) from ⟨(hfr0.call.below hW).cell 0, (hfr0.call.below hW).cell 1⟩)
  obtain ⟨⟨kind, text, list, fields, ranked⟩, hV⟩ : ∃ V, V = ((S.at now k).getD hd0).v := ⟨_, rfl⟩
  have HG := Lib.hid (fun (W : World) (hW : Below (w.alloc (.cells zRepC 30)).heap.size (w.alloc (.cells zRepC 30)) W) => by
    have h1 := jget_ok (hfr0.sp.below hW) k now
    rw [← hV] at h1
    exact h1)
  have HDU := Lib.hid (fun (W : World) (hW : Below (w.alloc (.cells zRepC 30)).heap.size (w.alloc (.cells zRepC 30)) W) => jdue_ok (hfr0.sp.below hW) k now)
  clear hV
  unfold GetDid at HG
  unfold DueDid at HDU
  rw [hS] at HG HDU
  simp only [Option.getD_none, Option.isSome_none] at HG HDU
  have HX := Lib.hid (fun (W : World) => kfail_ok W nokeyErr)
  clear h hcb hv hbg hj hfr0 hg hS hk0 hk1
  unfold txt at HG HDU HX
  go_enter Tryz.func68, Tryz.ntmps68
  go_wp2_with fail
  go_quiet (fail)
  go_wp2_with fail
  all_goals (
  go_loopw [5, 31] (fun r i wr => RenRel (w.alloc (.cells zRepC 30)) r i wr) (fun _ i _ => 0)
  case atStart => exact ⟨rfl, rfl, by (repeat (first | with_reducible exact Below.refl _ _ | with_reducible exact HBR.out | with_reducible exact HB2.out | with_reducible exact HB3.out | with_reducible exact HB6.out | with_reducible refine Below.drew ?_ | with_reducible refine below_drewN ?_ _ | (with_reducible refine bl_set ?_ ?_; (first | exact Nat.le_refl _ | exact HB2.out.size | exact HB3.out.size | exact HBR.out.size | exact HB6.out.size | (simp; done) | (simp; omega) | (simp; have := HBR.out.size; rw [World.size_alloc] at this; omega))) | (with_reducible refine bl_all ?_ ?_; (first | exact Nat.le_refl _ | exact HB2.out.size | exact HB3.out.size | exact HBR.out.size | exact HB6.out.size | (simp; done) | (simp; omega) | (simp; have := HBR.out.size; rw [World.size_alloc] at this; omega)))))⟩
  case round =>
    rename_i wr
    obtain ⟨rfl, rfl, hBr⟩ := hrel
    have HBR := Lib.hid hBr
    have HD0 := Lib.hid (show Blk o1 (wr.alloc (.cells #[.int .i64 0, .string ⟨#[]⟩, .slice none 0 0, .slice none 0 0, .slice none 0 0] 43)) [m1 + 2] wr.heap.size #[.int .i64 0, .string ⟨#[]⟩, .slice none 0 0, .slice none 0 0, .slice none 0 0] 43 from ⟨heap_alloc_new _ _, HBG.out.new _ (Nat.le_trans HBG.out.res.2.size hBr.size)⟩)
    clear hBr
    go_wp2_with fail
    go_cut [8, 9] from 40 to 53 (fun s8 s9 wx => GotR (w.alloc (.cells zRepC 30)) o1 m1 ⟨kind, text, list, fields, ranked⟩ false s8 s9 wx)
    case first =>
      go_region_held (fun W => W.cell? ⟨cb, 0, none⟩ = some (.pointer (some ⟨p, 0, none⟩)) ∧ W.cell? ⟨cb, 1, none⟩ = some (.int .i64 now))
        (refine HC.out _ ?_ <;> (repeat (first | with_reducible exact Below.refl _ _ | with_reducible exact HBR.out | with_reducible exact HB2.out | with_reducible exact HB3.out | with_reducible exact HB6.out | with_reducible refine Below.drew ?_ | with_reducible refine below_drewN ?_ _ | (with_reducible refine bl_set ?_ ?_; (first | exact Nat.le_refl _ | exact HB2.out.size | exact HB3.out.size | exact HBR.out.size | exact HB6.out.size | (simp; done) | (simp; omega) | (simp; have := HBR.out.size; rw [World.size_alloc] at this; omega))) | (with_reducible refine bl_all ?_ ?_; (first | exact Nat.le_refl _ | exact HB2.out.size | exact HB3.out.size | exact HBR.out.size | exact HB6.out.size | (simp; done) | (simp; omega) | (simp; have := HBR.out.size; rw [World.size_alloc] at this; omega))))) <;> done) (first
        | (go_at_call 24
           (with_reducible refine (HG.out _ (by (repeat (first | with_reducible exact Below.refl _ _ | with_reducible exact HBR.out | with_reducible exact HB2.out | with_reducible exact HB3.out | with_reducible exact HB6.out | with_reducible refine Below.drew ?_ | with_reducible refine below_drewN ?_ _ | (with_reducible refine bl_set ?_ ?_; (first | exact Nat.le_refl _ | exact HB2.out.size | exact HB3.out.size | exact HBR.out.size | exact HB6.out.size | (simp; done) | (simp; omega) | (simp; have := HBR.out.size; rw [World.size_alloc] at this; omega))) | (with_reducible refine bl_all ?_ ?_; (first | exact Nat.le_refl _ | exact HB2.out.size | exact HB3.out.size | exact HBR.out.size | exact HB6.out.size | (simp; done) | (simp; omega) | (simp; have := HBR.out.size; rw [World.size_alloc] at this; omega))))); done)).mono ?_)
           rintro e w2 ⟨l, f, r, rfl, hv, hB2⟩
           obtain ⟨b1, d1, rfl, _⟩ := id hv.list.slice
           obtain ⟨b2, d2, rfl, _⟩ := id hv.fields.slice
           obtain ⟨b3, d3, rfl, _⟩ := id hv.ranked.slice
           have HV := Lib.hid hv
           have hB20 : Below (w.alloc (.cells zRepC 30)).heap.size (w.alloc (.cells zRepC 30)) w2 := Below.trans (by (repeat (first | with_reducible exact Below.refl _ _ | with_reducible exact HBR.out | with_reducible exact HB2.out | with_reducible exact HB3.out | with_reducible exact HB6.out | with_reducible refine Below.drew ?_ | with_reducible refine below_drewN ?_ _ | (with_reducible refine bl_set ?_ ?_; (first | exact Nat.le_refl _ | exact HB2.out.size | exact HB3.out.size | exact HBR.out.size | exact HB6.out.size | (simp; done) | (simp; omega) | (simp; have := HBR.out.size; rw [World.size_alloc] at this; omega))) | (with_reducible refine bl_all ?_ ?_; (first | exact Nat.le_refl _ | exact HB2.out.size | exact HB3.out.size | exact HBR.out.size | exact HB6.out.size | (simp; done) | (simp; omega) | (simp; have := HBR.out.size; rw [World.size_alloc] at this; omega))))); done) (hB2.mono (by (first | exact Nat.le_refl _ | exact HB2.out.size | exact HB3.out.size | exact HBR.out.size | exact HB6.out.size | (simp; done) | (simp; omega) | (simp; have := HBR.out.size; rw [World.size_alloc] at this; omega))))
           have HB2 := Lib.hid hB20
           first
           | (have hd2 := HD0.out.below (Below.trans (by (repeat (first | with_reducible exact Below.refl _ _ | with_reducible exact HBR.out | with_reducible exact HB2.out | with_reducible exact HB3.out | with_reducible exact HB6.out | with_reducible refine Below.drew ?_ | with_reducible refine below_drewN ?_ _ | (with_reducible refine bl_set ?_ ?_; (first | exact Nat.le_refl _ | exact HB2.out.size | exact HB3.out.size | exact HBR.out.size | exact HB6.out.size | (simp; done) | (simp; omega) | (simp; have := HBR.out.size; rw [World.size_alloc] at this; omega))) | (with_reducible refine bl_all ?_ ?_; (first | exact Nat.le_refl _ | exact HB2.out.size | exact HB3.out.size | exact HBR.out.size | exact HB6.out.size | (simp; done) | (simp; omega) | (simp; have := HBR.out.size; rw [World.size_alloc] at this; omega))))); done) hB2)
              have hcd := hd2.cell
              have hfd := hd2.free
              have HD2 := Lib.hid hd2
              clear hd2)
           | skip
           clear hv hB2 hB20))
      all_goals (
        clear HG HDU
        first
        | (have D := GotR.one (ok := false) HV.out (fun b hb => Nat.le_trans HBR.out.size hb) HBG.out HBG.out.res.2.size HB2.out
           have HD := Lib.hid D
           clear D
           go_wp2_with fail
           go_meet
           exact HD.out)
        | (have D := GotR.two (ok := false) HV.out (fun b hb => by have h1 := HBR.out.size; have h2 : wr.heap.size + 1 ≤ b := (by simpa using hb); constructor <;> omega) HD2.out HB2.out HBR.out.size
           have HD := Lib.hid D
           clear D
           go_wp2_with fail
           go_meet
           exact HD.out))
    case rest =>
      obtain ⟨g, l, f, r, rfl, rfl, hB3, hvb, hvv⟩ := hcut
      have HB3 := Lib.hid hB3
      have HVB := Lib.hid hvb
      have HVV := Lib.hid hvv
      clear hB3 hvb hvv HBR HD0 HG
      go_wp2_with fail
      go_region_held (fun W => W.cell? ⟨cb, 0, none⟩ = some (.pointer (some ⟨p, 0, none⟩)) ∧ W.cell? ⟨cb, 1, none⟩ = some (.int .i64 now))
        (refine HC.out _ ?_ <;> (repeat (first | with_reducible exact Below.refl _ _ | with_reducible exact HBR.out | with_reducible exact HB2.out | with_reducible exact HB3.out | with_reducible exact HB6.out | with_reducible refine Below.drew ?_ | with_reducible refine below_drewN ?_ _ | (with_reducible refine bl_set ?_ ?_; (first | exact Nat.le_refl _ | exact HB2.out.size | exact HB3.out.size | exact HBR.out.size | exact HB6.out.size | (simp; done) | (simp; omega) | (simp; have := HBR.out.size; rw [World.size_alloc] at this; omega))) | (with_reducible refine bl_all ?_ ?_; (first | exact Nat.le_refl _ | exact HB2.out.size | exact HB3.out.size | exact HBR.out.size | exact HB6.out.size | (simp; done) | (simp; omega) | (simp; have := HBR.out.size; rw [World.size_alloc] at this; omega))))) <;> done) (first
        | (go_at_call 20
           (with_reducible refine (HDU.out _ (by (repeat (first | with_reducible exact Below.refl _ _ | with_reducible exact HBR.out | with_reducible exact HB2.out | with_reducible exact HB3.out | with_reducible exact HB6.out | with_reducible refine Below.drew ?_ | with_reducible refine below_drewN ?_ _ | (with_reducible refine bl_set ?_ ?_; (first | exact Nat.le_refl _ | exact HB2.out.size | exact HB3.out.size | exact HBR.out.size | exact HB6.out.size | (simp; done) | (simp; omega) | (simp; have := HBR.out.size; rw [World.size_alloc] at this; omega))) | (with_reducible refine bl_all ?_ ?_; (first | exact Nat.le_refl _ | exact HB2.out.size | exact HB3.out.size | exact HBR.out.size | exact HB6.out.size | (simp; done) | (simp; omega) | (simp; have := HBR.out.size; rw [World.size_alloc] at this; omega))))); done)).mono ?_)
           rintro e w6 ⟨rfl, hB6⟩
           have hB36 : Below wc.heap.size wc w6 := Below.trans (by (repeat (first | with_reducible exact Below.refl _ _ | with_reducible exact HBR.out | with_reducible exact HB2.out | with_reducible exact HB3.out | with_reducible exact HB6.out | with_reducible refine Below.drew ?_ | with_reducible refine below_drewN ?_ _ | (with_reducible refine bl_set ?_ ?_; (first | exact Nat.le_refl _ | exact HB2.out.size | exact HB3.out.size | exact HBR.out.size | exact HB6.out.size | (simp; done) | (simp; omega) | (simp; have := HBR.out.size; rw [World.size_alloc] at this; omega))) | (with_reducible refine bl_all ?_ ?_; (first | exact Nat.le_refl _ | exact HB2.out.size | exact HB3.out.size | exact HBR.out.size | exact HB6.out.size | (simp; done) | (simp; omega) | (simp; have := HBR.out.size; rw [World.size_alloc] at this; omega))))); done) (hB6.mono (by (first | exact Nat.le_refl _ | exact HB2.out.size | exact HB3.out.size | exact HBR.out.size | exact HB6.out.size | (simp; done) | (simp; omega) | (simp; have := HBR.out.size; rw [World.size_alloc] at this; omega))))
           have hB60 : Below (w.alloc (.cells zRepC 30)).heap.size (w.alloc (.cells zRepC 30)) w6 := HB3.out.trans (hB36.mono HB3.out.size)
           have hf6 := HF.out.below hB60
           have hcj := hf6.call.cell
           have HF6 := Lib.hid hf6
           have HB6 := Lib.hid hB60
           have HVB6 := Lib.hid (HVB.out.below hB36)
           have HVV6 := Lib.hid (HVV.out.below hB36)
           clear hB6 hB60 hf6 hB36 HVB HVV))
      all_goals (
        clear HC HDU HF hcc hb0 hb1 HB3
        go_wp2_with fail
        refine (HX.out _).mono ?_; rintro e w8 ⟨rfl, hB8⟩
        have hf8 := (HF6.out.below (by (repeat (first | with_reducible exact Below.refl _ _ | with_reducible exact HBR.out | with_reducible exact HB2.out | with_reducible exact HB3.out | with_reducible exact HB6.out | with_reducible refine Below.drew ?_ | with_reducible refine below_drewN ?_ _ | (with_reducible refine bl_set ?_ ?_; (first | exact Nat.le_refl _ | exact HB2.out.size | exact HB3.out.size | exact HBR.out.size | exact HB6.out.size | (simp; done) | (simp; omega) | (simp; have := HBR.out.size; rw [World.size_alloc] at this; omega))) | (with_reducible refine bl_all ?_ ?_; (first | exact Nat.le_refl _ | exact HB2.out.size | exact HB3.out.size | exact HBR.out.size | exact HB6.out.size | (simp; done) | (simp; omega) | (simp; have := HBR.out.size; rw [World.size_alloc] at this; omega))))); done)).below hB8
        have HF8 := Lib.hid hf8
        have hrc := hf8.res.cell
        have hrf := hf8.res.free
        clear hB8 hf8 HF6 HX hcj
        go_wp2_with fail
        obtain ⟨hj9, hs9⟩ := HF8.out.fin HBG.out (.int .i64 2) (.string ⟨#[69, 82, 82, 32, 110, 111, 32, 115, 117, 99, 104, 32, 107, 101, 121]⟩) (.int .i64 0) (.slice none 0 0)
        exact bodyPost_ret (v := repV 2 nokeyErr 0 (.slice none 0 0)) (by simp [results, Tryz.results68, go_sem, hrc]) rfl ⟨rfl, o1, hj9, hs9⟩))
end
end Go.Proofs.YthojmgjgmbnopaaGreatDoor
