import Derived.Test.YthojmgjgmbnopaaGreatDoorXF
import Derived.Test.YthojmgjgmbnopaaGreatDoorXE
import Derived.Deep.CutRange
import Derived.Deep.RegionHeld3
import Derived.Deep.QuietTactic
import Derived.BigQuiet
namespace Go.Proofs.YthojmgjgmbnopaaGreatDoor
open Go Go.RowKit
abbrev repV (k : Nat) (t : List UInt8) (n : Int) (l : Value) : Value := .agg #[.int .i64 (k : Int), .string ⟨t.toArray⟩, .int .i64 n, l]
theorem infoRp : (Tryz.prog.info? 30).map (fun i => (i.zero, i.size, i.bytes)) = some (some (repV 0 [] 0 (.slice none 0 0)), 4, 56) := by kernel_rfl
set_option maxRecDepth 10000 in
theorem lfault_ok (w : World) (s : List UInt8) : Calls Tryz.prog 176 #[txt s] w fun e w' => e = .returned (repV 2 s 0 (.slice none 0 0)) ∧ Below w.heap.size w w' := by
  unfold txt
  go_enter Tryz.func176, Tryz.ntmps176
  go_wp2_with fail
  exact bodyPost_ret (v := (repV 2 s 0 (.slice none 0 0))) (by simp [results, Tryz.results176, go_sem]) rfl ⟨rfl, (Below.refl _ _).alloc (Nat.le_refl _) _⟩
set_option maxRecDepth 10000 in
theorem lbulk_ok (w : World) (s : List UInt8) : Calls Tryz.prog 192 #[txt s] w fun e w' => e = .returned (repV 4 s 0 (.slice none 0 0)) ∧ Below w.heap.size w w' := by
  unfold txt
  go_enter Tryz.func192, Tryz.ntmps192
  go_wp2_with fail
  exact bodyPost_ret (v := (repV 4 s 0 (.slice none 0 0))) (by simp [results, Tryz.results192, go_sem]) rfl ⟨rfl, (Below.refl _ _).alloc (Nat.le_refl _) _⟩
set_option maxRecDepth 10000 in
theorem lnumber_ok (w : World) (n : Int) : Calls Tryz.prog 178 #[.int .i64 n] w fun e w' => e = .returned (repV 3 [] n (.slice none 0 0)) ∧ Below w.heap.size w w' := by
  go_enter Tryz.func178, Tryz.ntmps178
  go_wp2_with fail
  exact bodyPost_ret (v := (repV 3 [] n (.slice none 0 0))) (by simp [results, Tryz.results178, go_sem]) rfl ⟨rfl, (Below.refl _ _).alloc (Nat.le_refl _) _⟩
set_option maxRecDepth 10000 in
theorem lnull_ok (w : World) : Calls Tryz.prog 196 #[] w fun e w' => e = .returned (repV 5 [] 0 (.slice none 0 0)) ∧ Below w.heap.size w w' := by
  go_enter Tryz.func196, Tryz.ntmps196
  go_wp2_with fail
  exact bodyPost_ret (v := (repV 5 [] 0 (.slice none 0 0))) (by simp [results, Tryz.results196, go_sem]) rfl ⟨rfl, (Below.refl _ _).alloc (Nat.le_refl _) _⟩
set_option maxRecDepth 10000 in
theorem lfine_ok (w : World) : Calls Tryz.prog 194 #[] w fun e w' => e = .returned (repV 1 [79, 75] 0 (.slice none 0 0)) ∧ Below w.heap.size w w' := by
  go_enter Tryz.func194, Tryz.ntmps194
  go_wp2_with fail
  exact bodyPost_ret (v := (repV 1 [79, 75] 0 (.slice none 0 0))) (by simp [results, Tryz.results194, go_sem]) rfl ⟨rfl, (Below.refl _ _).alloc (Nat.le_refl _) _⟩
set_option maxRecDepth 10000 in
theorem lold_ok (w : World) (s : List UInt8) (ok : Bool) : Calls Tryz.prog 187 #[txt s, .bool ok] w fun e w' => e = .returned (if ok then repV 4 s 0 (.slice none 0 0) else repV 5 [] 0 (.slice none 0 0)) ∧ Below w.heap.size w w' := by
  unfold txt
  cases ok with
  | false =>
    go_enter Tryz.func187, Tryz.ntmps187
    go_wp2_with fail
    refine (lnull_ok _).mono ?_; rintro e w1 ⟨rfl, hB⟩
    have hr := (show Blk none0 (w.alloc (.cells #[.int .i64 0, .string ⟨#[]⟩, .int .i64 0, .slice none 0 0] 30)) [] w.heap.size #[.int .i64 0, .string ⟨#[]⟩, .int .i64 0, .slice none 0 0] 30 from ⟨heap_alloc_new w _, rfl⟩).below hB
    have hrc := hr.cell
    have hrf := hr.free
    have HB1 := Lib.hid (((Below.refl w.heap.size w).alloc (Nat.le_refl _) _).trans (hB.mono (by simp)))
    clear hB hr
    go_wp2_with fail
    refine bodyPost_ret (v := repV 5 [] 0 (.slice none 0 0)) (by simp [results, Tryz.results187, go_sem, hrc]) rfl ⟨rfl, ?_⟩
    iterate 4 refine Below.setCell ?_ (by exact Nat.le_refl _) _
    exact HB1.out
  | true =>
    have HBU := Lib.hid (fun W => lbulk_ok W s)
    unfold txt at HBU
    go_enter Tryz.func187, Tryz.ntmps187
    go_wp2_with fail
    refine (HBU.out _).mono ?_; rintro e w1 ⟨rfl, hB⟩
    have hr := (show Blk none0 (w.alloc (.cells #[.int .i64 0, .string ⟨#[]⟩, .int .i64 0, .slice none 0 0] 30)) [] w.heap.size #[.int .i64 0, .string ⟨#[]⟩, .int .i64 0, .slice none 0 0] 30 from ⟨heap_alloc_new w _, rfl⟩).below hB
    have hrc := hr.cell
    have hrf := hr.free
    have HB1 := Lib.hid (((Below.refl w.heap.size w).alloc (Nat.le_refl _) _).trans (hB.mono (by simp)))
    clear hB hr
    go_wp2_with fail
    refine bodyPost_ret (v := repV 4 s 0 (.slice none 0 0)) (by simp [results, Tryz.results187, go_sem, hrc]) rfl ⟨rfl, ?_⟩
    iterate 4 refine Below.setCell ?_ (by exact Nat.le_refl _) _
    exact HB1.out
end Go.Proofs.YthojmgjgmbnopaaGreatDoor
namespace Go.Proofs.YthojmgjgmbnopaaGreatDoor
open Go Go.RowKit
/-! A value that is a text, put into a space of sets. -/
abbrev textV (s : List UInt8) : VV := ⟨1, s, [], [], []⟩
abbrev tvV (s : List UInt8) : Value := .agg #[.int .i64 1, .string ⟨s.toArray⟩, .slice none 0 0, .slice none 0 0, .slice none 0 0]
theorem val3_text (A : Nat → Prop) (w : World) (s : List UInt8) : Val3 A w (textV s) (.slice none 0 0) (.slice none 0 0) (.slice none 0 0) := ⟨Vw.nil _ _ _, Vw.nil _ _ _, Vw.nil _ _ _⟩
set_option maxRecDepth 10000 in
theorem vof_text (w : World) (l f r : Value) (V : VV) (hk : V.kind = 1) (hl : ∃ a n c, l = .slice a n c) (hf : ∃ a n c, f = .slice a n c) (hr : ∃ a n c, r = .slice a n c) : Calls Tryz.prog 141 #[valV V l f r] w fun e w' => e = .returned (.tuple #[.iface 226 (.string ⟨V.text.toArray⟩), .bool true]) ∧ Below w.heap.size w w' := by
  obtain ⟨kind, text, list, fields, ranked⟩ := V
  dsimp only at hk
  subst hk
  obtain ⟨a1, n1, c1, rfl⟩ := hl
  obtain ⟨a2, n2, c2, rfl⟩ := hf
  obtain ⟨a3, n3, c3, rfl⟩ := hr
  go_enter Tryz.func141, Tryz.ntmps141
  go_wp2
  go_ret2
  exact ⟨rfl, (Below.refl _ _).alloc (Nat.le_refl _) _⟩
set_option maxRecDepth 10000 in
theorem vcheck_text {A : Nat → Prop} {w : World} {V : VV} {l f r : Value} (h : Val3 A w V l f r) (hk : V.kind = 1) (hl : V.list = []) (hf : V.fields = []) (hr : V.ranked = []) (hs : V.text.length ≤ 1048576) :
    Calls Tryz.prog 73 #[valV V l f r] w fun e w' => e = .returned (.int .i64 0) ∧ Below w.heap.size w w' := by
  obtain ⟨a1, c1, e1, _⟩ := h.list.slice
  obtain ⟨a2, c2, e2, _⟩ := h.fields.slice
  obtain ⟨a3, c3, e3, _⟩ := h.ranked.slice
  have HO := Lib.hid (fun W => vof_text W l f r V hk ⟨_, _, _, e1⟩ ⟨_, _, _, e2⟩ ⟨_, _, _, e3⟩)
  have HR := Lib.hid (fun W => vshort_ok V.text W)
  rw [decide_eq_true hs] at HR
  obtain ⟨kind, text, list, fields, ranked⟩ := V
  dsimp only at hk hl hf hr hs e1 e2 e3 HO HR
  subst hk hl hf hr e1 e2 e3
  unfold txt at HR
  clear h hs
  go_enter Tryz.func73, Tryz.ntmps73
  go_wp2_with fail
  refine (HO.out _).mono ?_; rintro e w2 ⟨rfl, hB2⟩
  have HB2 := Lib.hid (((Below.refl w.heap.size w).alloc (Nat.le_refl _) _).trans (hB2.mono (by simp)))
  obtain ⟨hq, _⟩ := bcell hB2
  have x0 : w2.cell? ⟨w.heap.size, 0, none⟩ = some (.int .i64 1) := by rw [hq _ _ (by simp)]; simp [go_sem]
  have x1 : w2.cell? ⟨w.heap.size, 1, none⟩ = some (.string ⟨text.toArray⟩) := by rw [hq _ _ (by simp)]; simp [go_sem]
  have x2 : w2.cell? ⟨w.heap.size, 2, none⟩ = some (.slice a1 0 c1) := by rw [hq _ _ (by simp)]; simp [go_sem]
  have x3 : w2.cell? ⟨w.heap.size, 3, none⟩ = some (.slice a2 0 c2) := by rw [hq _ _ (by simp)]; simp [go_sem]
  have x4 : w2.cell? ⟨w.heap.size, 4, none⟩ = some (.slice a3 0 c3) := by rw [hq _ _ (by simp)]; simp [go_sem]
  clear hB2 hq HO
  go_wp2_with fail
  clear x0 x1 x2 x3 x4
  refine upon_method (f := 332) (y := .string ⟨text.toArray⟩) (by kernel_rfl) ?_
  have HE : Calls Tryz.prog 332 #[.string ⟨text.toArray⟩] w2 fun e w' => e = .returned (.bool false) ∧ w' = w2 := by
    go_enter Tryz.func332, Tryz.ntmps332
    go_wp2
    go_ret
    exact ⟨rfl, rfl⟩
  have HG : Calls Tryz.prog 333 #[.string ⟨text.toArray⟩] w2 fun e w' => e = .returned (.bool true) ∧ w' = w2 := by
    go_enter Tryz.func333, Tryz.ntmps333
    go_wp2_with fail
    refine (HR.out _).mono ?_; rintro e w3 ⟨rfl, rfl⟩
    go_wp2_with fail
    go_ret
    exact ⟨rfl, rfl⟩
  go_wp2_with fail
  refine HE.mono ?_; rintro e w3 ⟨rfl, rfl⟩
  go_wp2_with fail
  refine upon_method (f := 333) (y := .string ⟨text.toArray⟩) (by kernel_rfl) ?_
  go_wp2_with fail
  refine HG.mono ?_; rintro e w4 ⟨rfl, rfl⟩
  go_wp2_with fail
  go_ret
  exact ⟨rfl, HB2.out⟩
end Go.Proofs.YthojmgjgmbnopaaGreatDoor
namespace Go.Proofs.YthojmgjgmbnopaaGreatDoor
open Go Go.RowKit
/-! A call of strings: what a key holds. -/
abbrev callC (p : Nat) (now : Int) (nm : List UInt8) (sv : Value) : Array Value := #[.pointer (some ⟨p, 0, none⟩), .int .i64 now, .string ⟨nm.toArray⟩, sv]
/-- What a key's text is told as. -/
def TextDid (w : World) (V : VV) (ok : Bool) (e : Ending) (w' : World) : Prop :=
  e = .returned (.tuple #[txt V.text, .bool ok, .bool (ok && V.kind != 1)]) ∧ Below w.heap.size w w'
def ListR (w : World) (V : VV) (ok : Bool) (s7 s8 : Value) (wx : World) : Prop :=
  ∃ g a1 c1 f r, s7 = .pointer (some ⟨g, 0, none⟩) ∧ s8 = .bool ok ∧ wx.heap[g]? = some (.cells #[.int .i64 V.kind, .string ⟨V.text.toArray⟩, .slice a1 V.list.length c1, f, r] 43 (0, 0)) ∧ Vw (fun b => w.heap.size ≤ b) wx (.slice a1 V.list.length c1) 1 V.list.length (V.list.map txt) ∧ Below w.heap.size w wx
section
variable {o : Roles} {w : World} {q : List Nat} {p : Nat} {c : Cnt} {S : SP}
set_option maxRecDepth 10000 in
set_option maxHeartbeats 20000000 in
theorem ctext_ok (h : SpJ o w q p S c) {cb : Nat} {ρ : List Nat} {now : Int} {nm : List UInt8} {sv : Value} (hcb : Blk o w ρ cb (callC p now nm sv) 108) (k : List UInt8) :
    Calls Tryz.prog 175 #[.pointer (some ⟨cb, 0, none⟩), txt k] w (TextDid w ((S.at now k).getD hd0).v (S.at now k).isSome) := by
  have hsm := h.small' now k
  have hB1 : Below w.heap.size w (w.alloc (.cells #[.int .i64 0, .string ⟨#[]⟩, .slice none 0 0, .slice none 0 0, .slice none 0 0] 43)) := (Below.refl _ _).alloc (Nat.le_refl _) _
  have HG1 := Lib.hid (jget_ok (h.below (Below.refl _ w).drew) k now)
  have HG2 := Lib.hid (jget_ok (h.below hB1.drew) k now)
  have HD1 := Lib.hid (show Blk none0 (w.alloc (.cells #[.int .i64 0, .string ⟨#[]⟩, .slice none 0 0, .slice none 0 0, .slice none 0 0] 43)) [] w.heap.size #[.int .i64 0, .string ⟨#[]⟩, .slice none 0 0, .slice none 0 0, .slice none 0 0] 43 from ⟨heap_alloc_new w _, rfl⟩)
  have HB1 := Lib.hid hB1
  have hz : (w.alloc (.cells #[.int .i64 0, .string ⟨#[]⟩, .slice none 0 0, .slice none 0 0, .slice none 0 0] 43)).heap.size = w.heap.size + 1 := by simp
  have HZ := Lib.hid hz
  have hb := hcb.cell
  have hf := hcb.free
  have hl := hcb.lt
  generalize (S.at now k).getD hd0 = H at *
  generalize (S.at now k).isSome = ok at *
  obtain ⟨⟨kind, text, list, fields, ranked⟩, due, ver⟩ := H
  dsimp only at hsm HG1 HG2
  clear h hB1 hz
  unfold txt at *
  go_enter Tryz.func175, Tryz.ntmps175
  go_wp2_with fail
  go_cut [7, 8] from 9 to 21 (fun s7 s8 wx => ListR w ⟨kind, text, list, fields, ranked⟩ ok s7 s8 wx)
  case first =>
    go_region_with (first
      | (go_at_call 24
         (with_reducible refine HG1.out.mono ?_)
         rintro e w2 ⟨l2, f2, r2, rfl, hv2, hB2⟩
         have HV2 := Lib.hid (show Val3 (fun b => w.heap.size ≤ b) w2 ⟨kind, text, list, fields, ranked⟩ l2 f2 r2 from hv2)
         have HB2 := Lib.hid (show Below w.heap.size w w2 from (Below.refl _ w).drew.trans hB2)
         obtain ⟨b1, d1, rfl, _⟩ := id hv2.list.slice
         obtain ⟨b2, d2, rfl, _⟩ := id hv2.fields.slice
         obtain ⟨b3, d3, rfl, _⟩ := id hv2.ranked.slice
         clear hv2 hB2)
      | (go_at_call 24
         (with_reducible refine HG2.out.mono ?_)
         rintro e w2 ⟨l2, f2, r2, rfl, hv2, hB2⟩
         have HV2 := Lib.hid (show Val3 (fun b => w.heap.size + 1 ≤ b) w2 ⟨kind, text, list, fields, ranked⟩ l2 f2 r2 from hv2.imp (fun b hb => Nat.le_trans (Nat.le_of_eq HZ.out.symm) hb))
         have HB2 := Lib.hid (show Below w.heap.size w w2 from HB1.out.trans ((((Below.refl _ _).drew).trans hB2).mono HB1.out.size))
         have HD2 := Lib.hid (HD1.out.below (((Below.refl _ _).drew).trans hB2))
         have hcd := HD2.out.cell
         have hfd := HD2.out.free
         obtain ⟨b1, d1, rfl, _⟩ := id hv2.list.slice
         obtain ⟨b2, d2, rfl, _⟩ := id hv2.fields.slice
         obtain ⟨b3, d3, rfl, _⟩ := id hv2.ranked.slice
         clear hv2 hB2))
    all_goals (
      first
      | (have D : ListR w ⟨kind, text, list, fields, ranked⟩ ok (.pointer (some ⟨w2.heap.size, 0, none⟩)) (.bool ok) (w2.alloc (.cells #[.int .i64 kind, .string ⟨text.toArray⟩, .slice b1 list.length d1, .slice b2 fields.length d2, .slice b3 ranked.length d3] 43)) :=
           ⟨_, b1, d1, _, _, rfl, rfl, heap_alloc_new _ _, HV2.out.list.below ((Below.refl _ w2).alloc (Nat.le_refl _) _), HB2.out.alloc HB2.out.size _⟩
         have HD := Lib.hid D
         clear D HG1 HG2 HD1 HB1 HZ HV2 HB2
         go_wp2_with fail
         go_meet
         exact HD.out)
      | (have h0 : Blk o w2 (o w.heap.size) w.heap.size #[.int .i64 0, .string ⟨#[]⟩, .slice none 0 0, .slice none 0 0, .slice none 0 0] 43 := ⟨HD2.out.heap, rfl⟩
         have D : ListR w ⟨kind, text, list, fields, ranked⟩ ok (.pointer (some ⟨w.heap.size, 0, none⟩)) (.bool ok) (((((w2.setCell ⟨w.heap.size, 0, none⟩ (.int .i64 kind)).setCell ⟨w.heap.size, 1, none⟩ (.string ⟨text.toArray⟩)).setCell ⟨w.heap.size, 2, none⟩ (.slice b1 list.length d1)).setCell ⟨w.heap.size, 3, none⟩ (.slice b2 fields.length d2)).setCell ⟨w.heap.size, 4, none⟩ (.slice b3 ranked.length d3)) := by
           refine ⟨_, b1, d1, _, _, rfl, rfl, (((((h0.setCell 0 (.int .i64 kind)).setCell 1 (.string ⟨text.toArray⟩)).setCell 2 (.slice b1 list.length d1)).setCell 3 (.slice b2 fields.length d2)).setCell 4 (.slice b3 ranked.length d3)).heap, ?_, ?_⟩
           · refine (HV2.out.list.stay (by simp) (fun b hb _ => ?_)).imp (fun b hb => Nat.le_trans (Nat.le_add_right _ _) hb)
             repeat rw [heap_set_far (by show b ≠ w.heap.size; omega)]
           · iterate 5 refine Below.setCell ?_ (by simp) _
             exact HB2.out
         have HD := Lib.hid D
         clear D HG1 HG2 HD1 HB1 HZ HV2 HB2
         go_wp2_with fail
         go_meet
         exact HD.out))
  case rest =>
    obtain ⟨g, a1, c1, f, r0, rfl, rfl, hx, hV, hB⟩ := hcut
    dsimp only at hx hV
    have hcx : ∀ j, wc.cell? ⟨g, j, none⟩ = (#[.int .i64 kind, .string ⟨text.toArray⟩, .slice a1 list.length c1, f, r0] : Array Value)[j]? := fun j => by simp [World.cell?, hx]
    have HV := Lib.hid hV
    have HB := Lib.hid hB
    clear hx hV hB HG1 HG2 HD1 HB1 HZ
    cases ok with
    | false =>
      go_wp2_with fail
      go_quiet (fail)
      go_wp2_with fail
      go_ret3
      exact ⟨rfl, below_drewN HB.out _⟩
    | true =>
      rcases hk : ((kind : Int) == 1) with _ | _
      · have hk2 : ((kind : Int) != 1) = true := by rw [bne, hk]; rfl
        go_wp2_with fail
        go_quiet (fail)
        go_wp2_with fail
        go_ret3
        exact ⟨by rw [hk2]; rfl, below_drewN HB.out _⟩
      · have hk2 : ((kind : Int) != 1) = false := by rw [bne, hk]; rfl
        go_wp2_with fail
        go_quiet (fail)
        go_wp2_with fail
        go_ret3
        exact ⟨by rw [hk2]; rfl, below_drewN HB.out _⟩
end
end Go.Proofs.YthojmgjgmbnopaaGreatDoor
namespace Go.Proofs.YthojmgjgmbnopaaGreatDoor
open Go Go.RowKit
/-! A text that is put. -/
def PutL (o : Roles) (w : World) (q : List Nat) (p : Nat) (S : SP) (c : Cnt) (b : Bool) (e : Ending) (w' : World) : Prop :=
  e = .returned (.bool b) ∧ ∃ o', SpJ o' w' q p S c ∧ Stp q o w o' w'
section
variable {o : Roles} {w : World} {q : List Nat} {p : Nat} {c : Cnt} {S : SP} {cb : Nat} {ρ : List Nat} {now : Int} {nm : List UInt8} {sv : Value}
set_option maxRecDepth 10000 in
set_option maxHeartbeats 4000000 in
theorem tlay_ok (h : SpJ o w q p S c) (hcb : Blk o w ρ cb (callC p now nm sv) 108) (k s : List UInt8) (hs : s.length ≤ 1048576) (hc : c.num ≤ 4611686018427387904) (hf : c.few ≤ 1099511627776) (due : Int) (hd : 0 ≤ due ∧ due ≤ 9007199254740992) :
    Calls Tryz.prog 183 #[.pointer (some ⟨cb, 0, none⟩), txt k, txt s, .int .i64 due] w (PutL o w q p (S.put k ⟨textV s, due, c.num + 1⟩) c.next true) := by
  have HP := Lib.hid (jput_ok h k (val3_text (fun _ => False) w s) ⟨by show s.length ≤ _; omega, by simp, by simp, by simp⟩ (fun b hb => hb.elim) due hd (fun W _ => vcheck_text (val3_text (fun _ => False) W s) rfl rfl rfl rfl hs) hc hf)
  have hcc := hcb.cell
  clear h hcb hs
  unfold txt at *
  go_enter Tryz.func183, Tryz.ntmps183
  go_wp2_with fail
  refine HP.out.mono ?_; rintro e w1 ⟨rfl, o1, h1, s1⟩
  have D := Lib.hid (show PutL o w q p (S.put k ⟨textV s, due, c.num + 1⟩) c.next true (.returned (.bool true)) w1 from ⟨rfl, o1, h1, s1⟩)
  clear h1 s1 HP
  go_wp2_with fail
  go_ret
  exact D.out
/-- A text is put, the deadline stays. -/
def SP.keepT (S : SP) (now : Int) (k s : List UInt8) (n : Nat) : SP := S.put k ⟨textV s, ((S.at now k).getD hd0).due, n⟩
set_option maxRecDepth 10000 in
set_option maxHeartbeats 4000000 in
theorem tput_ok (h : SpJ o w q p S c) (hcb : Blk o w ρ cb (callC p now nm sv) 108) (k s : List UInt8) (hs : s.length ≤ 1048576) (hc : c.num ≤ 4611686018427387904) (hf : c.few ≤ 1099511627776) :
    Calls Tryz.prog 177 #[.pointer (some ⟨cb, 0, none⟩), txt k, txt s] w (PutL o w q p (S.keepT now k s (c.num + 1)) c.next true) := by
  have hdl := h.lim' now k
  have HDUE := Lib.hid (jdue_ok (h.below (Below.refl _ w).drew) k now)
  have HLAY := Lib.hid (fun (W : World) (hW : Below w.heap.size w W) => tlay_ok (h.below hW) (hcb.below hW) k s hs hc hf _ hdl)
  have hcc := hcb.cell
  have HCB := Lib.hid hcb
  clear h hcb hs hdl
  unfold DueDid at HDUE
  unfold SP.keepT
  generalize S.put k ⟨textV s, ((S.at now k).getD hd0).due, c.num + 1⟩ = S' at *
  generalize ((S.at now k).getD hd0).due = due at *
  generalize (S.at now k).isSome = ok at *
  unfold txt at HDUE HLAY ⊢
  go_enter Tryz.func177, Tryz.ntmps177
  go_wp2_with fail
  go_region_with (
    go_at_call 20
    (with_reducible refine HDUE.out.mono ?_)
    rintro e w2 ⟨rfl, hB2⟩
    have hB2' : Below w.heap.size w w2 := (Below.refl _ w).drew.trans hB2
    have hcc2 := (HCB.out.below hB2').cell
    have HB2 := Lib.hid hB2'
    clear hB2 hB2')
  all_goals (
    have HL := Lib.hid (HLAY.out w2 HB2.out)
    clear HDUE HLAY hcc
    go_wp2_with fail
    refine HL.out.mono ?_; rintro e w3 ⟨rfl, o3, h3, s3⟩
    have D := Lib.hid (show PutL o w q p S' c.next true (.returned (.bool true)) w3 from ⟨rfl, o3, h3, (Stp.ofBelow q o HB2.out).trans s3⟩)
    clear h3 s3 HL HB2
    go_wp2_with fail
    go_ret
    exact D.out)
end
end Go.Proofs.YthojmgjgmbnopaaGreatDoor
