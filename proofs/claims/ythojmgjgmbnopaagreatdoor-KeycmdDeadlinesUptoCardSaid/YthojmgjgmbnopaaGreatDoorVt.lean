import Derived.Test.YthojmgjgmbnopaaGreatDoorXF
namespace Go.Proofs.YthojmgjgmbnopaaGreatDoor
open Go Go.RowKit
/-! A value that is a text, put into a space of sets. -/
abbrev textV (s : List UInt8) : VV := ⟨1, s, [], [], []⟩
abbrev tvV (s : List UInt8) : Value := .agg #[.int .i64 1, .string ⟨s.toArray⟩, .slice none 0 0, .slice none 0 0, .slice none 0 0]
theorem val3_text (A : Nat → Prop) (w : World) (s : List UInt8) : Val3 A w (textV s) (.slice none 0 0) (.slice none 0 0) (.slice none 0 0) := ⟨Vw.nil _ _ _, Vw.nil _ _ _, Vw.nil _ _ _⟩
set_option maxRecDepth 10000 in
theorem vof_text (w : World) (l f r : Value) (V : VV) (hk : V.kind = 1) (hl : ∃ a n c, l = .slice a n c) (hf : ∃ a n c, f = .slice a n c) (hr : ∃ a n c, r = .slice a n c) : Calls Tryz.prog 141 #[valV V l f r] w fun e w' => e = .returned (.tuple #[.iface 226 (.string ⟨V.text.toArray⟩), .bool true]) ∧ Below w.heap.size w w' := by
  obtain ⟨kind, text, list, fields, ranked⟩ := V
  dsimp only at hk
  subst hk
  obtain ⟨a1, n1, c1, rfl⟩ := hl
  obtain ⟨a2, n2, c2, rfl⟩ := hf
  obtain ⟨a3, n3, c3, rfl⟩ := hr
  go_enter Tryz.func141, Tryz.ntmps141
  go_wp2
  go_ret2
  exact ⟨rfl, (Below.refl _ _).alloc (Nat.le_refl _) _⟩
set_option maxRecDepth 10000 in
theorem vcheck_text {A : Nat → Prop} {w : World} {V : VV} {l f r : Value} (h : Val3 A w V l f r) (hk : V.kind = 1) (hl : V.list = []) (hf : V.fields = []) (hr : V.ranked = []) (hs : V.text.length ≤ 1048576) :
    Calls Tryz.prog 73 #[valV V l f r] w fun e w' => e = .returned (.int .i64 0) ∧ Below w.heap.size w w' := by
  obtain ⟨a1, c1, e1, _⟩ := h.list.slice
  obtain ⟨a2, c2, e2, _⟩ := h.fields.slice
  obtain ⟨a3, c3, e3, _⟩ := h.ranked.slice
  have HO := Lib.hid (fun W => vof_text W l f r V hk ⟨_, _, _, e1⟩ ⟨_, _, _, e2⟩ ⟨_, _, _, e3⟩)
  have HR := Lib.hid (fun W => vshort_ok V.text W)
  rw [decide_eq_true hs] at HR
  obtain ⟨kind, text, list, fields, ranked⟩ := V
  dsimp only at hk hl hf hr hs e1 e2 e3 HO HR
  subst hk hl hf hr e1 e2 e3
  unfold txt at HR
  clear h hs
  go_enter Tryz.func73, Tryz.ntmps73
  go_wp2_with fail
  refine (HO.out _).mono ?_; rintro e w2 ⟨rfl, hB2⟩
  have HB2 := Lib.hid (((Below.refl w.heap.size w).alloc (Nat.le_refl _) _).trans (hB2.mono (by simp)))
  obtain ⟨hq, _⟩ := bcell hB2
  have x0 : w2.cell? ⟨w.heap.size, 0, none⟩ = some (.int .i64 1) := by rw [hq _ _ (by simp)]; simp [go_sem]
  have x1 : w2.cell? ⟨w.heap.size, 1, none⟩ = some (.string ⟨text.toArray⟩) := by rw [hq _ _ (by simp)]; simp [go_sem]
  have x2 : w2.cell? ⟨w.heap.size, 2, none⟩ = some (.slice a1 0 c1) := by rw [hq _ _ (by simp)]; simp [go_sem]
  have x3 : w2.cell? ⟨w.heap.size, 3, none⟩ = some (.slice a2 0 c2) := by rw [hq _ _ (by simp)]; simp [go_sem]
  have x4 : w2.cell? ⟨w.heap.size, 4, none⟩ = some (.slice a3 0 c3) := by rw [hq _ _ (by simp)]; simp [go_sem]
  clear hB2 hq HO
  go_wp2_with fail
  clear x0 x1 x2 x3 x4
  refine upon_method (f := 332) (y := .string ⟨text.toArray⟩) (by kernel_rfl) ?_
  have HE : Calls Tryz.prog 332 #[.string ⟨text.toArray⟩] w2 fun e w' => e = .returned (.bool false) ∧ w' = w2 := by
    go_enter Tryz.func332, Tryz.ntmps332
    go_wp2
    go_ret
    exact ⟨rfl, rfl⟩
  have HG : Calls Tryz.prog 333 #[.string ⟨text.toArray⟩] w2 fun e w' => e = .returned (.bool true) ∧ w' = w2 := by
    go_enter Tryz.func333, Tryz.ntmps333
    go_wp2_with fail
    refine (HR.out _).mono ?_; rintro e w3 ⟨rfl, rfl⟩
    go_wp2_with fail
    go_ret
    exact ⟨rfl, rfl⟩
  go_wp2_with fail
  refine HE.mono ?_; rintro e w3 ⟨rfl, rfl⟩
  go_wp2_with fail
  refine upon_method (f := 333) (y := .string ⟨text.toArray⟩) (by kernel_rfl) ?_
  go_wp2_with fail
  refine HG.mono ?_; rintro e w4 ⟨rfl, rfl⟩
  go_wp2_with fail
  go_ret
  exact ⟨rfl, HB2.out⟩
end Go.Proofs.YthojmgjgmbnopaaGreatDoor
