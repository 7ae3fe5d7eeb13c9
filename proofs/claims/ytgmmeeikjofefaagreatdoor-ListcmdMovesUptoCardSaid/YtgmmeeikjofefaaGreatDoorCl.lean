import Derived.Test.YtgmmeeikjofefaaGreatDoorVw
import Derived.Test.YtgmmeeikjofefaaGreatDoorProg
import Derived.WalkLawsBesides
import Derived.WalkSpells
import Derived.BigQuiet
import Derived.Deep.QuietTactic
import Derived.Lib.Hide
import Derived.Lib.LazyBuf
namespace Go.Proofs.YtgmmeeikjofefaaGreatDoor
open Go Go.RowKit
theorem eq_nil {P : Program} {t e : TypeId} (h : P.underlying t = some (.slice e)) (a : Option Addr) (l c : Nat) (w : World) : (binOp .eql t (.slice a l c) (.slice none 0 0)).run P w = .ok (.bool a.isNone) w := Go.run_eql_slice_nil w t e a l c h
theorem cut_own {P : Program} {t e : TypeId} {i0 : TypeInfo} (ht : P.underlying t = some (.slice e)) (hi : P.info? e = some i0) {a : Option Addr} {n cap : Nat} (h : n ≤ cap) (W : World) :
    (Instr.slice t (.slice a n cap) none (some (.int .i64 n)) (some (.int .i64 n))).run P W = .ok (.slice a n n) W := by
  have ha : a.map (fun x => x.add 0) = a := by cases a <;> simp [Addr.add]
  simp [Instr.slice, run_underlying ht, Instr.sliceBounds, Instr.sliceBound, asIntOf, sizeOf, typeInfo, hi]
  rw [if_pos (by omega)]
  simp [ha]
theorem infoS : (Tryz.prog.info? 9).map (fun i => (i.zero, i.size, i.bytes)) = some (some (.string ⟨#[]⟩), 1, 16) := by kernel_rfl
set_option maxRecDepth 10000 in
theorem clipS_ok {A : Nat → Prop} {w : World} {v : Value} {n : Nat} {xs : List Value} (h : Vw A w v 1 n xs) : Calls Tryz.prog 137 #[v] w fun e w' => ∃ v', e = .returned v' ∧ w' = w ∧ Vw A w v' 1 n xs := by
  obtain ⟨⟨a, cap, rfl, h1, h2, h3⟩, h4⟩ := h
  obtain ⟨i0, hi0, _⟩ := info_parts infoS
  have hcut := cut_own (P := Tryz.prog) Tryz.underlying22 hi0 (a := a) h1
  have D : Vw A w (.slice a n n) 1 n xs := ⟨⟨a, n, rfl, Nat.le_refl _, by omega, h3⟩, h4⟩
  have HD := Lib.hid D
  clear D h3 h4
  go_enter Tryz.func137, Tryz.ntmps137
  go_wp2
  go_ret
  exact ⟨_, rfl, rfl, HD.out⟩
set_option maxRecDepth 10000 in
theorem cloneS_ok {A : Nat → Prop} {w : World} {v : Value} {n : Nat} {xs : List Value} (h : Vw A w v 1 n xs) (h1 : ∀ u ∈ xs, u.oneCell' = true) (hn : n ≤ 1099511627776) : Calls Tryz.prog 126 #[v] w fun e w' => ∃ v', e = .returned v' ∧ Fresh w w' 9 1 v' n xs := by
  have hsrc := h.src (P := Tryz.prog) Tryz.underlying22 h1
  have hsl := h.slice
  obtain ⟨a, cap, rfl, g1, g2, g3⟩ := hsl
  cases a with
  | none =>
    have hn0 : n = 0 := g3.resolve_right (fun ⟨b, off, hb⟩ => by cases hb)
    subst hn0
    have hx : xs = [] := List.eq_nil_of_length_eq_zero (by simpa using h.len)
    subst hx
    have HD := Lib.hid (show Fresh w w 9 1 (.slice none 0 0) 0 [] from ⟨World.ownsRow_nil _ _ _ _, Below.refl _ _⟩)
    have hnil := eq_nil (P := Tryz.prog) Tryz.underlying22 none 0 cap
    clear hsrc h
    go_enter Tryz.func126, Tryz.ntmps126
    go_wp2
    go_ret
    exact ⟨_, rfl, HD.out⟩
  | some a =>
    obtain ⟨i0, hi0, hz0, hz1, hz2⟩ := info_parts infoS
    have HR := Lib.hid (Row.empty none0 w [9] 9 1)
    have HST := Lib.hid ((Stp.refl [9] none0 w).alloc (r' := [9]) (.cells #[] 9) w.heap.size rfl)
    have HSR := Lib.hid ((h.below ((Below.refl w.heap.size w).alloc (Nat.le_refl _) (.cells #[] 9))).src (P := Tryz.prog) Tryz.underlying22 h1)
    have hnil := eq_nil (P := Tryz.prog) Tryz.underlying22 (some a) n cap
    clear hsrc h g3
    go_enter Tryz.func126, Tryz.ntmps126
    go_wp2_with (
      at_builtin
      refine wpList_app _ rfl _ _ 22 22 rfl 9 i0 _ 1 16 Tryz.underlying22 hi0 hz0 hz1 hz2 rfl rfl HR.out rfl HSR.out (by omega) (by omega) ?_
      intro v' w1 o1 hrow hst
      have HF := Lib.hid (hrow.fresh (HST.out.trans hst))
      clear hrow hst)
    go_ret
    have hF := HF.out
    rw [Nat.zero_add, List.nil_append] at hF
    exact ⟨_, rfl, hF⟩
theorem infoF : (Tryz.prog.info? 186).map (fun i => (i.zero, i.size, i.bytes)) = some (some (.agg #[.string ⟨#[]⟩, .string ⟨#[]⟩]), 2, 32) := by kernel_rfl
set_option maxRecDepth 10000 in
theorem clipF_ok {A : Nat → Prop} {w : World} {v : Value} {n : Nat} {xs : List Value} (h : Vw A w v 2 n xs) : Calls Tryz.prog 138 #[v] w fun e w' => ∃ v', e = .returned v' ∧ w' = w ∧ Vw A w v' 2 n xs := by
  obtain ⟨⟨a, cap, rfl, h1, h2, h3⟩, h4⟩ := h
  obtain ⟨i0, hi0, _⟩ := info_parts infoF
  have hcut := cut_own (P := Tryz.prog) Tryz.underlying46 hi0 (a := a) h1
  have D : Vw A w (.slice a n n) 2 n xs := ⟨⟨a, n, rfl, Nat.le_refl _, by omega, h3⟩, h4⟩
  have HD := Lib.hid D
  clear D h3 h4
  go_enter Tryz.func138, Tryz.ntmps138
  go_wp2
  go_ret
  exact ⟨_, rfl, rfl, HD.out⟩
set_option maxRecDepth 10000 in
theorem cloneF_ok {A : Nat → Prop} {w : World} {v : Value} {n : Nat} {xs : List Value} (h : Vw A w v 2 n xs) (h1 : ∀ u ∈ xs, u.oneCell' = true) (hn : n ≤ 1099511627776) : Calls Tryz.prog 139 #[v] w fun e w' => ∃ v', e = .returned v' ∧ Fresh w w' 186 2 v' n xs := by
  have hsrc := h.src (P := Tryz.prog) Tryz.underlying46 h1
  have hsl := h.slice
  obtain ⟨a, cap, rfl, g1, g2, g3⟩ := hsl
  cases a with
  | none =>
    have hn0 : n = 0 := g3.resolve_right (fun ⟨b, off, hb⟩ => by cases hb)
    subst hn0
    have hx : xs = [] := List.eq_nil_of_length_eq_zero (by simpa using h.len)
    subst hx
    have HD := Lib.hid (show Fresh w w 186 2 (.slice none 0 0) 0 [] from ⟨World.ownsRow_nil _ _ _ _, Below.refl _ _⟩)
    have hnil := eq_nil (P := Tryz.prog) Tryz.underlying46 none 0 cap
    clear hsrc h
    go_enter Tryz.func139, Tryz.ntmps139
    go_wp2
    go_ret
    exact ⟨_, rfl, HD.out⟩
  | some a =>
    obtain ⟨i0, hi0, hz0, hz1, hz2⟩ := info_parts infoF
    have HR := Lib.hid (Row.empty none0 w [9] 186 2)
    have HST := Lib.hid ((Stp.refl [9] none0 w).alloc (r' := [9]) (.cells #[] 186) w.heap.size rfl)
    have HSR := Lib.hid ((h.below ((Below.refl w.heap.size w).alloc (Nat.le_refl _) (.cells #[] 186))).src (P := Tryz.prog) Tryz.underlying46 h1)
    have hnil := eq_nil (P := Tryz.prog) Tryz.underlying46 (some a) n cap
    clear hsrc h g3
    go_enter Tryz.func139, Tryz.ntmps139
    go_wp2_with (
      at_builtin
      refine wpList_app _ rfl _ _ 46 46 rfl 186 i0 _ 2 32 Tryz.underlying46 hi0 hz0 hz1 hz2 rfl rfl HR.out rfl HSR.out (by omega) (by omega) ?_
      intro v' w1 o1 hrow hst
      have HF := Lib.hid (hrow.fresh (HST.out.trans hst))
      clear hrow hst)
    go_ret
    have hF := HF.out
    rw [Nat.zero_add, List.nil_append] at hF
    exact ⟨_, rfl, hF⟩
theorem infoR : (Tryz.prog.info? 189).map (fun i => (i.zero, i.size, i.bytes)) = some (some (.agg #[.string ⟨#[]⟩, .int .i64 0]), 2, 24) := by kernel_rfl
set_option maxRecDepth 10000 in
theorem clipR_ok {A : Nat → Prop} {w : World} {v : Value} {n : Nat} {xs : List Value} (h : Vw A w v 2 n xs) : Calls Tryz.prog 140 #[v] w fun e w' => ∃ v', e = .returned v' ∧ w' = w ∧ Vw A w v' 2 n xs := by
  obtain ⟨⟨a, cap, rfl, h1, h2, h3⟩, h4⟩ := h
  obtain ⟨i0, hi0, _⟩ := info_parts infoR
  have hcut := cut_own (P := Tryz.prog) Tryz.underlying47 hi0 (a := a) h1
  have D : Vw A w (.slice a n n) 2 n xs := ⟨⟨a, n, rfl, Nat.le_refl _, by omega, h3⟩, h4⟩
  have HD := Lib.hid D
  clear D h3 h4
  go_enter Tryz.func140, Tryz.ntmps140
  go_wp2
  go_ret
  exact ⟨_, rfl, rfl, HD.out⟩
set_option maxRecDepth 10000 in
theorem cloneR_ok {A : Nat → Prop} {w : World} {v : Value} {n : Nat} {xs : List Value} (h : Vw A w v 2 n xs) (h1 : ∀ u ∈ xs, u.oneCell' = true) (hn : n ≤ 1099511627776) : Calls Tryz.prog 141 #[v] w fun e w' => ∃ v', e = .returned v' ∧ Fresh w w' 189 2 v' n xs := by
  have hsrc := h.src (P := Tryz.prog) Tryz.underlying47 h1
  have hsl := h.slice
  obtain ⟨a, cap, rfl, g1, g2, g3⟩ := hsl
  cases a with
  | none =>
    have hn0 : n = 0 := g3.resolve_right (fun ⟨b, off, hb⟩ => by cases hb)
    subst hn0
    have hx : xs = [] := List.eq_nil_of_length_eq_zero (by simpa using h.len)
    subst hx
    have HD := Lib.hid (show Fresh w w 189 2 (.slice none 0 0) 0 [] from ⟨World.ownsRow_nil _ _ _ _, Below.refl _ _⟩)
    have hnil := eq_nil (P := Tryz.prog) Tryz.underlying47 none 0 cap
    clear hsrc h
    go_enter Tryz.func141, Tryz.ntmps141
    go_wp2
    go_ret
    exact ⟨_, rfl, HD.out⟩
  | some a =>
    obtain ⟨i0, hi0, hz0, hz1, hz2⟩ := info_parts infoR
    have HR := Lib.hid (Row.empty none0 w [9] 189 2)
    have HST := Lib.hid ((Stp.refl [9] none0 w).alloc (r' := [9]) (.cells #[] 189) w.heap.size rfl)
    have HSR := Lib.hid ((h.below ((Below.refl w.heap.size w).alloc (Nat.le_refl _) (.cells #[] 189))).src (P := Tryz.prog) Tryz.underlying47 h1)
    have hnil := eq_nil (P := Tryz.prog) Tryz.underlying47 (some a) n cap
    clear hsrc h g3
    go_enter Tryz.func141, Tryz.ntmps141
    go_wp2_with (
      at_builtin
      refine wpList_app _ rfl _ _ 47 47 rfl 189 i0 _ 2 24 Tryz.underlying47 hi0 hz0 hz1 hz2 rfl rfl HR.out rfl HSR.out (by omega) (by omega) ?_
      intro v' w1 o1 hrow hst
      have HF := Lib.hid (hrow.fresh (HST.out.trans hst))
      clear hrow hst)
    go_ret
    have hF := HF.out
    rw [Nat.zero_add, List.nil_append] at hF
    exact ⟨_, rfl, hF⟩
end Go.Proofs.YtgmmeeikjofefaaGreatDoor
