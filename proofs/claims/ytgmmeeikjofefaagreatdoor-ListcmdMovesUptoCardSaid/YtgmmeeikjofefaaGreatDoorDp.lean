import Derived.Test.YtgmmeeikjofefaaGreatDoorDe
namespace Go.Proofs.YtgmmeeikjofefaaGreatDoor
open Go Go.RowKit
section
variable {o : Roles} {w : World} {r : List Nat} {d B : Nat} {l : List (List UInt8)}
theorem np2 {r : List Nat} {a : Nat} : r ++ [a] ≠ r := by simp
set_option maxRecDepth 10000 in
theorem dpushBack_ok {A : Nat → Prop} (h : DeqI o w r d B l) {v : Value} {ws : List (List UInt8)} (hv : Vw A w v 1 ws.length (ws.map txt)) (hn : B + ws.length ≤ 1099511627776) :
    Calls Tryz.prog 65 #[.pointer (some ⟨d, 0, none⟩), v] w fun e w' => e = .returned (.tuple #[]) ∧ ∃ o', DeqI o' w' r d (B + ws.length) (l ++ ws) ∧ Stp r o w o' w' := by
  obtain ⟨sv, junk, h⟩ := h
  have hf := h.few
  have HSRC := Lib.hid (hv.src (P := Tryz.prog) Tryz.underlying22 (one_list ws))
  obtain ⟨i0, hi0, hz0, hz1, hz2⟩ := info_parts infoS
  have hb := h.blk.cell
  obtain ⟨a0, c0, e3, _⟩ := h.row.slice
  subst e3
  obtain ⟨a1, c1, e4, _⟩ := hv.slice
  subst e4
  have HD := Lib.hid h
  clear h hv
  go_enter Tryz.func65, Tryz.ntmps65
  go_wp2_with (
    at_builtin
    refine wpList_app _ rfl _ _ 22 22 rfl 9 i0 _ 1 16 Tryz.underlying22 hi0 hz0 hz1 hz2 rfl rfl HD.out.row rfl HSRC.out (by unfold maxLen; omega) (by omega) ?_
    intro v' w1 o1 hrow hst
    obtain ⟨a2, c2, e5, _⟩ := id hrow.slice
    subst e5
    have hblk := HD.out.blk.keep hst np1
    have hb1 := hblk.cell
    have hf1 := hblk.free
    have HROW := Lib.hid hrow
    have HBLK := Lib.hid hblk
    have HST := Lib.hid hst
    clear hrow hst hblk hb)
  go_end0
  refine ⟨rfl, o1, ⟨.slice a2 (junk.length + l.length + ws.length) c2, junk, ?_, ?_, by simp; omega⟩, ?_⟩
  · exact HBLK.out.setCell 0 _
  · have hr := HROW.out.setCell ⟨d, 0, none⟩ (.slice a2 (junk.length + l.length + ws.length) c2) (by show o1 d ≠ r ++ [0]; rw [HBLK.out.role]; exact np2.symm)
    simpa [Nat.add_assoc] using hr
  · exact (HST.out.wide (List.prefix_append _ _)).setCell (by show r <+: o1 d; rw [HBLK.out.role]; exact List.prefix_refl _) _
/-- The ends of a piece. -/
def loE (n : Nat) (a : Int) : Int := if a < 0 then max 0 (a + n) else a
def hiE (n : Nat) (b : Int) : Int := min (if b < 0 then b + n else b) ((n : Int) - 1)
def endsL (n : Nat) (a b : Int) : Nat × Nat := if hiE n b < loE n a then (0, 0) else ((loE n a).toNat, (hiE n b + 1).toNat)
theorem loE_neg {n : Nat} {a : Int} (h : a < 0) : loE n a = max 0 (a + n) := if_pos h
theorem loE_pos {n : Nat} {a : Int} (h : ¬ a < 0) : loE n a = a := if_neg h
theorem hiE_neg {n : Nat} {b : Int} (h : b < 0) : hiE n b = min (b + n) ((n : Int) - 1) := by unfold hiE; rw [if_pos h]
theorem hiE_pos {n : Nat} {b : Int} (h : ¬ b < 0) : hiE n b = min b ((n : Int) - 1) := by unfold hiE; rw [if_neg h]
theorem loE_ge (n : Nat) (a : Int) : 0 ≤ loE n a := by
  by_cases h : a < 0
  · rw [loE_neg h]; omega
  · rw [loE_pos h]; omega
theorem endsL_bad {n : Nat} {a b : Int} (h : hiE n b < loE n a) : endsL n a b = (0, 0) := if_pos h
theorem endsL_good {n : Nat} {a b : Int} (h : ¬ hiE n b < loE n a) : endsL n a b = ((loE n a).toNat, (hiE n b + 1).toNat) := if_neg h
end
end Go.Proofs.YtgmmeeikjofefaaGreatDoor
