/- What the law of this seat asks: how an argument reads, a start. -/
import Derived.Test.YtcgecgilkapjaaaGreatDoorQc
import Derived.ChangeMaps5
import Derived.Lib.SmallJoins
import Derived.Test.YtcgecgilkapjaaaGreatDoorLz
import Derived.Test.YtcgecgilkapjaaaGreatDoorLawEnd
import Derived.Test.YtcgecgilkapjaaaGreatDoorRows
import Derived.Test.YtcgecgilkapjaaaGreatDoorCards
import Derived.Stop.LaidErr
import Derived.Lib.LaidTab
import Derived.LaidMore
import Derived.Deep.DeepHandedRow
import Derived.Deep.DeepWitnessRowRef
namespace Go.Proofs.YtcgecgilkapjaaaGreatDoor
open Go Go.RowKit Go.ChangeShapes Go.WideShapes Go.ChangeAt
theorem ownR : ownKnob Tryz.prog.godebug = none := by kernel_rfl
theorem read_strs : Tryz.prog.readableRec 22 = true ∧ 22 < Tryz.prog.types.size := ⟨by kernel_rfl, of_decide_eq_true (by kernel_rfl)⟩
theorem read_int : Tryz.prog.readableRec 3 = true ∧ 3 < Tryz.prog.types.size := ⟨by kernel_rfl, of_decide_eq_true (by kernel_rfl)⟩
/-- A slice that an argument is. -/
theorem slice_plain {P : Program} {w : World} {r : Reach} {base : Nat} {t e : TypeId} {v : Value} (ht : P.underlying t = some (.slice e)) (h : Value.okWide P w r base t v) : v = .slice none 0 0 ∨ ∃ b off n c, v = .slice (some ⟨b, off, none⟩) n c := by
  obtain ⟨a, n, c, rfl⟩ := okWide_slice ht h
  simp only [Value.okWide, ht, Cell.okWide] at h
  cases a with
  | none =>
    left
    simp only [Cell.ok, ht] at h
    split at h <;> simp_all
  | some a =>
    right
    simp only [Cell.ok, ht] at h
    obtain ⟨-, -, -, h, -⟩ := h
    obtain ⟨b, off, sp⟩ := a
    simp only at h
    subst h
    exact ⟨_, _, _, _, rfl⟩
noncomputable def startW (os : Os) : World := World.doorLaid Tryz.prog 400 os
end Go.Proofs.YtcgecgilkapjaaaGreatDoor
