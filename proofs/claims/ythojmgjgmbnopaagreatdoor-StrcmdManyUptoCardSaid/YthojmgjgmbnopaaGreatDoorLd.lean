import Derived.Test.YthojmgjgmbnopaaGreatDoorOP
import Derived.Test.YthojmgjgmbnopaaGreatDoorXM
import Derived.Test.YthojmgjgmbnopaaGreatDoorCards
import Derived.Test.YthojmgjgmbnopaaGreatDoorTie
import Derived.Stop.LaidErr
import Derived.Lib.LaidTab
import Derived.LaidMore
import Derived.Deep.DeepHandedRow
import Derived.Deep.DeepWitnessRowRef
namespace Go.Proofs.YthojmgjgmbnopaaGreatDoor
open Go Go.RowKit Go.ChangeShapes Go.WideShapes Go.ChangeAt
/-! What the listed variables give; a start that has them. -/
abbrev laid5 : List (String × DataW Unit) := [("math/bits.deBruijn32tab", Rows.laid_math_bits_deBruijn32tab), ("math/bits.deBruijn64tab", Rows.laid_math_bits_deBruijn64tab), ("internal/strconv.uint64pow10", Rows.laid_internal_strconv_uint64pow10), ("strconv.ErrRange", Rows.laid_strconv_ErrRange), ("strconv.ErrSyntax", Rows.laid_strconv_ErrSyntax)]
theorem cellsPow : Tryz.prog.cellsOf 313 = 20 := by kernel_rfl
theorem cellsU64 : Tryz.prog.cellsOf 76 = 1 := by kernel_rfl
theorem cellsES : Tryz.prog.cellsOf 321 = 1 := by kernel_rfl
theorem cellsS : Tryz.prog.cellsOf 9 = 1 := by kernel_rfl
theorem gPow : Tryz.prog.globalNamed "internal/strconv.uint64pow10" = some 3 := by kernel_rfl
theorem gEr : Tryz.prog.globalNamed "strconv.ErrRange" = some 2 := by kernel_rfl
theorem gEs : Tryz.prog.globalNamed "strconv.ErrSyntax" = some 1 := by kernel_rfl
theorem tPow : (Tryz.prog.globals[3]?).map (·.type) = some 313 := by kernel_rfl
theorem tEr : (Tryz.prog.globals[2]?).map (·.type) = some 215 := by kernel_rfl
theorem tEs : (Tryz.prog.globals[1]?).map (·.type) = some 215 := by kernel_rfl
theorem laid_tbl {W : World} (h : laidMetH Tryz.prog laid5 W) : Tbl W := by
  have h : laidMet Tryz.prog laid5 W := h
  have h3 := h.tail.tail
  have h4 := h3.tail
  have h5 := h4.tail
  have star : "*" ++ "errors.errorString" = "*errors.errorString" := by decide
  have row : ∀ u, Tryz.prog.typeName? 3 u = some "*errors.errorString" → u = 319 := fun u hu => typeName_ptr_named (nm := "errors.errorString") (by rw [star]; kernel_rfl) (by kernel_rfl) (by decide) u (by rw [star]; exact hu)
  obtain ⟨a0, s0, hv0, -, -, -⟩ := laid_sentinel h4 gEr tEr Tryz.underlying215 row Tryz.underlying319 Tryz.underlying321 rfl rfl Tryz.underlying9 cellsES cellsS
  obtain ⟨a1, s1, hv1, -, -, -⟩ := laid_sentinel h5 gEs tEs Tryz.underlying215 row Tryz.underlying319 Tryz.underlying321 rfl rfl Tryz.underlying9 cellsES cellsS
  exact ⟨Lib.tabIs_of_head gPow tPow Tryz.underlying313 Tryz.underlying76 cellsU64 cellsPow h3, ⟨_, by have h0 := World.var?_cell gEs hv1 0; simpa using h0, .inr ⟨_, _, rfl⟩⟩, ⟨_, by have h0 := World.var?_cell gEr hv0 0; simpa using h0, .inr ⟨_, _, rfl⟩⟩⟩
noncomputable def startW (os : Os) : World := World.doorLaid Tryz.prog 400 os
theorem start_laid (os : Os) (args : Array Value) : laidMet Tryz.prog laid5 ((startW os).forCall (fun _ _ => 0) ⟨#[], args, []⟩).memory :=
  laidMet_of_run' 8 (by kernel_rfl) (by kernel_rfl)
end Go.Proofs.YthojmgjgmbnopaaGreatDoor
