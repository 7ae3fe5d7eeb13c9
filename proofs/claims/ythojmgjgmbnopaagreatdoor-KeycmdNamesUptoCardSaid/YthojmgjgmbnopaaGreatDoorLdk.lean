import Derived.Test.YthojmgjgmbnopaaGreatDoorOPk
import Derived.Test.YthojmgjgmbnopaaGreatDoorCards
import Derived.Test.YthojmgjgmbnopaaGreatDoorTie
import Derived.Stop.LaidErr
import Derived.Lib.LaidTab
import Derived.LaidMore
import Derived.Deep.DeepHandedRow
import Derived.Deep.DeepWitnessRowRef
namespace Go.Proofs.YthojmgjgmbnopaaGreatDoor
open Go Go.RowKit Go.ChangeShapes Go.WideShapes Go.ChangeAt
/-! What the listed variables give; a start that has them. -/
abbrev laid5 : List (String × DataW Unit) := [("math/bits.deBruijn32tab", Rows.laid_math_bits_deBruijn32tab), ("math/bits.deBruijn64tab", Rows.laid_math_bits_deBruijn64tab), ("internal/strconv.uint64pow10", Rows.laid_internal_strconv_uint64pow10), ("strconv.ErrRange", Rows.laid_strconv_ErrRange), ("strconv.ErrSyntax", Rows.laid_strconv_ErrSyntax)]
theorem cellsPow : Tryz.prog.cellsOf 313 = 20 := by kernel_rfl
theorem cellsU64 : Tryz.prog.cellsOf 76 = 1 := by kernel_rfl
theorem cellsES : Tryz.prog.cellsOf 321 = 1 := by kernel_rfl
theorem cellsS : Tryz.prog.cellsOf 9 = 1 := by kernel_rfl
theorem gPow : Tryz.prog.globalNamed "internal/strconv.uint64pow10" = some 3 := by kernel_rfl
theorem gEr : Tryz.prog.globalNamed "strconv.ErrRange" = some 2 := by kernel_rfl
theorem gEs : Tryz.prog.globalNamed "strconv.ErrSyntax" = some 1 := by kernel_rfl
theorem tPow : (Tryz.prog.globals[3]?).map (·.type) = some 313 := by kernel_rfl
theorem tEr : (Tryz.prog.globals[2]?).map (·.type) = some 215 := by kernel_rfl
theorem tEs : (Tryz.prog.globals[1]?).map (·.type) = some 215 := by kernel_rfl
/-- The library's two errors, as they lie. -/
structure Two (W : World) : Prop where
  es : ∃ b off T fr, W.heap[1]? = some (.cells #[.iface 319 (.pointer (some ⟨b, off, none⟩))] T fr)
  er : ∃ b off T fr, W.heap[2]? = some (.cells #[.iface 319 (.pointer (some ⟨b, off, none⟩))] T fr)
theorem var_cells {P : Program} {W : World} {n : String} {g : Nat} {cs : Array Value} (hg : P.globalNamed n = some g) (h : W.var? P n = some cs) : ∃ T fr, W.heap[g]? = some (.cells cs T fr) := by
  unfold World.var? at h
  simp only [hg, Option.bind_some] at h
  split at h
  · rename_i c T fr hw
    cases h
    exact ⟨T, fr, hw⟩
  · cases h
theorem laid_two {W : World} (h : laidMetH Tryz.prog laid5 W) : Two W := by
  have h : laidMet Tryz.prog laid5 W := h
  have h3 := h.tail.tail
  have h4 := h3.tail
  have h5 := h4.tail
  have star : "*" ++ "errors.errorString" = "*errors.errorString" := by decide
  have row : ∀ u, Tryz.prog.typeName? 3 u = some "*errors.errorString" → u = 319 := fun u hu => typeName_ptr_named (nm := "errors.errorString") (by rw [star]; kernel_rfl) (by kernel_rfl) (by decide) u (by rw [star]; exact hu)
  obtain ⟨a0, s0, hv0, c0, -, -⟩ := laid_sentinel h4 gEr tEr Tryz.underlying215 row Tryz.underlying319 Tryz.underlying321 rfl rfl Tryz.underlying9 cellsES cellsS
  obtain ⟨a1, s1, hv1, c1, -, -⟩ := laid_sentinel h5 gEs tEs Tryz.underlying215 row Tryz.underlying319 Tryz.underlying321 rfl rfl Tryz.underlying9 cellsES cellsS
  have e0 := spot_of c0
  have e1 := spot_of c1
  obtain ⟨b0, o0, p0⟩ := a0
  obtain ⟨b1, o1, p1⟩ := a1
  simp only at e0 e1
  subst e0
  subst e1
  obtain ⟨T0, f0, g0⟩ := var_cells gEr hv0
  obtain ⟨T1, f1, g1⟩ := var_cells gEs hv1
  exact ⟨⟨b1, o1, T1, f1, g1⟩, ⟨b0, o0, T0, f0, g0⟩⟩
/-- A slice that an argument is. -/
theorem slice_plain {P : Program} {w : World} {r : Reach} {base : Nat} {t e : TypeId} {v : Value} (ht : P.underlying t = some (.slice e)) (h : Value.okWide P w r base t v) : v = .slice none 0 0 ∨ ∃ b off n c, v = .slice (some ⟨b, off, none⟩) n c := by
  obtain ⟨a, n, c, rfl⟩ := okWide_slice ht h
  simp only [Value.okWide, ht, Cell.okWide] at h
  cases a with
  | none =>
    left
    simp only [Cell.ok, ht] at h
    split at h <;> simp_all
  | some a =>
    right
    simp only [Cell.ok, ht] at h
    obtain ⟨-, -, -, h, -⟩ := h
    obtain ⟨b, off, sp⟩ := a
    simp only at h
    subst h
    exact ⟨_, _, _, _, rfl⟩
noncomputable def startW (os : Os) : World := World.doorLaid Tryz.prog 400 os
theorem start_laid (os : Os) (args : Array Value) : laidMet Tryz.prog laid5 ((startW os).forCall (fun _ _ => 0) ⟨#[], args, []⟩).memory :=
  laidMet_of_run' 8 (by kernel_rfl) (by kernel_rfl)
end Go.Proofs.YthojmgjgmbnopaaGreatDoor
