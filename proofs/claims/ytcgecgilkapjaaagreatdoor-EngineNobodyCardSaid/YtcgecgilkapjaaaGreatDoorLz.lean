import Derived.Test.YtcgecgilkapjaaaGreatDoorProg
import GoSem.ClaimDataLaid
import Derived.KernelRfl
namespace Go.Proofs.YtcgecgilkapjaaaGreatDoor
open Go
theorem lz_n : Tryz.prog.types.size = 436 := by kernel_rfl
theorem lz_0 : ((List.range' 0 150).all (rowFine Tryz.prog)) = true := by kernel_rfl
theorem lz_1 : ((List.range' 150 150).all (rowFine Tryz.prog)) = true := by kernel_rfl
theorem lz_2 : ((List.range' 300 136).all (rowFine Tryz.prog)) = true := by kernel_rfl
theorem lz_g : (Tryz.prog.globals.all fun g => decide (g.type < Tryz.prog.types.size)) = true := by rw [lz_n]; kernel_rfl
theorem lz_f : (Tryz.prog.funcs.all fun f => f.params.all fun t => decide (t < Tryz.prog.types.size)) = true := by rw [lz_n]; kernel_rfl
theorem lz_r : List.range 436 = List.range' 0 150 ++ List.range' 150 150 ++ List.range' 300 136 := by kernel_rfl
theorem laidR : laidOutB Tryz.prog = true := by
  have h : (List.range Tryz.prog.types.size).all (rowFine Tryz.prog) = true := by
    rw [lz_n, lz_r]
    simp only [List.all_append, lz_0, lz_1, lz_2, Bool.and_self]
  unfold laidOutB
  rw [h, lz_g, lz_f]
  rfl
end Go.Proofs.YtcgecgilkapjaaaGreatDoor
