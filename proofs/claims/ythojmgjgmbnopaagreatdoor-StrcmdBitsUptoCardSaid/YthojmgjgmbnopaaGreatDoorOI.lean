import Derived.Test.YthojmgjgmbnopaaGreatDoorOP
import Derived.ChangeSlices
import Derived.OpenShut
namespace Go.Proofs.YthojmgjgmbnopaaGreatDoor
open Go Go.RowKit Go.ChangeShapes Go.WideShapes Go.ChangeAt Go.Deep Go.ChangeMaps Go.Joins
/-! A list of numbers is opened. -/
section
variable {H : Type} {enc : TypeId × Value → H} {w : World} {base : Nat} {spare : Nat → Bool} {held : Bool}
theorem cellsInt : Tryz.prog.cellsOf 3 = 1 := by kernel_rfl
theorem bulk_lits : ∀ zs : List Int, Rows.uptoBulkAll (H := H) (lits .i64 zs) = zs.length
  | [] => by simp [lits, Rows.uptoBulkAll]
  | z :: t => by
    have := bulk_lits t
    unfold lits at this ⊢
    rw [List.map_cons, Rows.uptoBulkAll, this, List.length_cons]
    simp [Rows.uptoBulk]; omega
set_option maxRecDepth 10000 in
theorem trod_ints {fuel : Nat} {v : Value} {x : DataW H × List MemPlace} (h : DataW.trod enc Tryz.prog w base spare held fuel 37 [v] = some x) :
    ∃ zs : List Int, Vw (Old w) w v 1 zs.length (zs.map (Value.int .i64)) ∧ zs.length + 1 ≤ Rows.uptoBulk x.1 ∧ ∀ n ∈ zs, -9223372036854775808 ≤ n ∧ n ≤ 9223372036854775807 := by
  rcases open_ints Tryz.underlying37 Tryz.underlying3 cellsInt h with ⟨h1, h2⟩ | ⟨a, len, cap, zs, hcs, hb, hl, hm, hmm, hx, hi, hw⟩
  · simp at h1
    exact ⟨[], ⟨⟨none, 0, by simp [h1], Nat.le_refl _, by simp, .inl rfl⟩, rfl⟩, by rw [h2]; simp [Rows.uptoBulk], by simp⟩
  · simp at hcs
    have hlm : len ≤ zs.length := by rw [hmm]; split <;> omega
    have htl : (zs.take len).length = len := by simp; omega
    refine ⟨zs.take len, ⟨⟨some a, cap, by rw [htl]; simp [hcs], by rw [htl]; exact hl, hm, ?_⟩, by simp⟩, ?_, fun n hn => bounds_i64 (hw n (List.mem_of_mem_take hn))⟩
    · by_cases h0 : len = 0
      · exact .inl (by omega)
      · right
        have hc0 := hi 0 (by omega)
        have hsp : a.spot = none := by
          have := spot_of hc0
          simpa [Addr.add] using this
        refine ⟨a.block, a.off, ?_, ?_, ?_, fun k y hk => ?_⟩
        · obtain ⟨b, off, sp⟩ := a; simp at hsp; subst hsp; rfl
        · have := block_of hc0; rw [add_of hsp] at this; exact this
        · have := block_of hc0; rw [add_of hsp] at this; exact this
        · have hkl : k < len := by have := (List.getElem?_eq_some_iff.1 hk).1; simp at this; omega
          have hck := hi k (by omega)
          rw [add_of hsp] at hck
          rw [List.getElem?_map, List.getElem?_take, if_pos hkl, List.getElem?_eq_getElem (by omega)] at hk
          cases hk
          rw [hck]
          simp [List.getD_eq_getElem?_getD, List.getElem?_eq_getElem (show k < zs.length by omega)]
    · rw [hx]
      simp only [Rows.uptoBulk]
      rw [bulk_lits, htl]
      omega
end
theorem read_ints : Tryz.prog.readableRec 37 = true ∧ 37 < Tryz.prog.types.size := ⟨by kernel_rfl, of_decide_eq_true (by kernel_rfl)⟩
end Go.Proofs.YthojmgjgmbnopaaGreatDoor
