import Derived.Test.YtgmmeeikjofefaaGreatDoorRl
import Derived.Lib.LaidTab
import Derived.Lib.ItoaNum
namespace Go.Proofs.YtgmmeeikjofefaaGreatDoor
open Go Go.RowKit
/-! The tables of the library. -/
abbrev noEv (ev : Value) : Prop := ev = .nilIface ∨ ∃ te pe, ev = .iface te pe
/-- What the library's variables hold. -/
structure Tbl (w : World) : Prop where
  pow : Lib.TabIs Tryz.prog w "internal/strconv.uint64pow10" .u64 Lib.pow10Tab
  es : ∃ ev, w.cell? ⟨1, 0, none⟩ = some ev ∧ noEv ev
  er : ∃ ev, w.cell? ⟨2, 0, none⟩ = some ev ∧ noEv ev
theorem Tbl.stay {w w' : World} (h : Tbl w) (hb : ∀ b, b < w.heap.size → b < 16 → w'.heap[b]? = w.heap[b]?) : Tbl w' := by
  obtain ⟨h1, ⟨e1, h2, h2'⟩, ⟨e2, h3, h3'⟩⟩ := h
  have hg : Tryz.prog.globalNamed "internal/strconv.uint64pow10" = some 3 := by kernel_rfl
  have l2 : 1 < w.heap.size := World.block_lt_of_cell? _ _ h2
  have l3 : 2 < w.heap.size := World.block_lt_of_cell? _ _ h3
  refine ⟨?_, ⟨e1, ?_, h2'⟩, ⟨e2, ?_, h3'⟩⟩
  · unfold Lib.TabIs World.var? at *
    simp only [hg, Option.bind_some] at *
    have l1 : 3 < w.heap.size := by
      rcases Nat.lt_or_ge 3 w.heap.size with h | h
      · exact h
      · rw [Array.getElem?_eq_none h] at h1; cases h1
    rw [hb _ l1 (by decide)]; exact h1
  · unfold World.cell? at *; simp only [hb _ l2 (by decide)]; exact h2
  · unfold World.cell? at *; simp only [hb _ l3 (by decide)]; exact h3
theorem Tbl.below {w w' : World} (h : Tbl w) (hB : Below w.heap.size w w') : Tbl w' := h.stay (fun b hb _ => hB.block b hb)
/-- The tables lie in blocks that no step of a role touches. -/
structure TR (o : Roles) (w : World) : Prop where
  tbl : Tbl w
  role : ∀ b, b < w.heap.size → b < 16 → o b = []
theorem TR.keep {o o' : Roles} {w w' : World} {r : List Nat} (h : TR o w) (st : Stp r o w o' w') (hr : r ≠ []) (h16 : 16 ≤ w.heap.size) : TR o' w' :=
  ⟨h.tbl.stay (fun b hb h16 => st.block b hb (by rw [h.role b hb h16]; intro hp; exact hr (List.prefix_nil.1 hp))), fun b _ hb => by rw [st.old b (by omega)]; exact h.role b (by omega) hb⟩
end Go.Proofs.YtgmmeeikjofefaaGreatDoor
