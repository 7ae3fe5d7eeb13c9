import Derived.Test.YthojmgjgmbnopaaGreatDoorRp
import Derived.Test.YthojmgjgmbnopaaGreatDoorXG
import Derived.Deep.RegionLaw
import Derived.Deep.DrawnRows
import Derived.Shelf.Abstract
namespace Go.Proofs.YthojmgjgmbnopaaGreatDoor
open Go Go.RowKit
attribute [local go_sem ↓] Go.wp_at_zero Go.wp_at_succ
/-! Replies: their lists. -/
structure Rf where
  kind : Nat
  text : List UInt8
  n : Int
abbrev rfC (x : Rf) : List Value := [.int .i64 (x.kind : Int), .string ⟨x.text.toArray⟩, .int .i64 x.n, .slice none 0 0]
def rfsC (l : List Rf) : List Value := l.flatMap rfC
theorem rfsC_app (a b : List Rf) : rfsC (a ++ b) = rfsC a ++ rfsC b := by unfold rfsC; exact List.flatMap_append
theorem rfsC_len (l : List Rf) : (rfsC l).length = l.length * 4 := by
  unfold rfsC
  induction l with
  | nil => rfl
  | cons x t ih => simp only [List.flatMap_cons, List.length_append, List.length_cons, ih]; simp; omega
theorem rfsC_one (l : List Rf) : ∀ u ∈ rfsC l, u.oneCell' = true := by
  intro u hu
  obtain ⟨x, _, hx⟩ := List.mem_flatMap.1 hu
  simp [rfC] at hx
  rcases hx with rfl | rfl | rfl | rfl <;> rfl
def bulkF (s : List UInt8) : Rf := ⟨4, s, 0⟩
def numF (n : Int) : Rf := ⟨3, [], n⟩
def BulksRel (w : World) (l : List (List UInt8)) (i : Value) (wr : World) : Prop :=
  ∃ k v o', k ≤ l.length ∧ i = .int .i64 ((k : Nat) : Int) ∧ Blk o' wr [9, 1] (w.heap.size + 1) #[.int .i64 6, .string ⟨#[]⟩, .int .i64 0, v] 30 ∧ Blk o' wr [9, 2] w.heap.size #[.int .i64 0, .string ⟨#[]⟩, .int .i64 0, .slice none 0 0] 30 ∧ Row o' wr [9, 0] 30 4 v k (rfsC ((l.take k).map bulkF)) ∧ Stp [9] none0 w o' wr
theorem vw_newK (w : World) (cs : Array Value) (T : TypeId) (sz : Nat) (h : cs.size = sz) : Vw (fun b => b = w.heap.size) (w.alloc (.cells cs T)) (.slice (some ⟨w.heap.size, 0, none⟩) 1 1) sz 1 cs.toList := by
  refine ⟨⟨_, 1, rfl, Nat.le_refl _, by unfold maxLen; omega, .inr ⟨w.heap.size, 0, rfl, by simp, rfl, fun k u hk => ?_⟩⟩, by simp [h]⟩
  unfold World.cell?
  rw [show (w.alloc (.cells cs T)).heap[w.heap.size]? = some (.cells cs T (0, 0)) from heap_alloc_new w _]
  simpa using hk
def BulksDid (w : World) (l : List (List UInt8)) (e : Ending) (w' : World) : Prop := ∃ v, e = .returned (repV 6 [] 0 v) ∧ Fresh w w' 30 4 v l.length (rfsC (l.map bulkF))
end Go.Proofs.YthojmgjgmbnopaaGreatDoor
