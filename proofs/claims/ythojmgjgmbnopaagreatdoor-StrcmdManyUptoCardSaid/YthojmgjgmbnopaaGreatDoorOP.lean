import Derived.Test.YthojmgjgmbnopaaGreatDoorJE
import Derived.Test.YthojmgjgmbnopaaGreatDoorLawEnd
import Derived.Test.YthojmgjgmbnopaaGreatDoorRows
import Derived.Deep.Slices
import Derived.Deep.Strs
import Derived.Lib.SmallJoins
import Derived.ChangeMaps5
namespace Go.Proofs.YthojmgjgmbnopaaGreatDoor
open Go Go.RowKit Go.ChangeShapes Go.WideShapes Go.ChangeAt Go.Deep Go.ChangeMaps Go.Joins
theorem spot_of {w : World} {a : Addr} {v : Value} (h : w.cell? a = some v) : a.spot = none := by
  unfold World.cell? at h
  split at h
  · split at h
    · cases h
    · rename_i hs; simpa using hs
  · cases h
theorem block_of {w : World} {a : Addr} {v : Value} (h : w.cell? a = some v) : a.block < w.heap.size := World.block_lt_of_cell? w a h
theorem add_of {a : Addr} (h : a.spot = none) (k : Nat) : a.add k = ⟨a.block, a.off + k, none⟩ := by
  obtain ⟨b, off, sp⟩ := a
  simp only at h
  subst h
  unfold Addr.add
  split
  · rename_i hk; subst hk; rfl
  · rfl
/-- How many letters and texts. -/
def bulkS (ws : List (List UInt8)) : Nat := (ws.map fun x => x.length + 1).sum
theorem sum_map_range {α : Type} (n : Nat) (f : Nat → α) (g : α → Nat) : (((List.range n).map f).map g).sum = ((List.range n).map fun i => g (f i)).sum := by rw [List.map_map]; rfl
theorem le_sum_of {ws : List (List UInt8)} {x : List UInt8} (h : x ∈ ws) : x.length + 1 ≤ bulkS ws := by
  unfold bulkS
  induction ws with
  | nil => cases h
  | cons y t ih =>
    simp only [List.map_cons, List.sum_cons]
    rcases List.mem_cons.1 h with rfl | h
    · omega
    · have := ih h; omega
theorem len_le_bulkS (ws : List (List UInt8)) : ws.length ≤ bulkS ws := by
  unfold bulkS
  induction ws with
  | nil => simp
  | cons y t ih => simp only [List.map_cons, List.sum_cons, List.length_cons]; omega
theorem bulkAll_range {H : Type} (n : Nat) (D : Nat → DataW H) : Rows.uptoBulkAll ((List.range n).map D) = ((List.range n).map fun i => Rows.uptoBulk (D i)).sum := by
  generalize List.range n = l
  induction l with
  | nil => simp [Rows.uptoBulkAll]
  | cons x t ih => simp only [List.map_cons, Rows.uptoBulkAll, List.sum_cons, ih]
theorem sum_mono (n : Nat) (f g : Nat → Nat) (h : ∀ i, i < n → f i ≤ g i) : ((List.range n).map f).sum ≤ ((List.range n).map g).sum := by
  induction n with
  | zero => simp
  | succ n ih =>
    rw [List.range_succ, List.map_append, List.map_append, List.sum_append, List.sum_append]
    have h1 := ih (fun i hi => h i (by omega))
    have h2 := h n (by omega)
    simp
    omega
section
variable {H : Type} {enc : TypeId × Value → H} {w : World} {base : Nat} {spare : Nat → Bool} {held : Bool}
set_option maxRecDepth 10000 in
theorem op_str {r : Reach} {b0 : Nat} {v : Value} {d : DataW H} {ps : List MemPlace} (hval : Value.okWide Tryz.prog w r b0 9 v) (hd : DataW.Trod enc Tryz.prog w base spare held 9 v d ps) :
    ∃ s : List UInt8, v = .string ⟨s.toArray⟩ ∧ s.length + 1 = Rows.uptoBulk d := by
  obtain ⟨s, rfl, rfl, _, _⟩ := open_string Tryz.underlying9 hval hd
  exact ⟨s.data.toList, by simp, by simp [Rows.uptoBulk]⟩
theorem cellsStr : Tryz.prog.cellsOf 9 = 1 := by kernel_rfl
theorem cellsStrs : Tryz.prog.cellsOf 39 = 1 := by kernel_rfl
set_option maxRecDepth 10000 in
theorem trod_strs {fuel : Nat} {v : Value} {x : DataW H × List MemPlace} (h : DataW.trod enc Tryz.prog w base spare held fuel 39 [v] = some x) :
    ∃ ws : List (List UInt8), Vw (Old w) w v 1 ws.length (ws.map txt) ∧ bulkS ws + 1 ≤ Rows.uptoBulk x.1 := by
  rcases open_strs Tryz.underlying39 Tryz.underlying9 cellsStr h with ⟨h1, h2⟩ | ⟨a, len, cap, m, Sx, hcs, hb, hl, hm, hmm, hx, hi⟩
  · simp at h1
    exact ⟨[], ⟨⟨none, 0, by simp [h1], Nat.le_refl _, by simp, .inl rfl⟩, rfl⟩, by rw [h2]; simp [bulkS, Rows.uptoBulk]⟩
  · simp at hcs
    have hlm : len ≤ m := by rw [hmm]; split <;> omega
    refine ⟨(List.range len).map fun i => (Sx i).data.toList, ⟨⟨some a, cap, by simp [hcs], by simpa using hl, hm, ?_⟩, by simp⟩, ?_⟩
    · by_cases h0 : len = 0
      · subst h0; exact .inl rfl
      · right
        have hc0 := (hi 0 (by omega)).1
        have hsp : a.spot = none := by
          have := spot_of hc0
          simpa [Addr.add] using this
        refine ⟨a.block, a.off, ?_, ?_, ?_, fun k y hk => ?_⟩
        · obtain ⟨b, off, sp⟩ := a; simp at hsp; subst hsp; rfl
        · have := block_of hc0; rw [add_of hsp] at this; exact this
        · have := block_of hc0; rw [add_of hsp] at this; exact this
        · have hkl : k < len := by have := (List.getElem?_eq_some_iff.1 hk).1; simpa using this
          rw [List.getElem?_map] at hk
          have hck := (hi k (by omega)).1
          rw [add_of hsp] at hck
          rw [List.getElem?_map, List.getElem?_range hkl] at hk
          cases hk
          rw [hck]
          simp [txt]
    · rw [hx]
      simp only [Rows.uptoBulk]
      rw [bulkAll_range]
      unfold bulkS
      rw [sum_map_range]
      have : ((List.range len).map fun i => (Sx i).data.toList.length + 1).sum = ((List.range len).map fun i => Rows.uptoBulk (DataW.lit (H := H) (.string (Sx i).data.toList))).sum := by simp [Rows.uptoBulk]
      omega
end
theorem upto_of {H : Type} {l : List (DataW H)} (h : Rows.uptoSmall H l = true) : Rows.uptoBulkAll l ≤ 1048576 := of_decide_eq_true h
theorem laidR : laidOutB Tryz.prog = true := by kernel_rfl
theorem ownR : ownKnob Tryz.prog.godebug = none := by kernel_rfl
theorem read_str : Tryz.prog.readableRec 9 = true ∧ 9 < Tryz.prog.types.size := ⟨by kernel_rfl, of_decide_eq_true (by kernel_rfl)⟩
theorem read_strs : Tryz.prog.readableRec 39 = true ∧ 39 < Tryz.prog.types.size := ⟨by kernel_rfl, of_decide_eq_true (by kernel_rfl)⟩
theorem read_int : Tryz.prog.readableRec 3 = true ∧ 3 < Tryz.prog.types.size := ⟨by kernel_rfl, of_decide_eq_true (by kernel_rfl)⟩
theorem read_bool : Tryz.prog.readableRec 4 = true ∧ 4 < Tryz.prog.types.size := ⟨by kernel_rfl, of_decide_eq_true (by kernel_rfl)⟩
end Go.Proofs.YthojmgjgmbnopaaGreatDoor
