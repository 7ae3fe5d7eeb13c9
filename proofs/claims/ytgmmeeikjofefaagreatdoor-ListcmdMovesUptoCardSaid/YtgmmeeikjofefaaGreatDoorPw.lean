import Derived.Test.YtgmmeeikjofefaaGreatDoorNa
import Derived.Test.YtgmmeeikjofefaaGreatDoorDs
import Derived.Test.YtgmmeeikjofefaaGreatDoorMv
namespace Go.Proofs.YtgmmeeikjofefaaGreatDoor
open Go Go.RowKit
/-! Plain laws: a whole piece; the ends of a list; a list that is turned. -/
theorem piece_all (l : List (List UInt8)) : pieceL l 0 (-1) = l := by
  unfold pieceL
  by_cases h : l.length = 0
  · obtain rfl := List.length_eq_zero_iff.1 h
    simp
  · have hq : ¬ hiE l.length (-1) < loE l.length 0 := by unfold hiE loE; simp; omega
    rw [endsL_good hq]
    have h1 : loE l.length 0 = 0 := loE_pos (by omega)
    have h2 : hiE l.length (-1) = (l.length : Int) - 1 := by rw [hiE_neg (by omega)]; omega
    dsimp only
    rw [h1, h2]
    have h3 : ((l.length : Int) - 1 + 1).toNat - (0 : Int).toNat = l.length := by simp
    rw [h3]
    simp
theorem parse_0 : parseN [48] = some 0 := by decide +kernel
theorem parse_1 : parseN [49] = some 1 := by decide +kernel
theorem parse_m1 : parseN [45, 49] = some (-1) := by decide +kernel
theorem parse_m2 : parseN [45, 50] = some (-2) := by decide +kernel
/-- An end of a list, and the rest. -/
theorem ends_of (left : Bool) {l : List (List UInt8)} (h : l ≠ []) : ∃ x t, l = endL left x t ∧ l[if left then 0 else l.length - 1]? = some x := by
  cases left with
  | true =>
    cases l with
    | nil => exact absurd rfl h
    | cons x t => exact ⟨x, t, rfl, rfl⟩
  | false =>
    refine ⟨l.getLast h, l.dropLast, (List.dropLast_concat_getLast h).symm, ?_⟩
    rw [if_neg (by decide), ← List.getLast?_eq_getElem?, List.getLast?_eq_some_getLast h]
theorem endL_mem (left : Bool) (x : List UInt8) (t : List (List UInt8)) (y : List UInt8) : y ∈ endL left x t ↔ y = x ∨ y ∈ t := by
  unfold endL
  cases left <;> simp [or_comm]
/-- A list after k turns. -/
def turnL (right : Bool) (l : List (List UInt8)) (k : Nat) : List (List UInt8) := if right then l.drop (l.length - k) ++ l.take (l.length - k) else l.drop k ++ l.take k
theorem turnL_zero (right : Bool) (l : List (List UInt8)) : turnL right l 0 = l := by unfold turnL; cases right <;> simp
theorem turnL_all (right : Bool) (l : List (List UInt8)) : turnL right l l.length = l := by unfold turnL; cases right <;> simp
theorem turnL_next (right : Bool) {l : List (List UInt8)} {k : Nat} (hk : k < l.length) : ∃ x t, turnL right l k = endL (!right) x t ∧ turnL right l (k + 1) = endL right x t ∧ l[if right then l.length - 1 - k else k]? = some x ∧ t.length + 1 = l.length ∧ (∀ y ∈ endL right x t, y ∈ l) := by
  cases right with
  | false =>
    obtain ⟨x, hx⟩ : ∃ x, l[k]? = some x := ⟨_, List.getElem?_eq_getElem hk⟩
    have hd : l.drop k = x :: l.drop (k + 1) := by
      rw [List.drop_eq_getElem_cons hk]
      congr 1
      rw [List.getElem?_eq_getElem hk] at hx
      cases hx; rfl
    refine ⟨x, l.drop (k + 1) ++ l.take k, ?_, ?_, by simpa using hx, by simp; omega, fun y hy => ?_⟩
    · unfold turnL endL; simp [hd]
    · unfold turnL endL; simp [List.take_add_one, hx]
    · rw [endL_mem] at hy
      rcases hy with rfl | hy
      · exact List.mem_of_getElem? hx
      · rcases List.mem_append.1 hy with h | h
        · exact List.mem_of_mem_drop h
        · exact List.mem_of_mem_take h
  | true =>
    have hj : l.length - 1 - k < l.length := by omega
    obtain ⟨x, hx⟩ : ∃ x, l[l.length - 1 - k]? = some x := ⟨_, List.getElem?_eq_getElem hj⟩
    have hd : l.drop (l.length - 1 - k) = x :: l.drop (l.length - k) := by
      rw [List.drop_eq_getElem_cons hj]
      congr 1
      · rw [List.getElem?_eq_getElem hj] at hx
        cases hx; rfl
      · congr 1; omega
    have ht : l.take (l.length - k) = l.take (l.length - 1 - k) ++ [x] := by
      rw [show l.length - k = l.length - 1 - k + 1 by omega, List.take_add_one, hx]; rfl
    refine ⟨x, l.drop (l.length - k) ++ l.take (l.length - 1 - k), ?_, ?_, by simpa using hx, by simp; omega, fun y hy => ?_⟩
    · unfold turnL endL; simp [ht]
    · unfold turnL endL
      simp only [if_true]
      rw [show l.length - (k + 1) = l.length - 1 - k by omega, hd]; rfl
    · rw [endL_mem] at hy
      rcases hy with rfl | hy
      · exact List.mem_of_getElem? hx
      · rcases List.mem_append.1 hy with h | h
        · exact List.mem_of_mem_drop h
        · exact List.mem_of_mem_take h
end Go.Proofs.YtgmmeeikjofefaaGreatDoor
