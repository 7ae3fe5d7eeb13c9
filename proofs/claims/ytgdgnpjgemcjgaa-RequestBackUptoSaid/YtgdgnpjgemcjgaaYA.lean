import Derived.Test.YtgdgnpjgemcjgaaX
namespace Go.Proofs.Ytgdgnpjgemcjgaa
open Go Go.RowKit
def t1 : List UInt8 := [42, 50, 13, 10, 36, 51, 13, 10, 71, 69, 84, 13, 10, 36, 49, 13, 10, 97, 13, 10, 115, 101, 116, 32, 107, 32, 39, 97, 32, 98, 39, 10, 36]
def t2 : List UInt8 := [42, 49, 13, 10, 120]
def t3 : List UInt8 := [80, 73, 78, 71, 13, 10]
def lL : Lim := limL 10 3 32
theorem hw1 : wholeR (start lL t1) = ([[[71, 69, 84], [97]], [[115, 101, 116], [107], [97, 32, 98]]], ⟨lL, [36], 32, []⟩) := by kernel_rfl
theorem hw2 : wholeR (start lL t2) = ([], ⟨lL, [], 0, wBulk⟩) := by kernel_rfl
theorem hw3 : (start lL t3).next = (.one [[80, 73, 78, 71]], ⟨lL, [], 6, []⟩) := by kernel_rfl
theorem hw4 : writeL [[97]] = [42, 49, 13, 10, 36, 49, 13, 10, 97, 13, 10] := by
  have e : digitsL 1 = [49] := by rw [digitsL, if_pos (by decide)]; rfl
  have e2 : ([97] : List UInt8).length = 1 := rfl
  unfold writeL
  simp [e]
end Go.Proofs.Ytgdgnpjgemcjgaa
