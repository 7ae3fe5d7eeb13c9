import Derived.Test.YtgdgnpjgemcjgaaA
namespace Go.Proofs.Ytgdgnpjgemcjgaa
open Go Go.RowKit
/-- A byte, compared. -/
theorem beqI (b : UInt8) (c : UInt8) : ((b.toNat : Int) == (c.toNat : Int)) = decide (b = c) := by
  by_cases h : b = c
  · subst h; simp
  · have : b.toNat ≠ c.toNat := fun e => h (UInt8.toNat_inj.1 e)
    simp [h]; omega
theorem beqT {b : UInt8} (c : UInt8) (h : b = c) : ((b.toNat : Int) == (c.toNat : Int)) = true := by simp [h]
theorem beqF {b : UInt8} (c : UInt8) (h : ¬ b = c) : ((b.toNat : Int) == (c.toNat : Int)) = false := by simp [beqI, h]

theorem blankB_eq (c : UInt8) : blankB c = (((c.toNat : Int) == 9) || ((c.toNat : Int) == 10) || ((c.toNat : Int) == 13) || ((c.toNat : Int) == 32)) := by
  have h1 : ((c.toNat : Int) == 9) = decide (c = 9) := beqI c 9
  have h2 : ((c.toNat : Int) == 10) = decide (c = 10) := beqI c 10
  have h3 : ((c.toNat : Int) == 13) = decide (c = 13) := beqI c 13
  have h4 : ((c.toNat : Int) == 32) = decide (c = 32) := beqI c 32
  rw [h1, h2, h3, h4]
  rfl

set_option maxHeartbeats 400000 in
theorem blank_ok (c : UInt8) (w : World) : Calls Try.prog 33 #[bv c] w fun e w' => e = .returned (.bool (blankB c)) ∧ w' = w := by
  rw [blankB_eq]
  unfold bv
  generalize (c.toNat : Int) = n at *
  by_cases h9 : n = 9
  · subst h9
    go_enter Try.func33, Try.ntmps33
    go_wp2_with fail
    go_ret
    exact ⟨rfl, rfl⟩
  · have b9 : (n == 9) = false := by simp [h9]
    rw [b9]
    by_cases h10 : n = 10
    · subst h10
      go_enter Try.func33, Try.ntmps33
      go_wp2_with fail
      go_ret
      exact ⟨rfl, rfl⟩
    · have b10 : (n == 10) = false := by simp [h10]
      rw [b10]
      by_cases h13 : n = 13
      · subst h13
        go_enter Try.func33, Try.ntmps33
        go_wp2_with fail
        go_ret
        exact ⟨rfl, rfl⟩
      · have b13 : (n == 13) = false := by simp [h13]
        rw [b13]
        by_cases h32 : n = 32
        · subst h32
          go_enter Try.func33, Try.ntmps33
          go_wp2_with fail
          go_ret
          exact ⟨rfl, rfl⟩
        · have b32 : (n == 32) = false := by simp [h32]
          rw [b32]
          go_enter Try.func33, Try.ntmps33
          go_wp2_with fail
          go_ret
          exact ⟨rfl, rfl⟩

set_option maxHeartbeats 400000 in
theorem rblank_ok (c : UInt8) (w : World) : Calls Try.prog 35 #[bv c] w fun e w' => e = .returned (.bool (blankB c)) ∧ w' = w := by
  rw [blankB_eq]
  unfold bv
  generalize (c.toNat : Int) = n at *
  by_cases h9 : n = 9
  · subst h9
    go_enter Try.func35, Try.ntmps35
    go_wp2_with fail
    go_ret
    exact ⟨rfl, rfl⟩
  · have b9 : (n == 9) = false := by simp [h9]
    rw [b9]
    by_cases h10 : n = 10
    · subst h10
      go_enter Try.func35, Try.ntmps35
      go_wp2_with fail
      go_ret
      exact ⟨rfl, rfl⟩
    · have b10 : (n == 10) = false := by simp [h10]
      rw [b10]
      by_cases h13 : n = 13
      · subst h13
        go_enter Try.func35, Try.ntmps35
        go_wp2_with fail
        go_ret
        exact ⟨rfl, rfl⟩
      · have b13 : (n == 13) = false := by simp [h13]
        rw [b13]
        by_cases h32 : n = 32
        · subst h32
          go_enter Try.func35, Try.ntmps35
          go_wp2_with fail
          go_ret
          exact ⟨rfl, rfl⟩
        · have b32 : (n == 32) = false := by simp [h32]
          rw [b32]
          go_enter Try.func35, Try.ntmps35
          go_wp2_with fail
          go_ret
          exact ⟨rfl, rfl⟩
end Go.Proofs.Ytgdgnpjgemcjgaa
