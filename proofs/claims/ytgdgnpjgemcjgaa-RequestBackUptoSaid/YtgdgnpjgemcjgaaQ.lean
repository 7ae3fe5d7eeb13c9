import Derived.Test.YtgdgnpjgemcjgaaP
import Derived.StillTailTactics
namespace Go.Proofs.Ytgdgnpjgemcjgaa
open Go Go.RowKit
section
variable {o : Roles} {w : World} {q : List Nat} {p : Nat} {R : RI}
theorem Rd.keep {o' : Roles} {w' : World} {r : List Nat} (h : Rd o w q p R) (st : Stp r o w o' w') (hn : ¬ r <+: q) : Rd o' w' q p R := ⟨h.blk.keep st hn, h.lim, h.few⟩
theorem Rd.drewN (h : Rd o w q p R) (n : Nat) : Rd o (w.drewN n) q p R := ⟨h.blk.drewN n, h.lim, h.few⟩
theorem fault_nil (w : World) : Calls Try.prog 27 #[.pointer none] w fun e w' => e = .returned (.string ⟨#[]⟩) ∧ w' = w := by
  go_enter Try.func27, Try.ntmps27
  go_wp2
  go_ret
  exact ⟨rfl, rfl⟩
theorem fault_ok (h : Rd o w q p R) : Calls Try.prog 27 #[.pointer (some ⟨p, 0, none⟩)] w fun e w' => e = .returned (.string ⟨R.fault.toArray⟩) ∧ w' = w := by
  have hc := h.blk.cell
  unfold rdC at hc
  go_enter Try.func27, Try.ntmps27
  go_wp2
  go_ret
  exact ⟨rfl, rfl⟩
theorem held_nil (w : World) : Calls Try.prog 28 #[.pointer none] w fun e w' => e = .returned (.int .i64 0) ∧ w' = w := by
  go_enter Try.func28, Try.ntmps28
  go_wp2
  go_ret
  exact ⟨rfl, rfl⟩
theorem held_ok (h : Rd o w q p R) : Calls Try.prog 28 #[.pointer (some ⟨p, 0, none⟩)] w fun e w' => e = .returned (.int .i64 R.held.length) ∧ w' = w := by
  have hc := h.blk.cell
  have hsz : (⟨R.held.toArray⟩ : ByteArray).size = R.held.length := by simp [ByteArray.size]
  unfold rdC at hc
  go_enter Try.func28, Try.ntmps28
  go_wp2
  go_ret
  exact ⟨rfl, rfl⟩
theorem used_nil (w : World) : Calls Try.prog 30 #[.pointer none] w fun e w' => e = .returned (.int .i64 0) ∧ w' = w := by
  go_enter Try.func30, Try.ntmps30
  go_wp2
  go_ret
  exact ⟨rfl, rfl⟩
theorem used_ok (h : Rd o w q p R) : Calls Try.prog 30 #[.pointer (some ⟨p, 0, none⟩)] w fun e w' => e = .returned (.int .i64 R.used) ∧ w' = w := by
  have hc := h.blk.cell
  unfold rdC at hc
  go_enter Try.func30, Try.ntmps30
  go_wp2
  go_ret
  exact ⟨rfl, rfl⟩
theorem feed_nil (s : List UInt8) (w : World) : Calls Try.prog 23 #[.pointer none, .string ⟨s.toArray⟩] w fun e w' => e = .returned (.tuple #[]) ∧ w' = w := by
  go_enter Try.func23, Try.ntmps23
  go_wp2
  go_end0
  exact ⟨rfl, rfl⟩
theorem feed_ok (h : Rd o w q p R) (s : List UInt8) (hs : R.held.length + s.length + R.used ≤ 1099511627776) : Calls Try.prog 23 #[.pointer (some ⟨p, 0, none⟩), .string ⟨s.toArray⟩] w fun e w' => e = .returned (.tuple #[]) ∧ Rd o w' q p (R.feed s) ∧ Stp q o w o w' := by
  have hc := h.blk.cell
  have hf := h.blk.free
  unfold rdC at hc
  by_cases hfl : R.fault = []
  · have hN : Rd o (w.setCell ⟨p, 3, none⟩ (.string ⟨(R.held ++ s).toArray⟩)) q p (R.feed s) := by
      refine ⟨?_, by unfold RI.feed; rw [if_pos hfl]; exact h.lim, by unfold RI.feed; rw [if_pos hfl]; simp; omega⟩
      have := h.blk.setCell 3 (.string ⟨(R.held ++ s).toArray⟩)
      unfold RI.feed
      rw [if_pos hfl]
      exact this
    have hS : Stp q o w o (w.setCell ⟨p, 3, none⟩ (.string ⟨(R.held ++ s).toArray⟩)) := (Stp.refl q o w).setCell (by rw [show o p = q from h.blk.role]; exact List.prefix_refl _) _
    have HN := Lib.hid hN
    have HS := Lib.hid hS
    rw [hfl] at hc
    clear hN hS h hfl
    go_enter Try.func23, Try.ntmps23
    go_wp2
    go_end0
    exact ⟨rfl, HN.out, HS.out⟩
  · have hne : R.fault.isEmpty = false := by simpa using hfl
    have hN : Rd o w q p (R.feed s) := by unfold RI.feed; rw [if_neg hfl]; exact h
    have HN := Lib.hid hN
    clear hN h
    generalize R.fault = f at *
    go_enter Try.func23, Try.ntmps23
    go_wp2
    go_end0
    exact ⟨rfl, HN.out, Stp.refl _ _ _⟩
end
end Go.Proofs.Ytgdgnpjgemcjgaa
