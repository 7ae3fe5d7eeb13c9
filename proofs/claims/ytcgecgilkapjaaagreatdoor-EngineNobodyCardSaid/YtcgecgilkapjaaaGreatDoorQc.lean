/- The law, as a contract. -/
import Derived.Test.YtcgecgilkapjaaaGreatDoorQa
import Derived.Test.YtcgecgilkapjaaaGreatDoorQb
namespace Go.Proofs.YtcgecgilkapjaaaGreatDoor
open Go Go.RowKit
def rho9 (b off : Nat) : Rho := fun k => if k = 9 then some ⟨b, off, 0, 0⟩ else none
theorem slice9 (b off m c : Nat) : VR (rho9 b off) (.slice (some ⟨9, 0, none⟩) m c) (.slice (some ⟨b, off, none⟩) m c) := by
  have := VR.slice (ρ := rho9 b off) (k := 9) (e := ⟨b, off, 0, 0⟩) 0 m c c rfl (Nat.le_refl _) (.inl rfl)
  simpa using this
theorem rho9_hi (b off : Nat) (k : Nat) (h : 20 ≤ k) : rho9 b off k = none := by unfold rho9; rw [if_neg (by omega)]
theorem rho9_lo (b off : Nat) (k : Nat) (h : k < 9) : rho9 b off k = none := by unfold rho9; rw [if_neg (by omega)]
theorem nobody_con (W : World) (n : Int) (v : Value) (hv : v = .slice none 0 0 ∨ ∃ b off m c, v = .slice (some ⟨b, off, none⟩) m c) :
    Calls Tryz.prog 3 #[.int .i64 n, v] W fun e w' => e = .returned (.bool true) ∧ Below W.heap.size W w' := by
  rcases hv with rfl | ⟨b, off, m, c, rfl⟩
  · exact law_of (S := noRho) (ρ := noRho) (O0_ok _ _ _) (nobody_reckoned n (.slice none 0 0)) (fun _ _ => rfl) (fun _ _ => rfl) (fun _ _ h => h) (.cons (.int _ _) (.cons (.nilSlice 0 0) .nil))
  · exact law_of (S := noRho) (ρ := rho9 b off) (O0_ok _ _ _) (nobody_reckoned n (.slice (some ⟨9, 0, none⟩) m c)) (rho9_hi b off) (rho9_lo b off) (fun _ _ h => by cases h) (.cons (.int _ _) (.cons (slice9 b off m c) .nil))
end Go.Proofs.YtcgecgilkapjaaaGreatDoor
