import Derived.Test.YtgmmeeikjofefaaGreatDoorPh
namespace Go.Proofs.YtgmmeeikjofefaaGreatDoor
open Go Go.RowKit
section
set_option maxRecDepth 10000 in
set_option maxHeartbeats 2000000 in
theorem dpushFront_ok {A : Nat → Prop} {o : Roles} {w : World} {r : List Nat} {d B : Nat} {l : List (List UInt8)} (h : DeqI o w r d B l) {v : Value} {ws : List (List UInt8)} (hv : Vw A w v 1 ws.length (ws.map txt)) (hA : ∀ b, A b → ¬ r <+: o b) (hB : ws.length + 2 * B ≤ 1099511627776) :
    Calls Tryz.prog 64 #[.pointer (some ⟨d, 0, none⟩), v] w fun e w' => e = .returned (.tuple #[]) ∧ ∃ o', DeqI o' w' r d (ws.length + 2 * B) (ws.reverse ++ l) ∧ Stp r o w o' w' := by
  obtain ⟨sv, junk, hd⟩ := h
  by_cases h0 : ws = []
  · subst h0
    obtain ⟨av, cv, rfl, _⟩ := hv.slice
    have D := Lib.hid (show ∃ o', DeqI o' w r d (([] : List (List UInt8)).length + 2 * B) (([] : List (List UInt8)).reverse ++ l) ∧ Stp r o w o' w from ⟨o, ⟨sv, junk, hd.blk, hd.row, by have := hd.few; simp; omega⟩, Stp.refl _ _ _⟩)
    clear hv hA hd
    go_enter Tryz.func64, Tryz.ntmps64
    go_wp2_with fail
    refine bodyPost_ret (v := .tuple #[]) (by simp [results, Tryz.results64]) rfl ?_
    exact ⟨rfl, D.out⟩
  · by_cases hr : ws.length ≤ junk.length
    · refine (dpushFront_room hd (by omega) hv hA h0 hr).mono ?_
      rintro e w' ⟨rfl, o', ⟨s2, j2, h2⟩, hs⟩
      exact ⟨rfl, o', ⟨s2, j2, h2.blk, h2.row, by have := h2.few; omega⟩, hs⟩
    · exact dpushFront_grow hd hv hA hB (by omega)
end
end Go.Proofs.YtgmmeeikjofefaaGreatDoor
