import Derived.Test.YtgmmeeikjofefaaGreatDoorPi
namespace Go.Proofs.YtgmmeeikjofefaaGreatDoor
open Go Go.RowKit
abbrev repV (k : Nat) (t : List UInt8) (n : Int) (l : Value) : Value := .agg #[.int .i64 (k : Int), .string ⟨t.toArray⟩, .int .i64 n, l]
theorem infoRp : (Tryz.prog.info? 29).map (fun i => (i.zero, i.size, i.bytes)) = some (some (repV 0 [] 0 (.slice none 0 0)), 4, 56) := by kernel_rfl
set_option maxRecDepth 10000 in
theorem lfault_ok (w : World) (s : List UInt8) : Calls Tryz.prog 62 #[txt s] w fun e w' => e = .returned (repV 2 s 0 (.slice none 0 0)) ∧ Below w.heap.size w w' := by
  unfold txt
  go_enter Tryz.func62, Tryz.ntmps62
  go_wp2_with fail
  exact bodyPost_ret (v := (repV 2 s 0 (.slice none 0 0))) (by simp [results, Tryz.results62, go_sem]) rfl ⟨rfl, (Below.refl _ _).alloc (Nat.le_refl _) _⟩
set_option maxRecDepth 10000 in
theorem lbulk_ok (w : World) (s : List UInt8) : Calls Tryz.prog 73 #[txt s] w fun e w' => e = .returned (repV 4 s 0 (.slice none 0 0)) ∧ Below w.heap.size w w' := by
  unfold txt
  go_enter Tryz.func73, Tryz.ntmps73
  go_wp2_with fail
  exact bodyPost_ret (v := (repV 4 s 0 (.slice none 0 0))) (by simp [results, Tryz.results73, go_sem]) rfl ⟨rfl, (Below.refl _ _).alloc (Nat.le_refl _) _⟩
set_option maxRecDepth 10000 in
theorem lnumber_ok (w : World) (n : Int) : Calls Tryz.prog 63 #[.int .i64 n] w fun e w' => e = .returned (repV 3 [] n (.slice none 0 0)) ∧ Below w.heap.size w w' := by
  go_enter Tryz.func63, Tryz.ntmps63
  go_wp2_with fail
  exact bodyPost_ret (v := (repV 3 [] n (.slice none 0 0))) (by simp [results, Tryz.results63, go_sem]) rfl ⟨rfl, (Below.refl _ _).alloc (Nat.le_refl _) _⟩
set_option maxRecDepth 10000 in
theorem lnull_ok (w : World) : Calls Tryz.prog 69 #[] w fun e w' => e = .returned (repV 5 [] 0 (.slice none 0 0)) ∧ Below w.heap.size w w' := by
  go_enter Tryz.func69, Tryz.ntmps69
  go_wp2_with fail
  exact bodyPost_ret (v := (repV 5 [] 0 (.slice none 0 0))) (by simp [results, Tryz.results69, go_sem]) rfl ⟨rfl, (Below.refl _ _).alloc (Nat.le_refl _) _⟩
end Go.Proofs.YtgmmeeikjofefaaGreatDoor
