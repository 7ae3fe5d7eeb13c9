import Derived.Test.YthojmgjgmbnopaaGreatDoorXF
namespace Go.Proofs.YthojmgjgmbnopaaGreatDoor
open Go Go.RowKit
abbrev repV (k : Nat) (t : List UInt8) (n : Int) (l : Value) : Value := .agg #[.int .i64 (k : Int), .string ⟨t.toArray⟩, .int .i64 n, l]
theorem infoRp : (Tryz.prog.info? 30).map (fun i => (i.zero, i.size, i.bytes)) = some (some (repV 0 [] 0 (.slice none 0 0)), 4, 56) := by kernel_rfl
set_option maxRecDepth 10000 in
theorem lfault_ok (w : World) (s : List UInt8) : Calls Tryz.prog 176 #[txt s] w fun e w' => e = .returned (repV 2 s 0 (.slice none 0 0)) ∧ Below w.heap.size w w' := by
  unfold txt
  go_enter Tryz.func176, Tryz.ntmps176
  go_wp2_with fail
  exact bodyPost_ret (v := (repV 2 s 0 (.slice none 0 0))) (by simp [results, Tryz.results176, go_sem]) rfl ⟨rfl, (Below.refl _ _).alloc (Nat.le_refl _) _⟩
set_option maxRecDepth 10000 in
theorem lbulk_ok (w : World) (s : List UInt8) : Calls Tryz.prog 192 #[txt s] w fun e w' => e = .returned (repV 4 s 0 (.slice none 0 0)) ∧ Below w.heap.size w w' := by
  unfold txt
  go_enter Tryz.func192, Tryz.ntmps192
  go_wp2_with fail
  exact bodyPost_ret (v := (repV 4 s 0 (.slice none 0 0))) (by simp [results, Tryz.results192, go_sem]) rfl ⟨rfl, (Below.refl _ _).alloc (Nat.le_refl _) _⟩
set_option maxRecDepth 10000 in
theorem lnumber_ok (w : World) (n : Int) : Calls Tryz.prog 178 #[.int .i64 n] w fun e w' => e = .returned (repV 3 [] n (.slice none 0 0)) ∧ Below w.heap.size w w' := by
  go_enter Tryz.func178, Tryz.ntmps178
  go_wp2_with fail
  exact bodyPost_ret (v := (repV 3 [] n (.slice none 0 0))) (by simp [results, Tryz.results178, go_sem]) rfl ⟨rfl, (Below.refl _ _).alloc (Nat.le_refl _) _⟩
set_option maxRecDepth 10000 in
theorem lnull_ok (w : World) : Calls Tryz.prog 196 #[] w fun e w' => e = .returned (repV 5 [] 0 (.slice none 0 0)) ∧ Below w.heap.size w w' := by
  go_enter Tryz.func196, Tryz.ntmps196
  go_wp2_with fail
  exact bodyPost_ret (v := (repV 5 [] 0 (.slice none 0 0))) (by simp [results, Tryz.results196, go_sem]) rfl ⟨rfl, (Below.refl _ _).alloc (Nat.le_refl _) _⟩
set_option maxRecDepth 10000 in
theorem lfine_ok (w : World) : Calls Tryz.prog 194 #[] w fun e w' => e = .returned (repV 1 [79, 75] 0 (.slice none 0 0)) ∧ Below w.heap.size w w' := by
  go_enter Tryz.func194, Tryz.ntmps194
  go_wp2_with fail
  exact bodyPost_ret (v := (repV 1 [79, 75] 0 (.slice none 0 0))) (by simp [results, Tryz.results194, go_sem]) rfl ⟨rfl, (Below.refl _ _).alloc (Nat.le_refl _) _⟩
set_option maxRecDepth 10000 in
theorem lold_ok (w : World) (s : List UInt8) (ok : Bool) : Calls Tryz.prog 187 #[txt s, .bool ok] w fun e w' => e = .returned (if ok then repV 4 s 0 (.slice none 0 0) else repV 5 [] 0 (.slice none 0 0)) ∧ Below w.heap.size w w' := by
  unfold txt
  cases ok with
  | false =>
    go_enter Tryz.func187, Tryz.ntmps187
    go_wp2_with fail
    refine (lnull_ok _).mono ?_; rintro e w1 ⟨rfl, hB⟩
    have hr := (show Blk none0 (w.alloc (.cells #[.int .i64 0, .string ⟨#[]⟩, .int .i64 0, .slice none 0 0] 30)) [] w.heap.size #[.int .i64 0, .string ⟨#[]⟩, .int .i64 0, .slice none 0 0] 30 from ⟨heap_alloc_new w _, rfl⟩).below hB
    have hrc := hr.cell
    have hrf := hr.free
    have HB1 := Lib.hid (((Below.refl w.heap.size w).alloc (Nat.le_refl _) _).trans (hB.mono (by simp)))
    clear hB hr
    go_wp2_with fail
    refine bodyPost_ret (v := repV 5 [] 0 (.slice none 0 0)) (by simp [results, Tryz.results187, go_sem, hrc]) rfl ⟨rfl, ?_⟩
    iterate 4 refine Below.setCell ?_ (by exact Nat.le_refl _) _
    exact HB1.out
  | true =>
    have HBU := Lib.hid (fun W => lbulk_ok W s)
    unfold txt at HBU
    go_enter Tryz.func187, Tryz.ntmps187
    go_wp2_with fail
    refine (HBU.out _).mono ?_; rintro e w1 ⟨rfl, hB⟩
    have hr := (show Blk none0 (w.alloc (.cells #[.int .i64 0, .string ⟨#[]⟩, .int .i64 0, .slice none 0 0] 30)) [] w.heap.size #[.int .i64 0, .string ⟨#[]⟩, .int .i64 0, .slice none 0 0] 30 from ⟨heap_alloc_new w _, rfl⟩).below hB
    have hrc := hr.cell
    have hrf := hr.free
    have HB1 := Lib.hid (((Below.refl w.heap.size w).alloc (Nat.le_refl _) _).trans (hB.mono (by simp)))
    clear hB hr
    go_wp2_with fail
    refine bodyPost_ret (v := repV 4 s 0 (.slice none 0 0)) (by simp [results, Tryz.results187, go_sem, hrc]) rfl ⟨rfl, ?_⟩
    iterate 4 refine Below.setCell ?_ (by exact Nat.le_refl _) _
    exact HB1.out
end Go.Proofs.YthojmgjgmbnopaaGreatDoor
