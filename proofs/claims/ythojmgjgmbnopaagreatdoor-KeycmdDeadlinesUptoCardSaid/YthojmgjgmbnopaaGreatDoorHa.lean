import Derived.Test.YthojmgjgmbnopaaGreatDoorLr
namespace Go.Proofs.YthojmgjgmbnopaaGreatDoor
open Go Go.RowKit
/-! keycmd: the replies, what a job keeps. -/
set_option maxRecDepth 10000 in
theorem kfail_ok (w : World) (s : List UInt8) : Calls Tryz.prog 125 #[txt s] w fun e w' => e = .returned (repV 2 s 0 (.slice none 0 0)) ∧ Below w.heap.size w w' := by
  unfold txt
  go_enter Tryz.func125, Tryz.ntmps125
  go_wp2_with fail
  exact bodyPost_ret (v := (repV 2 s 0 (.slice none 0 0))) (by simp [results, Tryz.results125, go_sem]) rfl ⟨rfl, (Below.refl _ _).alloc (Nat.le_refl _) _⟩
set_option maxRecDepth 10000 in
theorem kbulk_ok (w : World) (s : List UInt8) : Calls Tryz.prog 134 #[txt s] w fun e w' => e = .returned (repV 4 s 0 (.slice none 0 0)) ∧ Below w.heap.size w w' := by
  unfold txt
  go_enter Tryz.func134, Tryz.ntmps134
  go_wp2_with fail
  exact bodyPost_ret (v := (repV 4 s 0 (.slice none 0 0))) (by simp [results, Tryz.results134, go_sem]) rfl ⟨rfl, (Below.refl _ _).alloc (Nat.le_refl _) _⟩
set_option maxRecDepth 10000 in
theorem kint_ok (w : World) (n : Int) : Calls Tryz.prog 127 #[.int .i64 n] w fun e w' => e = .returned (repV 3 [] n (.slice none 0 0)) ∧ Below w.heap.size w w' := by
  go_enter Tryz.func127, Tryz.ntmps127
  go_wp2_with fail
  exact bodyPost_ret (v := (repV 3 [] n (.slice none 0 0))) (by simp [results, Tryz.results127, go_sem]) rfl ⟨rfl, (Below.refl _ _).alloc (Nat.le_refl _) _⟩
set_option maxRecDepth 10000 in
theorem ksimple_ok (w : World) (s : List UInt8) : Calls Tryz.prog 131 #[txt s] w fun e w' => e = .returned (repV 1 s 0 (.slice none 0 0)) ∧ Below w.heap.size w w' := by
  unfold txt
  go_enter Tryz.func131, Tryz.ntmps131
  go_wp2_with fail
  exact bodyPost_ret (v := (repV 1 s 0 (.slice none 0 0))) (by simp [results, Tryz.results131, go_sem]) rfl ⟨rfl, (Below.refl _ _).alloc (Nat.le_refl _) _⟩
/-- What a call of a command keeps: the space, the call's own block, the result's. -/
structure Fj (o : Roles) (w : World) (q : List Nat) (p m : Nat) (ρ : List Nat) (cb : Nat) (cs : Array Value) (S : SP) (c : Cnt) (ox : Roles) (wx : World) : Prop where
  sp : SpJ ox wx q p S c
  call : Blk ox wx ρ cb cs 112
  res : Blk ox wx [m + 2] w.heap.size zRepC 30
  st : Stp q o w ox wx
  far : ∀ j, ¬ [m + j] <+: ρ
section
variable {o ox oy : Roles} {w wx wy : World} {q : List Nat} {p m : Nat} {ρ : List Nat} {cb : Nat} {cs : Array Value} {S S' : SP} {c c' : Cnt} {o1 : Roles}
theorem Fj.begin (h : Begin o w q o1 m) (hj : SpJ o1 w q p S c) (hcb : Blk o w ρ cb cs 112) : Fj o w q p m ρ cb cs S c o1 (w.alloc (.cells zRepC 30)) :=
  ⟨hj.below h.res.2, (h.blk hcb).below h.res.2, h.res.1, (h.st q).trans (Stp.ofBelow q o1 h.res.2), fun j => by rw [← hcb.role, ← h.old cb hcb.lt]; exact h.no2 j cb hcb.lt⟩
theorem Fj.below (h : Fj o w q p m ρ cb cs S c ox wx) (hB : Below wx.heap.size wx wy) : Fj o w q p m ρ cb cs S c ox wy :=
  ⟨h.sp.below hB, h.call.below hB, h.res.below hB, h.st.trans (Stp.ofBelow q ox hB), h.far⟩
theorem Fj.step {j : Nat} (hb : Begin o w q o1 m) (hj : j < 2) (h : Fj o w q p m ρ cb cs S c ox wx) (st : Stp [m + j] ox wx oy wy) : Fj o w q p m ρ cb cs S c oy wy :=
  ⟨h.sp.keep st (hb.ap j), h.call.keep st (h.far j), h.res.keep st (by simp; omega), h.st.hide st (fun b hb2 => by rw [← hb.old b hb2]; exact hb.no2 j b hb2), h.far⟩
theorem Fj.put (hb : Begin o w q o1 m) (hρ : ¬ q <+: ρ) (h : Fj o w q p m ρ cb cs S c ox wx) (hj : SpJ oy wy q p S' c') (hs : Stp q ox wx oy wy) : Fj o w q p m ρ cb cs S' c' oy wy :=
  ⟨hj, h.call.keep hs hρ, h.res.keep hs (hb.aq 2).not, h.st.trans hs, h.far⟩
/-- The end: a reply is laid into the result's block. -/
theorem Fj.fin (hb : Begin o w q o1 m) (h : Fj o w q p m ρ cb cs S c ox wx) (v0 v1 v2 v3 : Value) :
    SpJ ox ((((wx.setCell ⟨w.heap.size, 0, none⟩ v0).setCell ⟨w.heap.size, 1, none⟩ v1).setCell ⟨w.heap.size, 2, none⟩ v2).setCell ⟨w.heap.size, 3, none⟩ v3) q p S c ∧ Stp q o w ox ((((wx.setCell ⟨w.heap.size, 0, none⟩ v0).setCell ⟨w.heap.size, 1, none⟩ v1).setCell ⟨w.heap.size, 2, none⟩ v2).setCell ⟨w.heap.size, 3, none⟩ v3) :=
  hb.stored h.sp h.res h.st v0 v1 v2 v3
end

set_option maxRecDepth 10000 in
theorem kisInt_ok (w : World) (k : Nat) (t : List UInt8) (n m : Int) (a : Option Addr) (ln cap : Nat) : Calls Tryz.prog 36 #[.agg #[.int .i64 (k : Int), .string ⟨t.toArray⟩, .int .i64 n, .slice a ln cap], .int .i64 m] w fun e w' => e = .returned (.bool ((k : Int) == 3 && n == m)) ∧ Below w.heap.size w w' := by
  rcases h1 : ((k : Int) == 3) with _ | _
  · go_enter Tryz.func36, Tryz.ntmps36
    go_wp2_with fail
    go_ret
    exact ⟨rfl, (Below.refl _ _).alloc (Nat.le_refl _) _⟩
  · go_enter Tryz.func36, Tryz.ntmps36
    go_wp2_with fail
    go_ret
    exact ⟨rfl, (Below.refl _ _).alloc (Nat.le_refl _) _⟩
set_option maxRecDepth 10000 in
theorem kisErr_ok (w : World) (t : List UInt8) (n : Int) (a : Option Addr) (ln cap : Nat) : Calls Tryz.prog 38 #[.agg #[.int .i64 2, .string ⟨t.toArray⟩, .int .i64 n, .slice a ln cap], txt t] w fun e w' => e = .returned (.bool true) ∧ Below w.heap.size w w' := by
  unfold txt
  go_enter Tryz.func38, Tryz.ntmps38
  go_wp2_with fail
  go_ret
  exact ⟨rfl, (Below.refl _ _).alloc (Nat.le_refl _) _⟩
set_option maxRecDepth 10000 in
theorem klawtext_ok (w : World) (s : List UInt8) : Calls Tryz.prog 40 #[txt s] w fun e w' => e = .returned (tvV s) ∧ Below w.heap.size w w' := by
  unfold txt
  go_enter Tryz.func40, Tryz.ntmps40
  go_wp2_with fail
  refine bodyPost_ret (v := tvV s) (by simp [results, Tryz.results40, go_sem]) rfl ⟨rfl, ?_⟩
  repeat (first | refine Below.setCell ?_ (by first | (simp; done) | (simp; omega)) _ | refine Below.alloc ?_ (by first | exact Nat.le_refl _ | (simp; done) | (simp; omega)) _)
  exact Below.refl _ _
end Go.Proofs.YthojmgjgmbnopaaGreatDoor
