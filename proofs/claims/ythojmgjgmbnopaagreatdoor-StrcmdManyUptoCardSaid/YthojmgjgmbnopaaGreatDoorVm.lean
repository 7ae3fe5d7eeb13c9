import Derived.Test.YthojmgjgmbnopaaGreatDoorVl
import Derived.Test.YthojmgjgmbnopaaGreatDoorVn
namespace Go.Proofs.YthojmgjgmbnopaaGreatDoor
open Go Go.RowKit
/-! value.Check of any value. -/
def emptyV (V : VV) : Bool := if V.kind = 1 then false else if V.kind = 3 then V.fields.isEmpty else if V.kind = 5 then V.ranked.isEmpty else V.list.isEmpty
def rightV (V : VV) : Bool := if V.kind = 1 then shortB V.text else if V.kind = 3 then hashB V.fields else if V.kind = 5 then rankB V.ranked else if V.kind = 4 then V.list.all shortB && riseB V.list else V.list.all shortB
def spareV (V : VV) : Bool := (decide (V.kind ≠ 1) && !V.text.isEmpty) || (decide (V.kind ≠ 2) && decide (V.kind ≠ 4) && !V.list.isEmpty) || (decide (V.kind ≠ 3) && !V.fields.isEmpty) || (decide (V.kind ≠ 5) && !V.ranked.isEmpty)
/-- The error of a value. -/
def chkV (V : VV) : Int := if V.kind < 1 ∨ 5 < V.kind then 130 else if spareV V = true then 131 else if emptyV V = true ∨ rightV V = false then 131 else 0
abbrev VCh (w : World) (n : Int) (e : Ending) (w' : World) : Prop := e = .returned (.int .i64 n) ∧ Below w.heap.size w w'
set_option maxRecDepth 10000 in
theorem vofA_hash (w : World) (l f r : Value) (V : VV) (hk : V.kind = 3) (hl : ∃ a n c, l = .slice a n c) (hf : ∃ a n c, f = .slice a n c) (hr : ∃ a n c, r = .slice a n c) : Calls Tryz.prog 141 #[valV V l f r] w fun e w' => e = .returned (.tuple #[.iface 228 f, .bool true]) ∧ Below w.heap.size w w' := by
  obtain ⟨kind, text, list, fields, ranked⟩ := V
  dsimp only at hk
  subst hk
  obtain ⟨a1, n1, c1, rfl⟩ := hl
  obtain ⟨a2, n2, c2, rfl⟩ := hf
  obtain ⟨a3, n3, c3, rfl⟩ := hr
  go_enter Tryz.func141, Tryz.ntmps141
  go_wp2
  go_ret2
  exact ⟨rfl, (Below.refl _ _).alloc (Nat.le_refl _) _⟩
set_option maxRecDepth 10000 in
theorem vofA_rank (w : World) (l f r : Value) (V : VV) (hk : V.kind = 5) (hl : ∃ a n c, l = .slice a n c) (hf : ∃ a n c, f = .slice a n c) (hr : ∃ a n c, r = .slice a n c) : Calls Tryz.prog 141 #[valV V l f r] w fun e w' => e = .returned (.tuple #[.iface 230 r, .bool true]) ∧ Below w.heap.size w w' := by
  obtain ⟨kind, text, list, fields, ranked⟩ := V
  dsimp only at hk
  subst hk
  obtain ⟨a1, n1, c1, rfl⟩ := hl
  obtain ⟨a2, n2, c2, rfl⟩ := hf
  obtain ⟨a3, n3, c3, rfl⟩ := hr
  go_enter Tryz.func141, Tryz.ntmps141
  go_wp2
  go_ret2
  exact ⟨rfl, (Below.refl _ _).alloc (Nat.le_refl _) _⟩
set_option maxRecDepth 10000 in
theorem vofA_set (w : World) (l f r : Value) (V : VV) (hk : V.kind = 4) (hl : ∃ a n c, l = .slice a n c) (hf : ∃ a n c, f = .slice a n c) (hr : ∃ a n c, r = .slice a n c) : Calls Tryz.prog 141 #[valV V l f r] w fun e w' => e = .returned (.tuple #[.iface 229 l, .bool true]) ∧ Below w.heap.size w w' := by
  obtain ⟨kind, text, list, fields, ranked⟩ := V
  dsimp only at hk
  subst hk
  obtain ⟨a1, n1, c1, rfl⟩ := hl
  obtain ⟨a2, n2, c2, rfl⟩ := hf
  obtain ⟨a3, n3, c3, rfl⟩ := hr
  go_enter Tryz.func141, Tryz.ntmps141
  go_wp2
  go_ret2
  exact ⟨rfl, (Below.refl _ _).alloc (Nat.le_refl _) _⟩
set_option maxRecDepth 10000 in
theorem vofA_text (w : World) (l f r : Value) (V : VV) (hk : V.kind = 1) (hl : ∃ a n c, l = .slice a n c) (hf : ∃ a n c, f = .slice a n c) (hr : ∃ a n c, r = .slice a n c) : Calls Tryz.prog 141 #[valV V l f r] w fun e w' => e = .returned (.tuple #[.iface 226 (txt V.text), .bool true]) ∧ Below w.heap.size w w' := by
  obtain ⟨kind, text, list, fields, ranked⟩ := V
  dsimp only at hk
  subst hk
  obtain ⟨a1, n1, c1, rfl⟩ := hl
  obtain ⟨a2, n2, c2, rfl⟩ := hf
  obtain ⟨a3, n3, c3, rfl⟩ := hr
  unfold txt
  go_enter Tryz.func141, Tryz.ntmps141
  go_wp2
  go_ret2
  exact ⟨rfl, (Below.refl _ _).alloc (Nat.le_refl _) _⟩
set_option maxRecDepth 10000 in
theorem vofA_none (w : World) (l f r : Value) (V : VV) (hk : V.kind < 1 ∨ 5 < V.kind) (hl : ∃ a n c, l = .slice a n c) (hf : ∃ a n c, f = .slice a n c) (hr : ∃ a n c, r = .slice a n c) : Calls Tryz.prog 141 #[valV V l f r] w fun e w' => e = .returned (.tuple #[.nilIface, .bool false]) ∧ Below w.heap.size w w' := by
  obtain ⟨kind, text, list, fields, ranked⟩ := V
  dsimp only at hk
  obtain ⟨a1, n1, c1, rfl⟩ := hl
  obtain ⟨a2, n2, c2, rfl⟩ := hf
  obtain ⟨a3, n3, c3, rfl⟩ := hr
  have h1 : (kind == 1) = false := beq_eq_false_iff_ne.2 (by omega)
  have h2 : (kind == 2) = false := beq_eq_false_iff_ne.2 (by omega)
  have h3 : (kind == 3) = false := beq_eq_false_iff_ne.2 (by omega)
  have h4 : (kind == 4) = false := beq_eq_false_iff_ne.2 (by omega)
  have h5 : (kind == 5) = false := beq_eq_false_iff_ne.2 (by omega)
  clear hk
  go_enter Tryz.func141, Tryz.ntmps141
  go_wp2
  go_ret2
  exact ⟨rfl, (Below.refl _ _).alloc (Nat.le_refl _) _⟩
set_option maxRecDepth 10000 in
theorem vtempty_ok (w : World) (s : Tx) : Calls Tryz.prog 332 #[txt s] w fun e w' => e = .returned (.bool false) ∧ w' = w := by
  unfold txt
  go_enter Tryz.func332, Tryz.ntmps332
  go_wp2
  go_ret
  exact ⟨rfl, rfl⟩
set_option maxRecDepth 10000 in
theorem vtright_any (w : World) (s : Tx) : Calls Tryz.prog 333 #[txt s] w fun e w' => e = .returned (.bool (shortB s)) ∧ w' = w := by
  have H := Lib.hid (vshort_ok s w)
  unfold shortB
  unfold txt at *
  go_enter Tryz.func333, Tryz.ntmps333
  go_wp2_with fail
  refine H.out.mono ?_; rintro e w' ⟨rfl, rfl⟩
  go_wp2_with fail
  go_ret
  exact ⟨rfl, rfl⟩
set_option maxRecDepth 10000 in
theorem vlempty_ok (w : World) (a : Option Addr) (n c : Nat) : Calls Tryz.prog 339 #[.slice a n c] w fun e w' => e = .returned (.bool ((n : Int) == 0)) ∧ w' = w := by
  go_enter Tryz.func339, Tryz.ntmps339
  go_wp2
  go_ret
  exact ⟨rfl, rfl⟩
set_option maxRecDepth 10000 in
theorem vhempty_ok (w : World) (a : Option Addr) (n c : Nat) : Calls Tryz.prog 345 #[.slice a n c] w fun e w' => e = .returned (.bool ((n : Int) == 0)) ∧ w' = w := by
  go_enter Tryz.func345, Tryz.ntmps345
  go_wp2
  go_ret
  exact ⟨rfl, rfl⟩
set_option maxRecDepth 10000 in
theorem vsempty_ok (w : World) (a : Option Addr) (n c : Nat) : Calls Tryz.prog 348 #[.slice a n c] w fun e w' => e = .returned (.bool ((n : Int) == 0)) ∧ w' = w := by
  go_enter Tryz.func348, Tryz.ntmps348
  go_wp2
  go_ret
  exact ⟨rfl, rfl⟩
set_option maxRecDepth 10000 in
theorem vrempty_ok (w : World) (a : Option Addr) (n c : Nat) : Calls Tryz.prog 352 #[.slice a n c] w fun e w' => e = .returned (.bool ((n : Int) == 0)) ∧ w' = w := by
  go_enter Tryz.func352, Tryz.ntmps352
  go_wp2
  go_ret
  exact ⟨rfl, rfl⟩
end Go.Proofs.YthojmgjgmbnopaaGreatDoor
