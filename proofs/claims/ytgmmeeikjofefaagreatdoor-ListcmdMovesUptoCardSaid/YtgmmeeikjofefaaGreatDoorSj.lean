import Derived.Test.YtgmmeeikjofefaaGreatDoorDr
namespace Go.Proofs.YtgmmeeikjofefaaGreatDoor
open Go Go.RowKit
/-! The space as the layers above meet it: what a key holds at a tick. -/
structure Cnt where
  num : Nat
  few : Nat
def Cnt.next (c : Cnt) : Cnt := ⟨c.num + 1, c.few + 1⟩
def Hd.over (h : Hd) (now : Int) : Bool := h.due != 0 && decide (h.due ≤ now)
def SP.at (S : SP) (now : Int) (k : List UInt8) : Option Hd := (S k).filter fun h => !h.over now
theorem SP.at_some {S : SP} {now : Int} {k : List UInt8} {h : Hd} (e : S.at now k = some h) : S k = some h ∧ h.over now = false := by
  unfold SP.at at e
  rw [Option.filter_eq_some_iff] at e
  exact ⟨e.1, by simpa using e.2⟩
def SpJ (o : Roles) (w : World) (q : List Nat) (p : Nat) (S : SP) (c : Cnt) : Prop := SpI o w q p S c.num
section
variable {o o' : Roles} {w w' : World} {q s : List Nat} {p : Nat} {c : Cnt} {S : SP}
theorem SpJ.keep (h : SpJ o w q p S c) (st : Stp s o w o' w') (hn : Apart s q) : SpJ o' w' q p S c := SpI.keep h st hn
theorem SpJ.below (h : SpJ o w q p S c) (hB : Below w.heap.size w w') : SpJ o w' q p S c := SpI.below h hB
theorem SpJ.drewN (h : SpJ o w q p S c) (k : Nat) : SpJ o (w.drewN k) q p S c := SpI.drewN h k
theorem SpJ.role (h : SpJ o w q p S c) : o p = q ∧ p < w.heap.size := by
  obtain ⟨m, d, m2, a, kvs, h⟩ := h
  exact ⟨h.blk.role, h.blk.lt⟩
theorem SpJ.due0 (h : SpJ o w q p S c) {k : List UInt8} {H : Hd} (e : S k = some H) : H.due = 0 := by
  obtain ⟨m, d, m2, a, kvs, h⟩ := h
  exact h.due0 k H e
theorem SpJ.at_eq (h : SpJ o w q p S c) (now : Int) (k : List UInt8) : S.at now k = S k := by
  unfold SP.at
  cases e : S k with
  | none => rfl
  | some H => simp [Hd.over, h.due0 e]
theorem SpJ.small (h : SpJ o w q p S c) {now : Int} {k : List UInt8} {H : Hd} (e : S.at now k = some H) : VSmall H.v := by
  rw [h.at_eq] at e
  obtain ⟨m, d, m2, a, kvs, h⟩ := h
  have hv := h.vals k
  rw [e] at hv
  cases hm : mfind kvs k with
  | none => rw [hm] at hv; exact hv.elim
  | some u => rw [hm] at hv; obtain ⟨_, _, _, _, _, hs⟩ := hv; exact hs
theorem small0 : VSmall hd0.v := ⟨by simp, by simp, by simp, by simp⟩
theorem SpJ.small' (h : SpJ o w q p S c) (now : Int) (k : List UInt8) : VSmall ((S.at now k).getD hd0).v := by
  cases e : S.at now k with
  | none => exact small0
  | some H => exact h.small e
theorem jnew_ok (o : Roles) (w : World) (q : List Nat) : Calls Tryz.prog 10 #[] w fun e w' => ∃ p o', e = .returned (.pointer (some ⟨p, 0, none⟩)) ∧ SpJ o' w' q p (fun _ => none) ⟨0, 0⟩ ∧ Stp q o w o' w' := new_ok o w q
theorem jget_ok (h : SpJ o w q p S c) (k : List UInt8) (now : Int) : Calls Tryz.prog 119 #[.pointer (some ⟨p, 0, none⟩), txt k, .int .i64 now] w (GetDid w ((S.at now k).getD hd0).v (S.at now k).isSome) := by
  rw [h.at_eq]; exact get_ok h k now
def DueDid (w : World) (H : Option Hd) (e : Ending) (w' : World) : Prop := e = .returned (.tuple #[.int .i64 (H.getD hd0).due, .bool H.isSome]) ∧ Below w.heap.size w w'
theorem jdue_ok (h : SpJ o w q p S c) (k : List UInt8) (now : Int) : Calls Tryz.prog 31 #[.pointer (some ⟨p, 0, none⟩), txt k, .int .i64 now] w (DueDid w (S.at now k)) := by
  rw [h.at_eq]; exact due_ok h k now
def PutJ (o : Roles) (w : World) (q : List Nat) (p : Nat) (S : SP) (c : Cnt) (e : Ending) (w' : World) : Prop :=
  e = .returned (.int .i64 0) ∧ ∃ o', SpJ o' w' q p S c ∧ Stp q o w o' w'
theorem jput_ok {A : Nat → Prop} {V : VV} {l f r : Value} (h : SpJ o w q p S c) (k : List UInt8) (hv : Val3 A w V l f r) (hs : VSmall V) (hA : ∀ b, A b → b ≠ p) (due : Int) (hd : due = 0)
    (hck : ∀ W, Below w.heap.size w W → Calls Tryz.prog 87 #[valV V l f r] W fun e w' => e = .returned (.int .i64 0) ∧ Below W.heap.size W w') (hc : c.num ≤ 1099511627776) :
    Calls Tryz.prog 44 #[.pointer (some ⟨p, 0, none⟩), txt k, valV V l f r, .int .i64 due] w (PutJ o w q p (S.put k ⟨V, due, c.num + 1⟩) c.next) := by
  subst hd
  exact put_ok h k hv hs hA hck (by omega)
theorem jdrop_ok (h : SpJ o w q p S c) (k : List UInt8) {H : Hd} (hS : S k = some H) (hc : c.num ≤ 1099511627776) :
    Calls Tryz.prog 122 #[.pointer (some ⟨p, 0, none⟩), txt k] w fun e w' => e = .returned (.bool true) ∧ ∃ o', SpJ o' w' q p (S.del k) c.next ∧ Stp q o w o' w' := drop_some h k hS (by omega)
end
/-- A role that no block bears. -/
theorem fresh_role (o : Roles) : ∀ n : Nat, ∃ m, ∀ b, b < n → ¬ [m] <+: o b := by
  have h : ∀ n : Nat, ∃ m, ∀ b, b < n → ∀ k t, o b = k :: t → k < m := by
    intro n
    induction n with
    | zero => exact ⟨0, fun b hb => absurd hb (Nat.not_lt_zero _)⟩
    | succ n ih =>
      obtain ⟨m, hm⟩ := ih
      refine ⟨m + (o n).headD 0 + 1, fun b hb k t e => ?_⟩
      rcases Nat.lt_succ_iff_lt_or_eq.1 hb with h | rfl
      · have := hm b h k t e; omega
      · rw [e]; simp; omega
  intro n
  obtain ⟨m, hm⟩ := h n
  refine ⟨m, fun b hb hp => ?_⟩
  cases e : o b with
  | nil => rw [e] at hp; simp at hp
  | cons k t =>
    rw [e, List.cons_prefix_cons] at hp
    have := hm b hb k t e
    omega
/-- A step at blocks of a role that no old block bears. -/
theorem Stp.hide {q r : List Nat} {o o1 o2 : Roles} {w w1 w2 : World} (h1 : Stp q o w o1 w1) (h2 : Stp r o1 w1 o2 w2) (hr : ∀ b, b < w.heap.size → ¬ r <+: o b) : Stp q o w o2 w2 :=
  ⟨h2.os.trans h1.os, h2.tape.trans h1.tape, h2.output.trans h1.output, Nat.le_trans h1.size h2.size,
   fun b hb => (h2.old b (Nat.lt_of_lt_of_le hb h1.size)).trans (h1.old b hb),
   fun b hb hq => (h2.block b (Nat.lt_of_lt_of_le hb h1.size) (by rw [h1.old b hb]; exact hr b hb)).trans (h1.block b hb hq)⟩
theorem apart_fresh {m : Nat} {o : Roles} {n p : Nat} {q : List Nat} (hm : ∀ b, b < n → ¬ [m] <+: o b) (hp : p < n) (hq : o p = q) (h0 : q ≠ []) : Apart [m] q := by
  intro t ht
  cases q with
  | nil => exact h0 rfl
  | cons a s =>
    rw [List.cons_append, List.cons_prefix_cons] at ht
    exact hm p hp (by rw [hq, List.cons_prefix_cons]; exact ⟨ht.1, List.nil_prefix⟩)
theorem apart_fresh' {m : Nat} {o : Roles} {n p : Nat} {q : List Nat} (hm : ∀ b, b < n → ¬ [m] <+: o b) (hp : p < n) (hq : o p = q) (h0 : q ≠ []) : Apart q [m] := by
  intro t ht
  cases q with
  | nil => exact h0 rfl
  | cons a s =>
    rw [List.cons_append, List.cons_prefix_cons] at ht
    exact hm p hp (by rw [hq, List.cons_prefix_cons]; exact ⟨ht.1.symm, List.nil_prefix⟩)
end Go.Proofs.YtgmmeeikjofefaaGreatDoor
