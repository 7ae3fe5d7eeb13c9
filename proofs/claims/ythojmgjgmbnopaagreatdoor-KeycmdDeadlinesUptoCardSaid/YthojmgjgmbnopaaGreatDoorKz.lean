import Derived.Test.YthojmgjgmbnopaaGreatDoorRl
namespace Go.Proofs.YthojmgjgmbnopaaGreatDoor
open Go Go.RowKit
/-! A reply, the space behind it, and what serves a request. -/
theorem all_below {o o' : Roles} {w w' : World} (h : ∀ s, Stp s o w o' w') : Below w.heap.size w w' :=
  ⟨(h []).os, (h []).tape, (h []).output, (h []).size, fun b hb => (h (o b ++ [0])).block b hb (by intro hp; have := hp.length_le; simp at this; omega)⟩
structure RP where
  kind : Nat
  text : List UInt8
  n : Int
  list : List Rf
def RepB (w : World) (r : RP) (e : Ending) (w' : World) : Prop :=
  ∃ v, e = .returned (repV r.kind r.text r.n v) ∧ Vw (fun b => w.heap.size ≤ b) w' v 4 r.list.length (rfsC r.list) ∧ Below w.heap.size w w'
def numR (n : Int) : RP := ⟨3, [], n, []⟩
def bulkR (s : List UInt8) : RP := ⟨4, s, 0, []⟩
def nullR : RP := ⟨5, [], 0, []⟩
def errR (s : List UInt8) : RP := ⟨2, s, 0, []⟩
def bulksR (l : List (List UInt8)) : RP := ⟨6, [], 0, l.map bulkF⟩
/-- A reply's four cells are laid into the result's block. -/
theorem below_four {w w5 : World} {v0 v1 v2 v3 : Value} (h : Below w.heap.size w w5) : Below w.heap.size w ((((w5.setCell ⟨w.heap.size, 0, none⟩ v0).setCell ⟨w.heap.size, 1, none⟩ v1).setCell ⟨w.heap.size, 2, none⟩ v2).setCell ⟨w.heap.size, 3, none⟩ v3) := by
  iterate 4 refine Below.setCell ?_ (by exact Nat.le_refl _) _
  exact h
theorem vw_four {w w5 w6 : World} {v0 v1 v2 v3 v : Value} {sz n : Nat} {xs : List Value} (h : Vw (fun b => w5.heap.size ≤ b) w6 v sz n xs) (hs : w.heap.size < w5.heap.size) :
    Vw (fun b => w.heap.size ≤ b) ((((w6.setCell ⟨w.heap.size, 0, none⟩ v0).setCell ⟨w.heap.size, 1, none⟩ v1).setCell ⟨w.heap.size, 2, none⟩ v2).setCell ⟨w.heap.size, 3, none⟩ v3) v sz n xs := by
  refine (h.stay (by simp) (fun b hb _ => ?_)).imp (fun b hb => by omega)
  repeat rw [heap_set_far (by show b ≠ w.heap.size; omega)]
/-- A reply, and the space behind it. -/
def RepL (o : Roles) (w : World) (q : List Nat) (p : Nat) (r : RP) (K : SP → Cnt → Prop) (e : Ending) (w' : World) : Prop :=
  ∃ v, e = .returned (repV r.kind r.text r.n v) ∧ Vw (fun b => w.heap.size ≤ b) w' v 4 r.list.length (rfsC r.list) ∧ ∃ o' S' c', SpJ o' w' q p S' c' ∧ K S' c' ∧ Stp q o w o' w'
section
variable {o : Roles} {w : World} {q : List Nat} {p : Nat} {c c' : Cnt} {S S' : SP}
theorem RepJ.repL {r : Rf} {K : SP → Cnt → Prop} {e : Ending} {w' : World} (h : RepJ o w q p S' c' r e w') (hK : K S' c') : RepL o w q p ⟨r.kind, r.text, r.n, []⟩ K e w' := by
  obtain ⟨rfl, o', hj, hs⟩ := h
  exact ⟨_, rfl, Vw.nil _ _ _, o', S', c', hj, hK, hs⟩
theorem RepB.repL {r : RP} {K : SP → Cnt → Prop} {e : Ending} {w' : World} (h : RepB w r e w') (hj : SpJ o w q p S c) (hK : K S c) : RepL o w q p r K e w' := by
  obtain ⟨v, rfl, hv, hB⟩ := h
  exact ⟨v, rfl, hv, o, S, c, hj.below hB, hK, Stp.ofBelow q o hB⟩
end
/-- A reply of a request. -/
def RunDid (o : Roles) (w : World) (q : List Nat) (p : Nat) (r : RP) (K : SP → Cnt → Prop) (e : Ending) (w' : World) : Prop :=
  ∃ v, e = .returned (.tuple #[repV r.kind r.text r.n v, .bool true]) ∧ Vw (fun b => w.heap.size ≤ b) w' v 4 r.list.length (rfsC r.list) ∧ ∃ o' S' c', SpJ o' w' q p S' c' ∧ K S' c' ∧ Stp q o w o' w'
/-- What a command's function does, called over a request of its own. -/
def Serves (F : FuncId) (w : World) (q : List Nat) (p : Nat) (S : SP) (c : Cnt) (nm : List UInt8) (args : List (List UInt8)) (r : RP) (K : SP → Cnt → Prop) : Prop :=
  ∀ (o1 : Roles) (w1 : World) (cb m : Nat) (sv : Value), SpJ o1 w1 q p S c → ¬ q <+: [m] → Below w.heap.size w w1 → Blk o1 w1 [m] cb (callC p 0 nm sv) 108 → Vw (Old w1) w1 sv 1 args.length (args.map txt) →
    Calls Tryz.prog F #[.pointer (some ⟨cb, 0, none⟩)] w1 (RepL o1 w1 q p r K)
/-- A few touches more. -/
def Cnt.near (c c' : Cnt) : Prop := c'.num ≤ c.num + 2 ∧ c'.few ≤ c.few + 2
theorem Cnt.near_refl (c : Cnt) : c.near c := ⟨by omega, by omega⟩
end Go.Proofs.YthojmgjgmbnopaaGreatDoor
