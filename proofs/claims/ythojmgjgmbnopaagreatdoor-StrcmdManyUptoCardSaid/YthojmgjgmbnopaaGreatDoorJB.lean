import Derived.Test.YthojmgjgmbnopaaGreatDoorJA
import Derived.Test.YthojmgjgmbnopaaGreatDoorXG
import Derived.Deep.RegionLaw
import Derived.Deep.DrawnRows
import Derived.Shelf.Abstract
import Derived.Deep.DeepCutAuto
namespace Go.Proofs.YthojmgjgmbnopaaGreatDoor
open Go Go.RowKit
attribute [local go_sem ↓] Go.wp_at_zero Go.wp_at_succ
/-! Replies: their lists. -/
structure Rf where
  kind : Nat
  text : List UInt8
  n : Int
abbrev rfC (x : Rf) : List Value := [.int .i64 (x.kind : Int), .string ⟨x.text.toArray⟩, .int .i64 x.n, .slice none 0 0]
def rfsC (l : List Rf) : List Value := l.flatMap rfC
theorem rfsC_app (a b : List Rf) : rfsC (a ++ b) = rfsC a ++ rfsC b := by unfold rfsC; exact List.flatMap_append
theorem rfsC_len (l : List Rf) : (rfsC l).length = l.length * 4 := by
  unfold rfsC
  induction l with
  | nil => rfl
  | cons x t ih => simp only [List.flatMap_cons, List.length_append, List.length_cons, ih]; simp; omega
theorem rfsC_one (l : List Rf) : ∀ u ∈ rfsC l, u.oneCell' = true := by
  intro u hu
  obtain ⟨x, _, hx⟩ := List.mem_flatMap.1 hu
  simp [rfC] at hx
  rcases hx with rfl | rfl | rfl | rfl <;> rfl
def bulkF (s : List UInt8) : Rf := ⟨4, s, 0⟩
def numF (n : Int) : Rf := ⟨3, [], n⟩
def BulksRel (w : World) (l : List (List UInt8)) (i : Value) (wr : World) : Prop :=
  ∃ k v o', k ≤ l.length ∧ i = .int .i64 ((k : Nat) : Int) ∧ Blk o' wr [9, 1] (w.heap.size + 1) #[.int .i64 6, .string ⟨#[]⟩, .int .i64 0, v] 30 ∧ Blk o' wr [9, 2] w.heap.size #[.int .i64 0, .string ⟨#[]⟩, .int .i64 0, .slice none 0 0] 30 ∧ Row o' wr [9, 0] 30 4 v k (rfsC ((l.take k).map bulkF)) ∧ Stp [9] none0 w o' wr
theorem vw_newK (w : World) (cs : Array Value) (T : TypeId) (sz : Nat) (h : cs.size = sz) : Vw (fun b => b = w.heap.size) (w.alloc (.cells cs T)) (.slice (some ⟨w.heap.size, 0, none⟩) 1 1) sz 1 cs.toList := by
  refine ⟨⟨_, 1, rfl, Nat.le_refl _, by unfold maxLen; omega, .inr ⟨w.heap.size, 0, rfl, by simp, rfl, fun k u hk => ?_⟩⟩, by simp [h]⟩
  unfold World.cell?
  rw [show (w.alloc (.cells cs T)).heap[w.heap.size]? = some (.cells cs T (0, 0)) from heap_alloc_new w _]
  simpa using hk
def BulksDid (w : World) (l : List (List UInt8)) (e : Ending) (w' : World) : Prop := ∃ v, e = .returned (repV 6 [] 0 v) ∧ Fresh w w' 30 4 v l.length (rfsC (l.map bulkF))
end Go.Proofs.YthojmgjgmbnopaaGreatDoor
namespace Go.Proofs.YthojmgjgmbnopaaGreatDoor
open Go Go.RowKit
/-! The roles of a call's own blocks. -/
theorem SpJ.from {o : Roles} {w : World} {q : List Nat} {p : Nat} {S : SP} {c : Cnt} {r : List Nat} (h : SpJ o w q p S c) : SpJ (o.from w.heap.size r) w q p S c := by
  obtain ⟨m, d, a, kvs, h⟩ := h
  exact ⟨m, d, a, kvs, h.from⟩
theorem fresh_roles (o : Roles) : ∀ n : Nat, ∃ m, ∀ j b, b < n → ¬ [m + j] <+: o b := by
  have h : ∀ n : Nat, ∃ m, ∀ b, b < n → ∀ k t, o b = k :: t → k < m := by
    intro n
    induction n with
    | zero => exact ⟨0, fun b hb => absurd hb (Nat.not_lt_zero _)⟩
    | succ n ih =>
      obtain ⟨m, hm⟩ := ih
      refine ⟨m + (o n).headD 0 + 1, fun b hb k t e => ?_⟩
      rcases Nat.lt_succ_iff_lt_or_eq.1 hb with h | rfl
      · have := hm b h k t e; omega
      · rw [e]; simp; omega
  intro n
  obtain ⟨m, hm⟩ := h n
  refine ⟨m, fun j b hb hp => ?_⟩
  cases e : o b with
  | nil => rw [e] at hp; simp at hp
  | cons k t =>
    rw [e, List.cons_prefix_cons] at hp
    have := hm b hb k t e
    omega
/-- Roles under which a call begins: what is new bears [m + 2]; nothing bears [m], [m + 1]. -/
structure Begin (o : Roles) (w : World) (q : List Nat) (o1 : Roles) (m : Nat) : Prop where
  old : ∀ b, b < w.heap.size → o1 b = o b
  new : ∀ b, w.heap.size ≤ b → o1 b = [m + 2]
  st : ∀ s, Stp s o w o1 w
  no : ∀ j b, j < 2 → ¬ [m + j] <+: o1 b
  no2 : ∀ j b, b < w.heap.size → ¬ [m + j] <+: o1 b
  ap : ∀ j, Apart [m + j] q
  aq : ∀ j, Apart q [m + j]
theorem begin_roles {o : Roles} {w : World} {q : List Nat} {p : Nat} {S : SP} {c : Cnt} (h : SpJ o w q p S c) (hq : q ≠ []) : ∃ o1 m, Begin o w q o1 m ∧ SpJ o1 w q p S c := by
  obtain ⟨m, hm⟩ := fresh_roles o w.heap.size
  refine ⟨o.from w.heap.size [m + 2], m, ⟨fun b hb => Roles.from_old hb, fun b hb => Roles.from_new hb, fun s => Stp.from0 s o w _, fun j b hj => ?_, fun j b hb => by rw [Roles.from_old hb]; exact hm j b hb, fun j => apart_fresh (hm j) h.role.2 h.role.1 hq, fun j => apart_fresh' (hm j) h.role.2 h.role.1 hq⟩, h.from⟩
  rcases Nat.lt_or_ge b w.heap.size with hb | hb
  · rw [Roles.from_old hb]; exact hm j b hb
  · rw [Roles.from_new hb]; simp; omega
theorem Begin.blk {o o1 : Roles} {w : World} {q r : List Nat} {m b : Nat} {cs : Array Value} {T : TypeId} (h : Begin o w q o1 m) (hb : Blk o w r b cs T) : Blk o1 w r b cs T := ⟨hb.heap, by rw [h.old b hb.lt]; exact hb.role⟩
/-- What was there keeps through steps at blocks that no role of those says. -/
theorem Begin.keepVw {o o1 o2 : Roles} {w w1 w2 : World} {q : List Nat} {m j sz n : Nat} {v : Value} {xs : List Value} (h : Begin o w q o1 m) (hv : Vw (fun b => b < w.heap.size) w1 v sz n xs) {o1' : Roles} (he : ∀ b, b < w.heap.size → o1' b = o1 b) (st : Stp [m + j] o1' w1 o2 w2) : Vw (fun b => b < w.heap.size) w2 v sz n xs :=
  hv.stay st.size (fun b hb hb2 => st.block b hb2 (by rw [he b hb]; exact h.no2 j b hb))
abbrev zRepC : Array Value := #[.int .i64 0, .string ⟨#[]⟩, .int .i64 0, .slice none 0 0]
/-- The block of a result, in a world behind its making. -/
theorem Begin.res {o o1 : Roles} {w : World} {q : List Nat} {m : Nat} (h : Begin o w q o1 m) : Blk o1 (w.alloc (.cells zRepC 30)) [m + 2] w.heap.size zRepC 30 ∧ Below w.heap.size w (w.alloc (.cells zRepC 30)) :=
  ⟨⟨heap_alloc_new w _, h.new _ (Nat.le_refl _)⟩, (Below.refl _ _).alloc (Nat.le_refl _) _⟩
/-- A reply is laid into the result's block. -/
theorem Begin.stored {o o1 o4 : Roles} {w w6 : World} {q : List Nat} {p m R : Nat} {S : SP} {c : Cnt} (h : Begin o w q o1 m) (hj : SpJ o4 w6 q p S c) (hr : Blk o4 w6 [m + 2] R zRepC 30) (hs : Stp q o w o4 w6) (v0 v1 v2 v3 : Value) :
    SpJ o4 ((((w6.setCell ⟨R, 0, none⟩ v0).setCell ⟨R, 1, none⟩ v1).setCell ⟨R, 2, none⟩ v2).setCell ⟨R, 3, none⟩ v3) q p S c ∧ Stp q o w o4 ((((w6.setCell ⟨R, 0, none⟩ v0).setCell ⟨R, 1, none⟩ v1).setCell ⟨R, 2, none⟩ v2).setCell ⟨R, 3, none⟩ v3) := by
  have hst : Stp [m + 2] o4 w6 o4 ((((w6.setCell ⟨R, 0, none⟩ v0).setCell ⟨R, 1, none⟩ v1).setCell ⟨R, 2, none⟩ v2).setCell ⟨R, 3, none⟩ v3) := by
    iterate 4 refine Stp.setCell ?_ (by show [m + 2] <+: o4 R; rw [hr.role]; exact List.prefix_refl _) _
    exact Stp.refl _ _ _
  exact ⟨hj.keep hst (h.ap 2), hs.hide hst (fun b hb => by have := h.no2 2 b hb; rw [h.old b hb] at this; exact this)⟩
/-- What a call of a command keeps: the space, the call's own block, the result's. -/
structure Fr (o : Roles) (w : World) (q : List Nat) (p m : Nat) (ρ : List Nat) (cb : Nat) (cs : Array Value) (S : SP) (c : Cnt) (ox : Roles) (wx : World) : Prop where
  sp : SpJ ox wx q p S c
  call : Blk ox wx ρ cb cs 108
  res : Blk ox wx [m + 2] w.heap.size zRepC 30
  st : Stp q o w ox wx
  far : ∀ j, ¬ [m + j] <+: ρ
section
variable {o ox oy : Roles} {w wx wy : World} {q : List Nat} {p m : Nat} {ρ : List Nat} {cb : Nat} {cs : Array Value} {S S' : SP} {c c' : Cnt} {o1 : Roles}
theorem Fr.begin (h : Begin o w q o1 m) (hj : SpJ o1 w q p S c) (hcb : Blk o w ρ cb cs 108) : Fr o w q p m ρ cb cs S c o1 (w.alloc (.cells zRepC 30)) :=
  ⟨hj.below h.res.2, (h.blk hcb).below h.res.2, h.res.1, (h.st q).trans (Stp.ofBelow q o1 h.res.2), fun j => by rw [← hcb.role, ← h.old cb hcb.lt]; exact h.no2 j cb hcb.lt⟩
theorem Fr.below (h : Fr o w q p m ρ cb cs S c ox wx) (hB : Below wx.heap.size wx wy) : Fr o w q p m ρ cb cs S c ox wy :=
  ⟨h.sp.below hB, h.call.below hB, h.res.below hB, h.st.trans (Stp.ofBelow q ox hB), h.far⟩
theorem Fr.step {j : Nat} (hb : Begin o w q o1 m) (hj : j < 2) (h : Fr o w q p m ρ cb cs S c ox wx) (st : Stp [m + j] ox wx oy wy) : Fr o w q p m ρ cb cs S c oy wy :=
  ⟨h.sp.keep st (hb.ap j), h.call.keep st (h.far j), h.res.keep st (by simp; omega), h.st.hide st (fun b hb2 => by rw [← hb.old b hb2]; exact hb.no2 j b hb2), h.far⟩
theorem Fr.put (hb : Begin o w q o1 m) (hρ : ¬ q <+: ρ) (h : Fr o w q p m ρ cb cs S c ox wx) (hj : SpJ oy wy q p S' c') (hs : Stp q ox wx oy wy) : Fr o w q p m ρ cb cs S' c' oy wy :=
  ⟨hj, h.call.keep hs hρ, h.res.keep hs (hb.aq 2).not, h.st.trans hs, h.far⟩
/-- The end: a reply is laid into the result's block. -/
theorem Fr.fin (hb : Begin o w q o1 m) (h : Fr o w q p m ρ cb cs S c ox wx) (v0 v1 v2 v3 : Value) :
    SpJ ox ((((wx.setCell ⟨w.heap.size, 0, none⟩ v0).setCell ⟨w.heap.size, 1, none⟩ v1).setCell ⟨w.heap.size, 2, none⟩ v2).setCell ⟨w.heap.size, 3, none⟩ v3) q p S c ∧ Stp q o w ox ((((wx.setCell ⟨w.heap.size, 0, none⟩ v0).setCell ⟨w.heap.size, 1, none⟩ v1).setCell ⟨w.heap.size, 2, none⟩ v2).setCell ⟨w.heap.size, 3, none⟩ v3) :=
  hb.stored h.sp h.res h.st v0 v1 v2 v3
end
def RepJ (o : Roles) (w : World) (q : List Nat) (p : Nat) (S : SP) (c : Cnt) (r : Rf) (e : Ending) (w' : World) : Prop :=
  e = .returned (repV r.kind r.text r.n (.slice none 0 0)) ∧ ∃ o', SpJ o' w' q p S c ∧ Stp q o w o' w'
def errF (s : List UInt8) : Rf := ⟨2, s, 0⟩
end Go.Proofs.YthojmgjgmbnopaaGreatDoor
namespace Go.Proofs.YthojmgjgmbnopaaGreatDoor
open Go Go.RowKit
/-! A reply, the space behind it, and what serves a request. -/
theorem all_below {o o' : Roles} {w w' : World} (h : ∀ s, Stp s o w o' w') : Below w.heap.size w w' :=
  ⟨(h []).os, (h []).tape, (h []).output, (h []).size, fun b hb => (h (o b ++ [0])).block b hb (by intro hp; have := hp.length_le; simp at this; omega)⟩
structure RP where
  kind : Nat
  text : List UInt8
  n : Int
  list : List Rf
def RepB (w : World) (r : RP) (e : Ending) (w' : World) : Prop :=
  ∃ v, e = .returned (repV r.kind r.text r.n v) ∧ Vw (fun b => w.heap.size ≤ b) w' v 4 r.list.length (rfsC r.list) ∧ Below w.heap.size w w'
def numR (n : Int) : RP := ⟨3, [], n, []⟩
def bulkR (s : List UInt8) : RP := ⟨4, s, 0, []⟩
def nullR : RP := ⟨5, [], 0, []⟩
def errR (s : List UInt8) : RP := ⟨2, s, 0, []⟩
def bulksR (l : List (List UInt8)) : RP := ⟨6, [], 0, l.map bulkF⟩
/-- A reply's four cells are laid into the result's block. -/
theorem below_four {w w5 : World} {v0 v1 v2 v3 : Value} (h : Below w.heap.size w w5) : Below w.heap.size w ((((w5.setCell ⟨w.heap.size, 0, none⟩ v0).setCell ⟨w.heap.size, 1, none⟩ v1).setCell ⟨w.heap.size, 2, none⟩ v2).setCell ⟨w.heap.size, 3, none⟩ v3) := by
  iterate 4 refine Below.setCell ?_ (by exact Nat.le_refl _) _
  exact h
theorem vw_four {w w5 w6 : World} {v0 v1 v2 v3 v : Value} {sz n : Nat} {xs : List Value} (h : Vw (fun b => w5.heap.size ≤ b) w6 v sz n xs) (hs : w.heap.size < w5.heap.size) :
    Vw (fun b => w.heap.size ≤ b) ((((w6.setCell ⟨w.heap.size, 0, none⟩ v0).setCell ⟨w.heap.size, 1, none⟩ v1).setCell ⟨w.heap.size, 2, none⟩ v2).setCell ⟨w.heap.size, 3, none⟩ v3) v sz n xs := by
  refine (h.stay (by simp) (fun b hb _ => ?_)).imp (fun b hb => by omega)
  repeat rw [heap_set_far (by show b ≠ w.heap.size; omega)]
/-- A reply, and the space behind it. -/
def RepL (o : Roles) (w : World) (q : List Nat) (p : Nat) (r : RP) (K : SP → Cnt → Prop) (e : Ending) (w' : World) : Prop :=
  ∃ v, e = .returned (repV r.kind r.text r.n v) ∧ Vw (fun b => w.heap.size ≤ b) w' v 4 r.list.length (rfsC r.list) ∧ ∃ o' S' c', SpJ o' w' q p S' c' ∧ K S' c' ∧ Stp q o w o' w'
section
variable {o : Roles} {w : World} {q : List Nat} {p : Nat} {c c' : Cnt} {S S' : SP}
theorem RepJ.repL {r : Rf} {K : SP → Cnt → Prop} {e : Ending} {w' : World} (h : RepJ o w q p S' c' r e w') (hK : K S' c') : RepL o w q p ⟨r.kind, r.text, r.n, []⟩ K e w' := by
  obtain ⟨rfl, o', hj, hs⟩ := h
  exact ⟨_, rfl, Vw.nil _ _ _, o', S', c', hj, hK, hs⟩
theorem RepB.repL {r : RP} {K : SP → Cnt → Prop} {e : Ending} {w' : World} (h : RepB w r e w') (hj : SpJ o w q p S c) (hK : K S c) : RepL o w q p r K e w' := by
  obtain ⟨v, rfl, hv, hB⟩ := h
  exact ⟨v, rfl, hv, o, S, c, hj.below hB, hK, Stp.ofBelow q o hB⟩
end
/-- A reply of a request. -/
def RunDid (o : Roles) (w : World) (q : List Nat) (p : Nat) (r : RP) (K : SP → Cnt → Prop) (e : Ending) (w' : World) : Prop :=
  ∃ v, e = .returned (.tuple #[repV r.kind r.text r.n v, .bool true]) ∧ Vw (fun b => w.heap.size ≤ b) w' v 4 r.list.length (rfsC r.list) ∧ ∃ o' S' c', SpJ o' w' q p S' c' ∧ K S' c' ∧ Stp q o w o' w'
/-- What a command's function does, called over a request of its own. -/
def Serves (F : FuncId) (w : World) (q : List Nat) (p : Nat) (S : SP) (c : Cnt) (nm : List UInt8) (args : List (List UInt8)) (r : RP) (K : SP → Cnt → Prop) : Prop :=
  ∀ (o1 : Roles) (w1 : World) (cb m : Nat) (sv : Value), SpJ o1 w1 q p S c → ¬ q <+: [m] → Below w.heap.size w w1 → Blk o1 w1 [m] cb (callC p 0 nm sv) 108 → Vw (Old w1) w1 sv 1 args.length (args.map txt) →
    Calls Tryz.prog F #[.pointer (some ⟨cb, 0, none⟩)] w1 (RepL o1 w1 q p r K)
/-- A few touches more. -/
def Cnt.near (c c' : Cnt) : Prop := c'.num ≤ c.num + 2 ∧ c'.few ≤ c.few + 2
theorem Cnt.near_refl (c : Cnt) : c.near c := ⟨by omega, by omega⟩
end Go.Proofs.YthojmgjgmbnopaaGreatDoor
