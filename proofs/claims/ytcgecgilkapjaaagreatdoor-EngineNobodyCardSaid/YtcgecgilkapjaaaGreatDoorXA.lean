/- Who owns which block: a map of roles beside the world; what a step may change. No program is named here. -/
import Derived.WalkKit
import Derived.Deep.AppendLies
import Derived.Deep.Draws
import Derived.Deep.AppendSrc
import Derived.RegionTactic
import Derived.ChangeMaps4
import Derived.Maps.OwnOps
import Derived.Maps.OwnSet
import Derived.Test.YtcgecgilkapjaaaGreatDoorProg
import Derived.WalkLawsBesides
import Derived.WalkSpells
import Derived.BigQuiet
import Derived.Deep.QuietTactic
import Derived.Lib.Hide
import Derived.Lib.LazyBuf
namespace Go.Proofs.YtcgecgilkapjaaaGreatDoor
open Go Go.RowKit

abbrev Roles := Nat → List Nat

/-- From (o, w) to (o', w'): only blocks whose role begins with r were written; new blocks may have come. -/
structure Stp (r : List Nat) (o : Roles) (w : World) (o' : Roles) (w' : World) : Prop where
  os : w'.os = w.os
  tape : w'.tape = w.tape
  output : w'.output = w.output
  size : w.heap.size ≤ w'.heap.size
  old : ∀ b, b < w.heap.size → o' b = o b
  block : ∀ b, b < w.heap.size → ¬ r <+: o b → w'.heap[b]? = w.heap[b]?

theorem Stp.refl (r : List Nat) (o : Roles) (w : World) : Stp r o w o w := ⟨rfl, rfl, rfl, Nat.le_refl _, fun _ _ => rfl, fun _ _ _ => rfl⟩

theorem Stp.trans {r : List Nat} {o o1 o2 : Roles} {w w1 w2 : World} (h : Stp r o w o1 w1) (k : Stp r o1 w1 o2 w2) : Stp r o w o2 w2 :=
  ⟨k.os.trans h.os, k.tape.trans h.tape, k.output.trans h.output, Nat.le_trans h.size k.size,
   fun b hb => (k.old b (Nat.lt_of_lt_of_le hb h.size)).trans (h.old b hb),
   fun b hb hr => (k.block b (Nat.lt_of_lt_of_le hb h.size) (by rw [h.old b hb]; exact hr)).trans (h.block b hb hr)⟩

theorem Stp.wide {r r' : List Nat} {o o' : Roles} {w w' : World} (h : Stp r o w o' w') (hr : r' <+: r) : Stp r' o w o' w' :=
  ⟨h.os, h.tape, h.output, h.size, h.old, fun b hb hn => h.block b hb (fun hp => hn (hr.trans hp))⟩

theorem Stp.drewN {r : List Nat} {o o' : Roles} {w w' : World} (h : Stp r o w o' w') (n : Nat) : Stp r o w o' (w'.drewN n) :=
  ⟨h.os, h.tape, h.output, h.size, h.old, h.block⟩
theorem Stp.drew {r : List Nat} {o o' : Roles} {w w' : World} (h : Stp r o w o' w') : Stp r o w o' w'.drew :=
  ⟨h.os, h.tape, h.output, h.size, h.old, h.block⟩
theorem Stp.fromN {r : List Nat} {o o' : Roles} {w w' : World} {n : Nat} (h : Stp r o (w.drewN n) o' w') : Stp r o w o' w' :=
  ⟨h.os, h.tape, h.output, h.size, h.old, h.block⟩
theorem Stp.from1 {r : List Nat} {o o' : Roles} {w w' : World} (h : Stp r o w.drew o' w') : Stp r o w o' w' :=
  ⟨h.os, h.tape, h.output, h.size, h.old, h.block⟩

/-- One role more: block b gets the role r. -/
def Roles.put (o : Roles) (b : Nat) (r : List Nat) : Roles := fun k => if k = b then r else o k
theorem Roles.put_same (o : Roles) (b : Nat) (r : List Nat) : o.put b r b = r := by simp [Roles.put]
theorem Roles.put_other {o : Roles} {b k : Nat} {r : List Nat} (h : k ≠ b) : o.put b r k = o k := by simp [Roles.put, h]

/-- A new block, with a role of its own. -/
theorem Stp.alloc {r r' : List Nat} {o o' : Roles} {w w' : World} (h : Stp r o w o' w') (x : Obj) (b : Nat) (hb : b = w'.heap.size) : Stp r o w (o'.put b r') (w'.alloc x) :=
  h.trans ⟨rfl, rfl, rfl, by simp, fun k hk => Roles.put_other (by omega), fun k hk _ => Below.heap_alloc _ _ _ hk⟩

/-- A store into a block of the role. -/
theorem Stp.setCell {r : List Nat} {o o' : Roles} {w w' : World} (h : Stp r o w o' w') {a : Addr} (ha : r <+: o' a.block) (v : Value) : Stp r o w o' (w'.setCell a v) :=
  h.trans ⟨rfl, rfl, rfl, by simp, fun _ _ => rfl, fun k _ hn => Below.heap_setCell _ _ _ _ (fun e => hn (e ▸ ha))⟩

/-- A step that the kit's laws tell by 'grownBy'. -/
theorem Stp.grown {r : List Nat} {o o' : Roles} {w w' w2 : World} {row : Option Nat} (h : Stp r o w o' w') (hg : w'.grownBy w2 row) (hr : ∀ k, row = some k → r <+: o' k) : Stp r o w o' w2 :=
  h.trans ⟨hg.os, hg.tape, hg.output, hg.size, fun _ _ => rfl, fun k hk hn => hg.block k hk (fun e => hn (hr k e.symm))⟩

/-- A role for blocks that were not there at the start. -/
theorem Stp.name {r : List Nat} {o o' : Roles} {w w' : World} (h : Stp r o w o' w') (b : Nat) (r' : List Nat) (hb : w.heap.size ≤ b) : Stp r o w (o'.put b r') w' :=
  ⟨h.os, h.tape, h.output, h.size, fun k hk => by rw [Roles.put_other (by omega)]; exact h.old k hk, h.block⟩

/-- Two roles that have nothing to do with one another. -/
def Apart (r s : List Nat) : Prop := ∀ t, ¬ r <+: s ++ t
theorem Apart.head {a b : Nat} (h : a ≠ b) (r s : List Nat) : Apart (a :: r) (b :: s) := fun t hp => by
  rw [List.cons_append, List.cons_prefix_cons] at hp; exact h hp.1
theorem Apart.tail {r s : List Nat} (h : Apart r s) (a : Nat) : Apart (a :: r) (a :: s) := fun t hp => by
  rw [List.cons_append, List.cons_prefix_cons] at hp; exact h t hp.2
theorem Apart.both {r s : List Nat} (h : Apart r s) (q : List Nat) : Apart (q ++ r) (q ++ s) := fun t hp => by
  rw [List.append_assoc, List.prefix_append_right_inj] at hp; exact h t hp
theorem Apart.more {r s : List Nat} (h : Apart r s) (t : List Nat) : Apart r (s ++ t) := fun u hp => by
  rw [List.append_assoc] at hp; exact h _ hp
theorem Apart.not {r s : List Nat} (h : Apart r s) : ¬ r <+: s := fun hp => h [] (by simpa using hp)

/-- Block b has the role r and holds cs. -/
structure Blk (o : Roles) (w : World) (r : List Nat) (b : Nat) (cs : Array Value) (T : TypeId) : Prop where
  heap : w.heap[b]? = some (.cells cs T (0, 0))
  role : o b = r

theorem Blk.lt {o : Roles} {w : World} {r : List Nat} {b : Nat} {cs : Array Value} {T : TypeId} (h : Blk o w r b cs T) : b < w.heap.size :=
  (Array.getElem?_eq_some_iff.1 h.heap).1
theorem Blk.keep {r : List Nat} {o o' : Roles} {w w' : World} {s : List Nat} {b : Nat} {cs : Array Value} {T : TypeId} (h : Blk o w s b cs T) (st : Stp r o w o' w') (hn : ¬ r <+: s) : Blk o' w' s b cs T :=
  ⟨by rw [st.block b h.lt (by rw [h.role]; exact hn)]; exact h.heap, by rw [st.old b h.lt]; exact h.role⟩
theorem Blk.cell {o : Roles} {w : World} {r : List Nat} {b : Nat} {cs : Array Value} {T : TypeId} (h : Blk o w r b cs T) (k : Nat) : w.cell? ⟨b, k, none⟩ = cs[k]? := by
  simp [World.cell?, h.heap]
theorem Blk.free {o : Roles} {w : World} {r : List Nat} {b : Nat} {cs : Array Value} {T : TypeId} (h : Blk o w r b cs T) (k : Nat) : w.frozen? ⟨b, k, none⟩ = false := by
  simp [World.frozen?, h.heap]
theorem Blk.drewN {o : Roles} {w : World} {r : List Nat} {b : Nat} {cs : Array Value} {T : TypeId} (h : Blk o w r b cs T) (n : Nat) : Blk o (w.drewN n) r b cs T := ⟨h.heap, h.role⟩
theorem Blk.drew {o : Roles} {w : World} {r : List Nat} {b : Nat} {cs : Array Value} {T : TypeId} (h : Blk o w r b cs T) : Blk o w.drew r b cs T := ⟨h.heap, h.role⟩
theorem Blk.setCell {o : Roles} {w : World} {r : List Nat} {b : Nat} {cs : Array Value} {T : TypeId} (h : Blk o w r b cs T) (k : Nat) (v : Value) : Blk o (w.setCell ⟨b, k, none⟩ v) r b (cs.setIfInBounds k v) T :=
  ⟨by simp [World.setCell, Array.getElem?_modify, h.heap], h.role⟩
theorem Blk.setOther {o : Roles} {w : World} {r : List Nat} {b : Nat} {cs : Array Value} {T : TypeId} (h : Blk o w r b cs T) (a : Addr) (v : Value) (hn : b ≠ a.block) : Blk o (w.setCell a v) r b cs T :=
  ⟨by rw [Below.heap_setCell _ _ _ _ hn]; exact h.heap, h.role⟩
theorem Blk.new (o : Roles) (w : World) (r : List Nat) (cs : Array Value) (T : TypeId) (b : Nat) (hb : b = w.heap.size) : Blk (o.put b r) (w.alloc (.cells cs T)) r b cs T :=
  ⟨by subst hb; exact heap_alloc_new w _, Roles.put_same _ _ _⟩
theorem Blk.alloc {o : Roles} {w : World} {s : List Nat} {b : Nat} {cs : Array Value} {T : TypeId} (h : Blk o w s b cs T) (x : Obj) (k : Nat) (r : List Nat) (hk : k = w.heap.size) : Blk (o.put k r) (w.alloc x) s b cs T :=
  ⟨by rw [Below.heap_alloc _ _ _ h.lt]; exact h.heap, by have := h.lt; rw [Roles.put_other (by omega)]; exact h.role⟩
theorem Blk.put {o : Roles} {w : World} {s : List Nat} {b : Nat} {cs : Array Value} {T : TypeId} (h : Blk o w s b cs T) (k : Nat) (r : List Nat) (hk : w.heap.size ≤ k) : Blk (o.put k r) w s b cs T :=
  ⟨h.heap, by have := h.lt; rw [Roles.put_other (by omega)]; exact h.role⟩
theorem Blk.ne {o : Roles} {w : World} {r s : List Nat} {b c : Nat} {cs ds : Array Value} {T U : TypeId} (h : Blk o w r b cs T) (k : Blk o w s c ds U) (hn : r ≠ s) : b ≠ c := by
  intro e; subst e; exact hn (h.role.symm.trans k.role)

/-- The slice v, of elements of sz places each of element type e, holds the places xs, n elements, in a row of role r (or is nil). -/
structure Row (o : Roles) (w : World) (r : List Nat) (e : TypeId) (sz : Nat) (v : Value) (n : Nat) (xs : List Value) : Prop where
  own : w.ownsRow 0 e sz v n xs
  role : ∀ g, v.ownBlock = some g → o g = r

section
variable {o o' : Roles} {w w' : World} {r s : List Nat} {e : TypeId} {sz n : Nat} {v : Value} {xs : List Value}
theorem Row.lt (h : Row o w s e sz v n xs) : ∀ g, v.ownBlock = some g → g < w.heap.size := fun g hg => (h.own.lt g hg).2
theorem Row.nil (o : Roles) (w : World) (r : List Nat) (e : TypeId) (sz : Nat) : Row o w r e sz (.slice none 0 0) 0 [] := ⟨World.ownsRow_nil _ _ _ _, fun g hg => by simp [Value.ownBlock] at hg⟩
theorem Row.len (h : Row o w s e sz v n xs) : xs.length = n * sz := h.own.1
theorem ownsRow_agree {base : Nat} (h : w.ownsRow base e sz v n xs) (hb : ∀ g, v.ownBlock = some g → w'.heap[g]? = w.heap[g]?) : w'.ownsRow base e sz v n xs := by
  refine ⟨h.1, ?_⟩
  rcases h.2 with hn | ⟨g, cap, cur, rfl, h1, h2, rest⟩
  · exact .inl hn
  · exact .inr ⟨g, cap, cur, rfl, h1, by rw [hb g (by simp [Value.ownBlock])]; exact h2, rest⟩
theorem Row.keep (h : Row o w s e sz v n xs) (st : Stp r o w o' w') (hn : ¬ r <+: s) : Row o' w' s e sz v n xs :=
  ⟨ownsRow_agree h.own fun g hg => st.block g (h.lt g hg) (by rw [h.role g hg]; exact hn), fun g hg => by rw [st.old g (h.lt g hg)]; exact h.role g hg⟩
theorem Row.drewN (h : Row o w s e sz v n xs) (k : Nat) : Row o (w.drewN k) s e sz v n xs := ⟨h.own, h.role⟩
theorem Row.drew (h : Row o w s e sz v n xs) : Row o w.drew s e sz v n xs := ⟨h.own, h.role⟩
theorem Row.setCell (h : Row o w s e sz v n xs) (a : Addr) (u : Value) (hn : o a.block ≠ s) : Row o (w.setCell a u) s e sz v n xs :=
  ⟨ownsRow_agree h.own fun g hg => Below.heap_setCell _ _ _ _ (fun e => hn (by rw [← e]; exact h.role g hg)), h.role⟩
theorem Row.alloc (h : Row o w s e sz v n xs) (x : Obj) (k : Nat) (r : List Nat) (hk : k = w.heap.size) : Row (o.put k r) (w.alloc x) s e sz v n xs :=
  ⟨h.own.alloc x, fun g hg => by have := h.lt g hg; rw [Roles.put_other (by omega)]; exact h.role g hg⟩
theorem Row.put (h : Row o w s e sz v n xs) (k : Nat) (r : List Nat) (hk : w.heap.size ≤ k) : Row (o.put k r) w s e sz v n xs :=
  ⟨h.own, fun g hg => by have := h.lt g hg; rw [Roles.put_other (by omega)]; exact h.role g hg⟩
/-- What such a value looks like. -/
theorem Row.form (h : Row o w s e sz v n xs) :
    (v = .slice none 0 0 ∧ n = 0 ∧ xs = []) ∨ ∃ g cap cur, v = .slice (some ⟨g, 0, none⟩) n cap ∧ Blk o w s g cur e ∧ n ≤ cap ∧ cap ≤ maxLen ∧ cur.size = cap * sz ∧ cur.toList.take (n * sz) = xs := by
  rcases h.own.2 with ⟨h1, h2⟩ | ⟨g, cap, cur, hv, _, hg, hn, hm, hs, ht⟩
  · exact .inl ⟨h1, h2, List.eq_nil_of_length_eq_zero (by rw [h.own.1, h2]; simp)⟩
  · exact .inr ⟨g, cap, cur, hv, ⟨hg, h.role g (by simp [hv, Value.ownBlock])⟩, hn, hm, hs, ht⟩
theorem Row.slice (h : Row o w s e sz v n xs) : ∃ a cap, v = .slice a n cap ∧ n ≤ cap ∧ cap ≤ maxLen ∧ (a = none → n = 0 ∧ xs = [] ∧ cap = 0) := by
  rcases h.form with ⟨h1, h2, h3⟩ | ⟨g, cap, cur, h1, _, h3, h4, _⟩
  · exact ⟨none, 0, by simp [h1, h2], by simp [h2], by simp, fun _ => ⟨h2, h3, rfl⟩⟩
  · exact ⟨_, cap, h1, h3, h4, fun h => by cases h⟩
/-- An element's place. -/
theorem Row.at (h : Row o w s e sz v n xs) {k : Nat} (hk : k < n * sz) : ∃ g cap, v = .slice (some ⟨g, 0, none⟩) n cap ∧ o g = s ∧ w.cell? ⟨g, k, none⟩ = xs[k]? ∧ w.frozen? ⟨g, k, none⟩ = false := by
  rcases h.form with ⟨_, h2, _⟩ | ⟨g, cap, cur, h1, hb, h3, h4, h5, h6⟩
  · subst h2; simp at hk
  · refine ⟨g, cap, h1, hb.role, ?_, hb.free k⟩
    rw [hb.cell, ← h6, List.getElem?_take, if_pos hk]
    simp
end

/-! ### New blocks alone -/
theorem Stp.ofBelow (r : List Nat) (o : Roles) {w w' : World} (h : Below w.heap.size w w') : Stp r o w o w' := ⟨h.os, h.tape, h.output, h.size, fun _ _ => rfl, fun b hb _ => h.block b hb⟩
theorem Blk.below {o : Roles} {w w' : World} {r : List Nat} {b : Nat} {cs : Array Value} {T : TypeId} (h : Blk o w r b cs T) (hb : Below w.heap.size w w') : Blk o w' r b cs T := ⟨by rw [hb.block b h.lt]; exact h.heap, h.role⟩
theorem Row.below {o : Roles} {w w' : World} {s : List Nat} {e : TypeId} {sz n : Nat} {v : Value} {xs : List Value} (h : Row o w s e sz v n xs) (hb : Below w.heap.size w w') : Row o w' s e sz v n xs := ⟨ownsRow_agree h.own fun g hg => hb.block g (h.lt g hg), h.role⟩
theorem below_drewN {B : Nat} {a w : World} (h : Below B a w) (q : Nat) : Below B a (w.drewN q) := ⟨h.os, h.tape, h.output, h.size, h.block⟩

def none0 : Roles := fun _ => []
/-- From a world without roles: all that was there is as it was. -/
theorem Stp.below0 {a : Nat} {r : List Nat} {o' : Roles} {w w' : World} (h : Stp (a :: r) none0 w o' w') : Below w.heap.size w w' :=
  ⟨h.os, h.tape, h.output, h.size, fun b hb => h.block b hb (by simp [none0])⟩

/-! ### append -/
def setMany : Array Value → Nat → List Value → Array Value
  | c, _, [] => c
  | c, o, v :: r => setMany (c.setIfInBounds o v) (o + 1) r
theorem setMany_size : ∀ (vs : List Value) (c : Array Value) (o : Nat), (setMany c o vs).size = c.size
  | [], _, _ => rfl
  | v :: r, c, o => by rw [setMany, setMany_size r]; simp
theorem setMany_get : ∀ (vs : List Value) (c : Array Value) (o : Nat), o + vs.length ≤ c.size → ∀ k, (setMany c o vs)[k]? = if k < o then c[k]? else if k < o + vs.length then vs[k - o]? else c[k]?
  | [], c, o, _, k => by simp only [setMany, List.length_nil, Nat.add_zero]; split <;> (try split) <;> first | rfl | omega
  | v :: r, c, o, h, k => by
    simp only [List.length_cons] at h
    rw [setMany, setMany_get r (c.setIfInBounds o v) (o + 1) (by simp; omega) k]
    simp only [List.length_cons]
    rcases Nat.lt_trichotomy k o with hk | hk | hk
    · rw [if_pos (show k < o + 1 by omega), if_pos hk, Array.getElem?_setIfInBounds, if_neg (by omega)]
    · subst hk
      rw [if_pos (show k < k + 1 by omega), if_neg (show ¬ k < k by omega), if_pos (show k < k + (r.length + 1) by omega), Array.getElem?_setIfInBounds, if_pos rfl, if_pos (by omega)]
      simp
    · rw [if_neg (show ¬ k < o + 1 by omega), if_neg (show ¬ k < o by omega)]
      by_cases h2 : k < o + 1 + r.length
      · rw [if_pos h2, if_pos (by omega)]
        have : k - o = (k - (o + 1)) + 1 := by omega
        rw [this, List.getElem?_cons_succ]
      · rw [if_neg h2, if_neg (by omega), Array.getElem?_setIfInBounds, if_neg (by omega)]
theorem heap_setCells_at (g : Nat) (e : TypeId) (fr : Nat × Nat) : ∀ (vs : List Value) (o : Nat) (w : World) (c : Array Value), w.heap[g]? = some (.cells c e fr) → (w.setCells g o vs).heap[g]? = some (.cells (setMany c o vs) e fr)
  | [], _, _, _, h => h
  | v :: r, o, w, c, h => by
    rw [World.setCells, setMany]
    exact heap_setCells_at g e fr r (o + 1) _ _ (by simp [World.setCell, Array.getElem?_modify, h])
theorem heap_setCells_far (g : Nat) {k : Nat} (hk : k ≠ g) : ∀ (vs : List Value) (o : Nat) (w : World), (w.setCells g o vs).heap[k]? = w.heap[k]?
  | [], _, _ => rfl
  | v :: r, o, w => by rw [World.setCells, heap_setCells_far g hk r]; exact Below.heap_setCell _ _ _ _ hk
theorem setCells_same (g : Nat) : ∀ (vs : List Value) (o : Nat) (w : World), (w.setCells g o vs).heap.size = w.heap.size ∧ (w.setCells g o vs).os = w.os ∧ (w.setCells g o vs).tape = w.tape ∧ (w.setCells g o vs).output = w.output
  | [], _, _ => ⟨rfl, rfl, rfl, rfl⟩
  | v :: r, o, w => by
    have h := setCells_same g r (o + 1) (w.setCell ⟨g, o, none⟩ v)
    rw [World.setCells]
    exact ⟨by rw [h.1]; simp, h.2.1, h.2.2.1, h.2.2.2⟩
theorem Stp.setCells {r : List Nat} {o o' : Roles} {w w' : World} (h : Stp r o w o' w') {g : Nat} (hg : r <+: o' g) (k : Nat) (vs : List Value) : Stp r o w o' (w'.setCells g k vs) :=
  let e := setCells_same g vs k w'
  h.trans ⟨e.2.1, e.2.2.1, e.2.2.2, Nat.le_of_eq e.1.symm, fun _ _ => rfl, fun j _ hn => heap_setCells_far g (fun e => hn (by rw [e]; exact hg)) _ _ _⟩

section
variable {P : Program} (w : World)
/-- append, onto a row of role r, of whatever is appended. -/
theorem run_app {o : Roles} {r : List Nat} (t tx ty e : TypeId) (i : TypeInfo) (z : Value) (size bytes : Nat) (ht : P.underlying t = some (.slice e)) (hi : P.info? e = some i) (hz : i.zero = some z)
    (hsize : i.size = size) (hby : i.bytes = bytes) (hzs : z.cells.size = size)
    {v : Value} {n : Nat} {xs : List Value} (hrow : Row o w r e size v n xs) {x : Value} {m : Nat} {news : List Value} (hs : Src P size tx x m news w)
    (h63 : n + m ≤ maxLen) (hbytes : (n + m) * bytes ≤ 140737488355328) :
    ∃ v' w' o', (Builtin.append_ #[t, tx] ty #[v, x]).run P w = .ok v' w' ∧ Row o' w' r e size v' (n + m) (xs ++ news) ∧ Stp r o w o' w' := by
  subst hsize; subst hby
  have hnl := hs.newsLen
  have hlen : (xs ++ news).length = (n + m) * i.size := by rw [List.length_append, hrow.len, hnl, Nat.add_mul]
  have grown : ∀ old, old < n + m → Row (o.put w.heap.size r) (w.drew.alloc (.cells ((xs ++ news).toArray ++ Builtin.zeroCells z.cells (grownCap w (n + m) old e - (n + m))) e)) r e i.size
      (.slice (some ⟨w.heap.size, 0, none⟩) (n + m) (grownCap w (n + m) old e)) (n + m) (xs ++ news) ∧
      Stp r o w (o.put w.heap.size r) (w.drew.alloc (.cells ((xs ++ news).toArray ++ Builtin.zeroCells z.cells (grownCap w (n + m) old e - (n + m))) e)) := by
    intro old ho
    have hge := grownCap_ge w (n + m) old e
    refine ⟨⟨⟨hlen, .inr ⟨w.heap.size, _, _, rfl, Nat.zero_le _, heap_alloc_new w.drew _, hge, grownCap_le_maxLen w (n + m) old e h63, ?_, ?_⟩⟩, fun g hg => ?_⟩, (Stp.refl r o w).drew.alloc _ _ rfl⟩
    · simp only [Array.size_append, List.size_toArray, size_zeroCells, hzs, hlen, ← Nat.add_mul]
      congr 1; omega
    · rw [Array.toList_append, List.toList_toArray, ← hlen]; exact List.take_left
    · simp only [Value.ownBlock, Option.some.injEq] at hg; subst hg; exact Roles.put_same _ _ _
  rcases hrow.form with ⟨rfl, rfl, rfl⟩ | ⟨g, cap, cur, rfl, hb, h3, h4, h5, h6⟩
  · by_cases hm : m = 0
    · subst hm
      have : news = [] := List.eq_nil_of_length_eq_zero (by rw [hnl]; simp)
      subst this
      refine ⟨.slice none 0 0, w, o, ?_, by simpa using hrow, Stp.refl _ _ _⟩
      rcases hs.kind with ⟨e', hk⟩ | hk <;> simp [Builtin.append_, run_underlying ht, run_underlying hk, sizeOf, typeInfo, hi, hs.len, hs.cells]
    · have hg := grown 0 (by omega)
      have hr := run_append_grow_src (P := P) w t tx ty e i z ht hi hz none 0 0 [] (run_firstCells_none _ _ _ _ _) x m news hs (by omega) (by unfold maxLen at h63; omega) (growslice_fits (by omega) hbytes)
      exact ⟨_, _, _, hr, by simpa using hg⟩
  · by_cases hroom : n + m ≤ cap
    · have hfit : n * i.size + news.length ≤ cur.size := by rw [hnl, h5, ← Nat.add_mul]; exact Nat.mul_le_mul_right _ hroom
      have hr := run_append_room_src (P := P) w t tx ty e i ht hi g 0 n cap x m news hs hroom
        (fun j hj => by rw [hb.cell, Nat.zero_add]; simp; omega) (fun j _ => hb.free _)
      rw [Nat.zero_add] at hr
      refine ⟨_, _, o, hr, ⟨⟨hlen, .inr ⟨g, cap, _, rfl, Nat.zero_le _, heap_setCells_at g e _ news _ w cur hb.heap, hroom, h4, by rw [setMany_size, h5], ?_⟩⟩, fun k hk => ?_⟩, (Stp.refl r o w).setCells (by rw [hb.role]; exact List.prefix_refl _) _ _⟩
      · apply List.ext_getElem?
        intro k
        have hx : xs.length = n * i.size := hrow.len
        rw [List.getElem?_take]
        by_cases hk : k < (n + m) * i.size
        · rw [if_pos hk]
          have hg := setMany_get news cur (n * i.size) hfit k
          rw [Array.getElem?_toList, hg]
          by_cases hk1 : k < n * i.size
          · rw [if_pos hk1, List.getElem?_append_left (by omega), ← h6, List.getElem?_take, if_pos hk1]; simp
          · rw [if_neg hk1, if_pos (by rw [hnl, ← Nat.add_mul]; exact hk), List.getElem?_append_right (by omega), hx]
        · rw [if_neg hk, List.getElem?_eq_none (by rw [hlen]; omega)]
      · simp only [Value.ownBlock, Option.some.injEq] at hk; subst hk; exact hb.role
    · have hg := grown cap (by omega)
      have hold : (Builtin.firstCells i.size n (.slice (some ⟨g, 0, none⟩) n cap)).run P w.drew = .ok xs.toArray w.drew :=
        run_firstCells_some w.drew i.size n ⟨g, 0, none⟩ n cap xs hrow.len (fun j u hj => by have := hrow.own.cells (g := g) rfl j u hj; simpa using this)
      have hr := run_append_grow_src (P := P) w t tx ty e i z ht hi hz (some ⟨g, 0, none⟩) n cap xs hold x m news hs (by omega) (by unfold maxLen at h63; omega) (growslice_fits (by omega) hbytes)
      exact ⟨_, _, _, hr, hg⟩

theorem wp_app {o : Oper} {a : Act} {K : Act → World → Prop} {Q : Exit → Act → World → Prop} {ow : Roles} {r : List Nat} (s x : Operand) (t tx : TypeId)
    (ho : o.op = .call { callee := .builtin .append, args := #[s, x], argTypes := #[t, tx] })
    (e : TypeId) (i : TypeInfo) (z : Value) (size bytes : Nat) (ht : P.underlying t = some (.slice e)) (hi : P.info? e = some i) (hz : i.zero = some z)
    (hsize : i.size = size) (hby : i.bytes = bytes) (hzs : z.cells.size = size)
    {v : Value} {n : Nat} {xs : List Value} (hv : a.eval s = v) (hrow : Row ow w r e size v n xs) {xv : Value} {m : Nat} {news : List Value} (hx : a.eval x = xv) (hs : Src P size tx xv m news w)
    (h63 : n + m ≤ maxLen) (hbytes : (n + m) * bytes ≤ 140737488355328)
    (h : ∀ v' w' ow', Row ow' w' r e size v' (n + m) (xs ++ news) → Stp r ow w ow' w' → K (a.put o.dst v') w') : o.wp P a w K Q := by
  obtain ⟨v', w', ow', hr, h2, h3⟩ := run_app (P := P) w t tx o.type e i z size bytes ht hi hz hsize hby hzs hrow hs h63 hbytes
  unfold Oper.wp execOp
  simp only [ho, resolve, invoke, builtin, Sem.run_bind, Sem.run_pure, Result.andThen_ok, List.map_toArray, List.map_cons, List.map_nil, hv, hx, hr]
  exact h v' w' ow' h2 h3

theorem wpList_app {ops : Array Oper} {rest : List Oper} {o : Oper} {a : Act} {Q : Exit → Act → World → Prop} {ow : Roles} {r : List Nat} (hgd : o.guard = none) (s x : Operand) (t tx : TypeId)
    (ho : o.op = .call { callee := .builtin .append, args := #[s, x], argTypes := #[t, tx] })
    (e : TypeId) (i : TypeInfo) (z : Value) (size bytes : Nat) (ht : P.underlying t = some (.slice e)) (hi : P.info? e = some i) (hz : i.zero = some z)
    (hsize : i.size = size) (hby : i.bytes = bytes) (hzs : z.cells.size = size)
    {v : Value} {n : Nat} {xs : List Value} (hv : a.eval s = v) (hrow : Row ow w r e size v n xs) {xv : Value} {m : Nat} {news : List Value} (hx : a.eval x = xv) (hs : Src P size tx xv m news w)
    (h63 : n + m ≤ maxLen) (hbytes : (n + m) * bytes ≤ 140737488355328)
    (h : ∀ v' w' ow', Row ow' w' r e size v' (n + m) (xs ++ news) → Stp r ow w ow' w' → wpList P ops Q rest (a.put o.dst v') w') : wpList P ops Q (o :: rest) a w :=
  wpList_plain hgd fun _ hK => wp_app w s x t tx ho e i z size bytes ht hi hz hsize hby hzs hv hrow hx hs h63 hbytes fun v' w' ow' h2 h3 => hK _ _ (h v' w' ow' h2 h3)

/-- The same, at a step of a region that draws its order. -/
theorem step_app {ops : Array Oper} {o : Oper} {a : Act} {K : Act → World → Prop} {Q : Exit → Act → World → Prop} {E : Prop} {ow : Roles} {r : List Nat} (hgd : o.guard = none) (s x : Operand) (t tx : TypeId)
    (ho : o.op = .call { callee := .builtin .append, args := #[s, x], argTypes := #[t, tx] })
    (e : TypeId) (i : TypeInfo) (z : Value) (size bytes : Nat) (ht : P.underlying t = some (.slice e)) (hi : P.info? e = some i) (hz : i.zero = some z)
    (hsize : i.size = size) (hby : i.bytes = bytes) (hzs : z.cells.size = size)
    {v : Value} {n : Nat} {xs : List Value} (hv : a.eval s = v) (hrow : Row ow w r e size v n xs) {xv : Value} {m : Nat} {news : List Value} (hx : a.eval x = xv) (hs : Src P size tx xv m news w)
    (h63 : n + m ≤ maxLen) (hbytes : (n + m) * bytes ≤ 140737488355328)
    (h : ∀ v' w' ow', Row ow' w' r e size v' (n + m) (xs ++ news) → Stp r ow w ow' w' → K (a.put o.dst v') w') :
    if Region.wanted o (yielded ops a.tmps) = true then Oper.wp P o a w K Q else E := by
  have hw : Region.wanted o (yielded ops a.tmps) = true := by simp [Region.wanted, hgd]
  rw [if_pos hw]
  exact wp_app w s x t tx ho e i z size bytes ht hi hz hsize hby hzs hv hrow hx hs h63 hbytes h
end
end Go.Proofs.YtcgecgilkapjaaaGreatDoor
/- Maps keyed by texts: what a block of a map holds, and the operations on it. No program is named. -/
namespace Go.Proofs.YtcgecgilkapjaaaGreatDoor
open Go Go.RowKit Go.ChangeMaps
def txt (l : List UInt8) : Value := .string ⟨l.toArray⟩
theorem txt_inj {a b : List UInt8} : txt a = txt b ↔ a = b := by
  unfold txt
  constructor
  · intro h
    have h1 := Value.string.inj h
    have h2 := congrArg (fun x : ByteArray => x.data.toList) h1
    simpa using h2
  · rintro rfl; rfl
abbrev KV := List (List UInt8 × Value)
def midx : KV → List UInt8 → Option (Nat × Value)
  | [], _ => none
  | (q, u) :: t, k => if k = q then some (0, u) else (midx t k).map fun p => (p.1 + 1, p.2)
def mfind : KV → List UInt8 → Option Value
  | [], _ => none
  | (q, u) :: t, k => if k = q then some u else mfind t k
def mput : KV → List UInt8 → Value → KV
  | [], k, v => [(k, v)]
  | (q, u) :: t, k, v => if k = q then (q, v) :: t else (q, u) :: mput t k v
def mdel : KV → List UInt8 → KV
  | [], _ => []
  | (q, u) :: t, k => if k = q then t else (q, u) :: mdel t k
theorem midx_find (kvs : KV) (k : List UInt8) : (midx kvs k).map (·.2) = mfind kvs k := by
  induction kvs with
  | nil => rfl
  | cons p t ih =>
    obtain ⟨q, u⟩ := p
    unfold midx mfind
    split
    · rfl
    · rw [← ih]; cases midx t k <;> rfl
theorem midx_none {kvs : KV} {k : List UInt8} (h : midx kvs k = none) : mput kvs k = (fun v => kvs ++ [(k, v)]) ∧ mdel kvs k = kvs := by
  induction kvs with
  | nil => exact ⟨rfl, rfl⟩
  | cons p t ih =>
    obtain ⟨q, u⟩ := p
    unfold midx at h
    split at h
    · cases h
    · rename_i hq
      have h2 : midx t k = none := by cases hm : midx t k with | none => rfl | some x => rw [hm] at h; cases h
      obtain ⟨h3, h4⟩ := ih h2
      refine ⟨funext fun v => ?_, ?_⟩
      · unfold mput; rw [if_neg hq, h3]; rfl
      · unfold mdel; rw [if_neg hq, h4]
theorem midx_some {kvs : KV} {k : List UInt8} {j : Nat} {u : Value} (h : midx kvs k = some (j, u)) : kvs[j]? = some (k, u) ∧ (∀ v, mput kvs k v = kvs.set j (k, v)) ∧ mdel kvs k = kvs.eraseIdx j := by
  induction kvs generalizing j with
  | nil => cases h
  | cons p t ih =>
    obtain ⟨q, x⟩ := p
    unfold midx at h
    split at h
    · rename_i hq; cases h; subst hq
      exact ⟨rfl, fun v => by unfold mput; rw [if_pos rfl]; rfl, by unfold mdel; rw [if_pos rfl]; rfl⟩
    · rename_i hq
      cases hm : midx t k with
      | none => rw [hm] at h; cases h
      | some y =>
        obtain ⟨i, y⟩ := y
        rw [hm] at h
        cases h
        obtain ⟨h1, h2, h3⟩ := ih hm
        exact ⟨by simpa using h1, fun v => by unfold mput; rw [if_neg hq, h2]; rfl, by unfold mdel; rw [if_neg hq, h3]; rfl⟩
theorem beq_bytes (a b : List UInt8) : ((⟨a.toArray⟩ : ByteArray) == ⟨b.toArray⟩) = decide (a = b) := by
  show (a.toArray == b.toArray) = decide (a = b)
  by_cases h : a = b
  · subst h; simp
  · rw [decide_eq_false h]
    rw [beq_eq_false_iff_ne]
    intro e
    have h2 := congrArg (fun x : Array UInt8 => x.toList) e
    exact h (by simpa using h2)
theorem findNow_txt (k : List UInt8) : ∀ (es : List MapEntry) (kvs : KV) (i : Nat), es.map (fun e => (e.key, e.val)) = kvs.map (fun p => (txt p.1, p.2)) →
    Instr.findNow .string (txt k) es i = some ((midx kvs k).map fun p => (i + p.1, p.2))
  | [], kvs, i, h => by
    have : kvs = [] := by simpa using h.symm
    subst this; rfl
  | e :: es, kvs, i, h => by
    cases kvs with
    | nil => simp at h
    | cons p t =>
      obtain ⟨q, u⟩ := p
      simp only [List.map_cons, List.cons.injEq, Prod.mk.injEq] at h
      obtain ⟨⟨h1, h2⟩, h3⟩ := h
      unfold Instr.findNow midx
      rw [h1]
      have hs : Instr.sameNow .string (txt k) (txt q) = some (decide (k = q)) := by
        show some ((⟨k.toArray⟩ : ByteArray) == ⟨q.toArray⟩) = _
        rw [beq_bytes]
      rw [hs]
      by_cases hq : k = q
      · rw [decide_eq_true hq, if_pos hq, h2]; rfl
      · rw [decide_eq_false hq, if_neg hq]
        simp only
        rw [findNow_txt k es t (i + 1) h3]
        cases midx t k with
        | none => rfl
        | some y => simp; omega
/-- Births: below the clock, each once. -/
def MOk (l : List MapEntry) (c : Nat) : Prop := (∀ e ∈ l, e.born < c) ∧ (l.map (·.born)).Nodup
theorem MOk.push {es : Array MapEntry} {c : Nat} (h : MOk es.toList c) (k v : Value) : MOk (es.push { key := k, val := v, born := c }).toList (c + 1) := by
  refine ⟨fun e he => ?_, ?_⟩
  · simp only [Array.toList_push, List.mem_append, List.mem_singleton] at he
    rcases he with he | rfl
    · have := h.1 e he; omega
    · exact Nat.lt_succ_self c
  · simp only [Array.toList_push, List.map_append, List.map_cons, List.map_nil]
    rw [List.nodup_append]
    refine ⟨h.2, by simp, fun a ha b hb => ?_⟩
    simp at hb
    subst hb
    obtain ⟨e, he, rfl⟩ := List.mem_map.1 ha
    have := h.1 e he
    omega
theorem MOk.modify {es : Array MapEntry} {c j : Nat} (h : MOk es.toList c) (k v : Value) : MOk (es.modify j fun e => { e with key := k, val := v }).toList c := by
  have e0 : (es.modify j fun e => { e with key := k, val := v }).toList.map (·.born) = es.toList.map (·.born) := by
    apply List.ext_getElem?
    intro i
    simp only [Array.toList_modify, List.getElem?_map, List.getElem?_modify]
    by_cases hij : j = i
    · subst hij
      cases es.toList[j]? <;> simp
    · simp [hij]
  refine ⟨fun e he => ?_, by rw [e0]; exact h.2⟩
  have : e.born ∈ es.toList.map (·.born) := by rw [← e0]; exact List.mem_map_of_mem he
  obtain ⟨e', he', e1⟩ := List.mem_map.1 this
  rw [← e1]; exact h.1 e' he'
theorem MOk.erase {l : List MapEntry} {c : Nat} (h : MOk l c) (j : Nat) : MOk (l.eraseIdx j) c :=
  ⟨fun e he => h.1 e ((List.eraseIdx_sublist l j).subset he), h.2.sublist ((List.eraseIdx_sublist l j).map _)⟩
/-- Block b has role r and is a map that holds just these. -/
structure MBlk (o : Roles) (w : World) (r : List Nat) (b : Nat) (kvs : KV) : Prop where
  heap : ∃ es clock, w.heap[b]? = some (.map es clock) ∧ (es.toList.map (fun e => (e.key, e.val)) = kvs.map (fun p => (txt p.1, p.2)) ∧ MOk es.toList clock)
  role : o b = r
section
variable {P : Program} {o o' : Roles} {w w' : World} {r : List Nat} {b : Nat} {kvs : KV} {t kt e : TypeId}
theorem MBlk.lt (h : MBlk o w r b kvs) : b < w.heap.size := by
  obtain ⟨es, c, h1, _⟩ := h.heap
  exact (Array.getElem?_eq_some_iff.1 h1).1
theorem MBlk.keep {s : List Nat} (h : MBlk o w r b kvs) (st : Stp s o w o' w') (hn : ¬ s <+: r) : MBlk o' w' r b kvs := by
  refine ⟨?_, by rw [st.old b h.lt]; exact h.role⟩
  rw [st.block b h.lt (by rw [h.role]; exact hn)]; exact h.heap
theorem MBlk.below (h : MBlk o w r b kvs) (hb : Below w.heap.size w w') : MBlk o w' r b kvs := ⟨by rw [hb.block b h.lt]; exact h.heap, h.role⟩
theorem MBlk.drewN (h : MBlk o w r b kvs) (n : Nat) : MBlk o (w.drewN n) r b kvs := ⟨h.heap, h.role⟩
theorem MBlk.alloc (h : MBlk o w r b kvs) (x : Obj) (k : Nat) (s : List Nat) (hk : k = w.heap.size) : MBlk (o.put k s) (w.alloc x) r b kvs := by
  have hl := h.lt
  refine ⟨?_, by rw [Roles.put_other (by omega)]; exact h.role⟩
  rw [show (w.alloc x).heap[b]? = w.heap[b]? from Below.heap_alloc _ _ _ hl]
  exact h.heap
theorem MBlk.setCell (h : MBlk o w r b kvs) (a : Addr) (u : Value) (hn : o a.block ≠ r) : MBlk o (w.setCell a u) r b kvs :=
  ⟨by rw [Below.heap_setCell _ _ _ _ (fun e => hn (by rw [← e]; exact h.role))]; exact h.heap, h.role⟩
theorem MBlk.new (o : Roles) (w : World) (r : List Nat) (b : Nat) (hb : b = w.heap.size) : MBlk (o.put b r) (w.alloc (.map #[] 0)) r b [] := by
  subst hb
  exact ⟨⟨#[], 0, heap_alloc_new w _, rfl, by simp [MOk]⟩, Roles.put_same _ _ _⟩
theorem run_look (h : MBlk o w r b kvs) (ht : P.underlying t = some (.map kt e)) (hk : P.underlying kt = some .string) (k : List UInt8) (c : Bool) {z : Value} (hz : (zeroValue e).run P w = .ok z w) :
    (Instr.lookup t (.map (some b)) (txt k) c).run P w = .ok (if c then .tuple #[(mfind kvs k).getD z, .bool (mfind kvs k).isSome] else (mfind kvs k).getD z) w := by
  obtain ⟨es, clock, hb, hes, hok⟩ := h.heap
  have h1 := findNow_txt k es.toList kvs 0 hes
  rw [← midx_find]
  have hc : ∀ em n, (Instr.checkKey em (n + 1) kt (txt k)).run P w = .ok () w := fun em n => by
    unfold Instr.checkKey
    simp [Sem.run_bind, run_underlying hk, Result.andThen, txt]
  cases hm : midx kvs k with
  | none =>
    rw [hm] at h1
    simp [Instr.lookup, run_underlying ht, MapKept.run_getObj_map hb, hc, MapKept.run_findKey hk h1, hz, Result.andThen]
  | some y =>
    rw [hm] at h1
    simp [Instr.lookup, run_underlying ht, MapKept.run_getObj_map hb, hc, MapKept.run_findKey hk h1, Result.andThen]
theorem setBlock_heap {b k : Nat} {x : Obj} (hb : b < w.heap.size) : (setBlock w b x).heap[k]? = if k = b then some x else w.heap[k]? := by
  unfold setBlock
  simp only [Array.getElem?_setIfInBounds]
  by_cases h : b = k
  · subst h; simp [hb]
  · rw [if_neg h, if_neg (fun e => h e.symm)]
theorem Stp.setBlk {s : List Nat} (h : Stp s o w o' w') {b : Nat} (hb : s <+: o' b) (hl : b < w'.heap.size) (x : Obj) : Stp s o w o' (setBlock w' b x) :=
  h.trans ⟨rfl, rfl, rfl, by simp [Go.ChangeMaps.setBlock], fun _ _ => rfl, fun k _ hk => by
    rw [setBlock_heap hl, if_neg (fun e => hk (by rw [e]; exact hb))]⟩
theorem run_put (h : MBlk o w r b kvs) (ht : P.underlying t = some (.map kt e)) (hk : P.underlying kt = some .string) (k : List UInt8) (v : Value) :
    ∃ w', (Instr.mapUpdate t (.map (some b)) (txt k) v).run P w = .ok () w' ∧ MBlk o w' r b (mput kvs k v) ∧ Stp r o w o w' := by
  obtain ⟨es, clock, hb, hes, hok⟩ := h.heap
  have h1 := findNow_txt k es.toList kvs 0 hes
  have hl := h.lt
  have hc : ∀ em n, (Instr.checkKey em (n + 1) kt (txt k)).run P w = .ok () w := fun em n => by
    unfold Instr.checkKey
    simp [Sem.run_bind, run_underlying hk, Result.andThen, txt]
  cases hm : midx kvs k with
  | none =>
    rw [hm] at h1
    refine ⟨Go.ChangeMaps.setBlock w b (.map (es.push { key := txt k, val := v, born := clock }) (clock + 1)), ?_, ⟨⟨_, _, by rw [setBlock_heap hl, if_pos rfl], ?_⟩, h.role⟩, (Stp.refl r o w).setBlk (by rw [h.role]; exact List.prefix_refl _) hl _⟩
    · simp [Instr.mapUpdate, run_underlying ht, MapKept.run_getObj_map hb, hc, MapKept.run_findKey hk h1, MapKept.run_setObj_map _ hb, Result.andThen, Go.ChangeMaps.setBlock]
    · exact ⟨by rw [(midx_none hm).1]; simp [hes], hok.push _ _⟩
  | some y =>
    obtain ⟨j, u⟩ := y
    rw [hm] at h1
    obtain ⟨g1, g2, g3⟩ := midx_some hm
    have hlen : es.toList.length = kvs.length := by have := congrArg List.length hes; simpa using this
    have hj : j < kvs.length := (List.getElem?_eq_some_iff.1 g1).1
    have hje : j < es.size := by simp at hlen; omega
    have hkey : (es[j]'hje).key = txt k := by
      have := congrArg (fun l => l[j]?) hes
      simp [g1, hje] at this
      exact this.1
    have hst : (Instr.keyThatStays (txt k) (txt k)).run P w = .ok (txt k) w := by simp [Instr.keyThatStays, Instr.sameBits, txt, beq_bytes]
    refine ⟨Go.ChangeMaps.setBlock w b (.map (es.modify j fun e => { e with key := txt k, val := v }) clock), ?_, ⟨⟨_, _, by rw [setBlock_heap hl, if_pos rfl], ?_⟩, h.role⟩, (Stp.refl r o w).setBlk (by rw [h.role]; exact List.prefix_refl _) hl _⟩
    · simp [Instr.mapUpdate, run_underlying ht, MapKept.run_getObj_map hb, hc, MapKept.run_findKey hk h1, MapKept.run_setObj_map _ hb, Result.andThen, Go.ChangeMaps.setBlock, hje, hkey, hst]
    · refine ⟨?_, hok.modify _ _⟩
      rw [g2]
      apply List.ext_getElem?
      intro i
      have hi := congrArg (fun l => l[i]?) hes
      simp only [List.getElem?_map] at hi
      simp only [Array.toList_modify, List.getElem?_map, List.getElem?_modify, List.getElem?_set]
      by_cases hij : j = i
      · subst hij
        simp [hj, hje] at hi ⊢
      · simpa [hij] using hi
theorem run_del (h : MBlk o w r b kvs) (ht : P.underlying t = some (.map kt e)) (hk : P.underlying kt = some .string) (k : List UInt8) (ty kt' : TypeId) :
    ∃ w', (Builtin.delete_ #[t, kt'] ty #[.map (some b), txt k]).run P w = .ok (.tuple #[]) w' ∧ MBlk o w' r b (mdel kvs k) ∧ Stp r o w o w' := by
  obtain ⟨es, clock, hb, hes, hok⟩ := h.heap
  have h1 := findNow_txt k es.toList kvs 0 hes
  have hl := h.lt
  have hc : ∀ em n, (Instr.checkKey em (n + 1) kt (txt k)).run P w = .ok () w := fun em n => by
    unfold Instr.checkKey
    simp [Sem.run_bind, run_underlying hk, Result.andThen, txt]
  cases hm : midx kvs k with
  | none =>
    rw [hm] at h1
    refine ⟨Go.ChangeMaps.setBlock w b (.map es clock), ?_, ⟨⟨_, _, by rw [setBlock_heap hl, if_pos rfl], ?_⟩, h.role⟩, (Stp.refl r o w).setBlk (by rw [h.role]; exact List.prefix_refl _) hl _⟩
    · simp [Builtin.delete_, run_underlying ht, MapKept.run_getObj_map hb, hc, MapKept.run_findKey hk h1, MapKept.run_setObj_map _ hb, Result.andThen, Go.ChangeMaps.setBlock]
    · exact ⟨by rw [(midx_none hm).2]; exact hes, hok⟩
  | some y =>
    obtain ⟨j, u⟩ := y
    rw [hm] at h1
    obtain ⟨g1, g2, g3⟩ := midx_some hm
    have hlen : es.toList.length = kvs.length := by have := congrArg List.length hes; simpa using this
    have hj : j < kvs.length := (List.getElem?_eq_some_iff.1 g1).1
    have hje : j < es.size := by simp at hlen; omega
    have hsub : (es.eraseIdxIfInBounds j).toList = es.toList.eraseIdx j := by
      unfold Array.eraseIdxIfInBounds
      rw [dif_pos hje]
      simp
    refine ⟨Go.ChangeMaps.setBlock w b (.map (es.eraseIdxIfInBounds j) clock), ?_, ⟨⟨_, _, by rw [setBlock_heap hl, if_pos rfl], ?_⟩, h.role⟩, (Stp.refl r o w).setBlk (by rw [h.role]; exact List.prefix_refl _) hl _⟩
    · simp [Builtin.delete_, run_underlying ht, MapKept.run_getObj_map hb, hc, MapKept.run_findKey hk h1, MapKept.run_setObj_map _ hb, Result.andThen, Go.ChangeMaps.setBlock]
    · exact ⟨by rw [g3, hsub, map_eraseIdx, map_eraseIdx, hes], by rw [hsub]; exact hok.erase _⟩
end
section
variable {P : Program} {o : Roles} {w : World} {r : List Nat} {b : Nat} {kvs : KV} {kt e : TypeId}
/-- m[k] = v, at the operation. -/
theorem wpList_put {ops : Array Oper} {rest : List Oper} {op : Oper} {a : Act} {Q : Exit → Act → World → Prop} (hg : op.guard = none) (m x v : Operand) (t : TypeId) (hop : op.op = Op.mapUpdate t m x v)
    (ht : P.underlying t = some (.map kt e)) (hk : P.underlying kt = some .string) (h : MBlk o w r b kvs) (hm : a.eval m = .map (some b)) {k : List UInt8} (hx : a.eval x = txt k) {val : Value} (hv : a.eval v = val)
    (hK : ∀ w', MBlk o w' r b (mput kvs k val) → Stp r o w o w' → wpList P ops Q rest (a.put op.dst undef) w') : wpList P ops Q (op :: rest) a w := by
  refine wpList_plain hg fun K' hK' => ?_
  obtain ⟨w', hrun, r1, r2⟩ := run_put h ht hk k val
  unfold Oper.wp
  simp [execOp, hop, hm, hx, hv, hrun, Result.andThen]
  exact hK' _ _ (hK w' r1 r2)
/-- delete(m, k), at the operation. -/
theorem wpList_del {ops : Array Oper} {rest : List Oper} {op : Oper} {a : Act} {Q : Exit → Act → World → Prop} (hg : op.guard = none) (m x : Operand) (t kt' : TypeId) (hop : op.op = .call { callee := .builtin .delete, args := #[m, x], argTypes := #[t, kt'] })
    (ht : P.underlying t = some (.map kt e)) (hk : P.underlying kt = some .string) (h : MBlk o w r b kvs) (hm : a.eval m = .map (some b)) {k : List UInt8} (hx : a.eval x = txt k)
    (hK : ∀ w', MBlk o w' r b (mdel kvs k) → Stp r o w o w' → wpList P ops Q rest (a.put op.dst (.tuple #[])) w') : wpList P ops Q (op :: rest) a w := by
  refine wpList_plain hg fun K' hK' => ?_
  obtain ⟨w', hrun, r1, r2⟩ := run_del h ht hk k op.type kt'
  unfold Oper.wp execOp
  simp only [hop, resolve, invoke, builtin, Sem.run_bind, Sem.run_pure, Result.andThen_ok, List.map_toArray, List.map_cons, List.map_nil, hm, hx, hrun]
  exact hK' _ _ (hK w' r1 r2)
end
end Go.Proofs.YtcgecgilkapjaaaGreatDoor
/- Slices that are read: a view of the elements' places; fresh rows. No program is named. -/
namespace Go.Proofs.YtcgecgilkapjaaaGreatDoor
open Go Go.RowKit
theorem addr_add (b off k : Nat) : (⟨b, off, none⟩ : Addr).add k = ⟨b, off + k, none⟩ := by
  unfold Addr.add
  split
  · rename_i hk; subst hk; rfl
  · rfl
/-- The slice v of n elements, sz places each, reads as xs; its block is as A says. -/
structure Vw (A : Nat → Prop) (w : World) (v : Value) (sz n : Nat) (xs : List Value) : Prop where
  ex : ∃ a cap, v = .slice a n cap ∧ n ≤ cap ∧ cap ≤ maxLen ∧ (n = 0 ∨ ∃ b off, a = some ⟨b, off, none⟩ ∧ b < w.heap.size ∧ A b ∧ ∀ (k : Nat) u, xs[k]? = some u → w.cell? ⟨b, off + k, none⟩ = some u)
  len : xs.length = n * sz
section
variable {A B : Nat → Prop} {o o' : Roles} {w w' : World} {v : Value} {sz n : Nat} {xs : List Value} {r : List Nat} {e : TypeId}
theorem Vw.nil (A : Nat → Prop) (w : World) (sz : Nat) : Vw A w (.slice none 0 0) sz 0 [] := ⟨⟨none, 0, rfl, Nat.le_refl _, by simp, .inl rfl⟩, by simp⟩
theorem Vw.imp (h : Vw A w v sz n xs) (hA : ∀ b, A b → B b) : Vw B w v sz n xs := by
  obtain ⟨⟨a, cap, h1, h2, h3, h4⟩, h5⟩ := h
  refine ⟨⟨a, cap, h1, h2, h3, ?_⟩, h5⟩
  rcases h4 with h4 | ⟨b, off, g1, g2, g3, g4⟩
  · exact .inl h4
  · exact .inr ⟨b, off, g1, g2, hA b g3, g4⟩
theorem Vw.stay (h : Vw A w v sz n xs) (hs : w.heap.size ≤ w'.heap.size) (hb : ∀ b, A b → b < w.heap.size → w'.heap[b]? = w.heap[b]?) : Vw A w' v sz n xs := by
  obtain ⟨⟨a, cap, h1, h2, h3, h4⟩, h5⟩ := h
  refine ⟨⟨a, cap, h1, h2, h3, ?_⟩, h5⟩
  rcases h4 with h4 | ⟨b, off, g1, g2, g3, g4⟩
  · exact .inl h4
  · refine .inr ⟨b, off, g1, by omega, g3, fun k u hk => ?_⟩
    rw [← g4 k u hk]
    unfold World.cell?
    simp only [hb b g3 g2]
theorem Vw.below (h : Vw A w v sz n xs) (hB : Below w.heap.size w w') : Vw A w' v sz n xs := h.stay hB.size (fun b _ hb => hB.block b hb)
theorem Vw.drewN (h : Vw A w v sz n xs) (k : Nat) : Vw A (w.drewN k) v sz n xs := h.stay (Nat.le_refl _) (fun _ _ _ => rfl)
theorem Vw.keep {s : List Nat} (h : Vw (fun b => o b = r) w v sz n xs) (st : Stp s o w o' w') (hn : ¬ s <+: r) : Vw (fun b => o' b = r) w' v sz n xs := by
  obtain ⟨⟨a, cap, h1, h2, h3, h4⟩, h5⟩ := h
  refine ⟨⟨a, cap, h1, h2, h3, ?_⟩, h5⟩
  rcases h4 with h4 | ⟨b, off, g1, g2, g3, g4⟩
  · exact .inl h4
  · refine .inr ⟨b, off, g1, Nat.lt_of_lt_of_le g2 st.size, by rw [st.old b g2]; exact g3, fun k u hk => ?_⟩
    rw [← g4 k u hk]
    unfold World.cell?
    simp only [st.block b g2 (by rw [g3]; exact hn)]
theorem Vw.slice (h : Vw A w v sz n xs) : ∃ a cap, v = .slice a n cap ∧ n ≤ cap ∧ cap ≤ maxLen ∧ (n = 0 ∨ ∃ b off, a = some ⟨b, off, none⟩) := by
  obtain ⟨⟨a, cap, h1, h2, h3, h4⟩, h5⟩ := h
  exact ⟨a, cap, h1, h2, h3, h4.imp id fun ⟨b, off, g, _⟩ => ⟨b, off, g⟩⟩
theorem Row.vw (h : Row o w r e sz v n xs) : Vw (fun b => o b = r) w v sz n xs := by
  refine ⟨?_, h.len⟩
  rcases h.form with ⟨h1, h2, _⟩ | ⟨g, cap, cur, h1, hb, h3, h4, h5, h6⟩
  · exact ⟨none, 0, by rw [h1, h2], by omega, by simp, .inl h2⟩
  · refine ⟨_, cap, h1, h3, h4, .inr ⟨g, 0, rfl, hb.lt, hb.role, fun k u hk => ?_⟩⟩
    rw [Nat.zero_add, hb.cell, ← hk, ← h6, List.getElem?_take, if_pos (by have := (List.getElem?_eq_some_iff.1 hk).1; rw [h.len] at this; exact this)]
    simp
/-- A view as a source of an append. -/
theorem Vw.src {P : Program} {t e : TypeId} (h : Vw A w v sz n xs) (ht : P.underlying t = some (.slice e)) (h1 : ∀ u ∈ xs, u.oneCell' = true) : Src P sz t v n xs w := by
  obtain ⟨⟨a, cap, rfl, h2, h3, h4⟩, h5⟩ := h
  rcases h4 with rfl | ⟨b, off, rfl, g2, g3, g4⟩
  · have : xs = [] := List.eq_nil_of_length_eq_zero (by rw [h5]; simp)
    subst this
    cases a with
    | none => exact Src.ofNil _ ht cap
    | some a => exact Src.ofSlice _ ht _ _ _ _ (by simp) (fun j u hj => by simp at hj) (fun u hu => by simp at hu)
  · exact Src.ofSlice _ ht _ _ _ _ h5 (fun j u hj => by rw [addr_add]; exact g4 j u hj) h1
/-- A row all of whose places are new since w. -/
structure Fresh (w w' : World) (e : TypeId) (sz : Nat) (v : Value) (n : Nat) (xs : List Value) : Prop where
  own : w'.ownsRow w.heap.size e sz v n xs
  below : Below w.heap.size w w'
theorem Fresh.row (h : Fresh w w' e sz v n xs) (o : Roles) (r : List Nat) : ∃ o', Row o' w' r e sz v n xs ∧ ∀ s, Stp s o w o' w' := by
  have hb := h.below
  rcases h.own.2 with ⟨h1, h2⟩ | ⟨g, cap, cur, h1, h2, rest⟩
  · have hx : xs = [] := List.eq_nil_of_length_eq_zero (by rw [h.own.1, h2]; simp)
    subst h1 h2 hx
    exact ⟨o, Row.nil _ _ _ _ _, fun s => Stp.ofBelow s o hb⟩
  · refine ⟨o.put g r, ⟨⟨h.own.1, .inr ⟨g, cap, cur, h1, Nat.zero_le _, rest⟩⟩, fun k hk => ?_⟩, fun s => (Stp.ofBelow s o hb).name g r h2⟩
    rw [h1] at hk
    simp only [Value.ownBlock, Option.some.injEq] at hk
    subst hk; exact Roles.put_same _ _ _
theorem Fresh.vw (h : Fresh w w' e sz v n xs) : Vw (fun b => w.heap.size ≤ b) w' v sz n xs := by
  refine ⟨?_, h.own.1⟩
  rcases h.own.2 with ⟨h1, h2⟩ | ⟨g, cap, cur, h1, h2, h3, h4, h5, h6, h7⟩
  · exact ⟨none, 0, by rw [h1, h2], by omega, by simp, .inl h2⟩
  · refine ⟨_, cap, h1, h4, h5, .inr ⟨g, 0, rfl, (Array.getElem?_eq_some_iff.1 h3).1, h2, fun k u hk => ?_⟩⟩
    have hl := (List.getElem?_eq_some_iff.1 hk).1
    rw [h.own.1] at hl
    rw [Nat.zero_add]
    unfold World.cell?
    simp only [h3]
    rw [← hk, ← h7, List.getElem?_take, if_pos hl]
    simp
/-- An empty row in a new block. -/
theorem Row.empty (o : Roles) (w : World) (r : List Nat) (e : TypeId) (sz : Nat) : Row (o.put w.heap.size r) (w.alloc (.cells #[] e)) r e sz (.slice (some ⟨w.heap.size, 0, none⟩) 0 0) 0 [] := by
  refine ⟨⟨by simp, .inr ⟨w.heap.size, 0, #[], rfl, Nat.zero_le _, heap_alloc_new w _, Nat.le_refl _, by simp, by simp, by simp⟩⟩, fun g hg => ?_⟩
  simp only [Value.ownBlock, Option.some.injEq] at hg
  subst hg; exact Roles.put_same _ _ _
theorem Row.fresh {a : Nat} {t : List Nat} (h : Row o' w' (a :: t) e sz v n xs) (st : Stp (a :: t) none0 w o' w') : Fresh w w' e sz v n xs := by
  refine ⟨?_, st.below0⟩
  rcases h.own.2 with h1 | ⟨g, cap, cur, h1, h2, h3, rest⟩
  · exact ⟨h.own.1, .inl h1⟩
  · refine ⟨h.own.1, .inr ⟨g, cap, cur, h1, ?_, h3, rest⟩⟩
    rcases Nat.lt_or_ge g w.heap.size with hg | hg
    · have e1 := h.role g (by simp [h1, Value.ownBlock])
      rw [st.old g hg] at e1
      cases e1
    · exact hg
end
end Go.Proofs.YtcgecgilkapjaaaGreatDoor
namespace Go.Proofs.YtcgecgilkapjaaaGreatDoor
open Go Go.RowKit
theorem eq_nil {P : Program} {t e : TypeId} (h : P.underlying t = some (.slice e)) (a : Option Addr) (l c : Nat) (w : World) : (binOp .eql t (.slice a l c) (.slice none 0 0)).run P w = .ok (.bool a.isNone) w := Go.run_eql_slice_nil w t e a l c h
theorem cut_own {P : Program} {t e : TypeId} {i0 : TypeInfo} (ht : P.underlying t = some (.slice e)) (hi : P.info? e = some i0) {a : Option Addr} {n cap : Nat} (h : n ≤ cap) (W : World) :
    (Instr.slice t (.slice a n cap) none (some (.int .i64 n)) (some (.int .i64 n))).run P W = .ok (.slice a n n) W := by
  have ha : a.map (fun x => x.add 0) = a := by cases a <;> simp [Addr.add]
  simp [Instr.slice, run_underlying ht, Instr.sliceBounds, Instr.sliceBound, asIntOf, sizeOf, typeInfo, hi]
  rw [if_pos (by omega)]
  simp [ha]
theorem infoS : (Tryz.prog.info? 9).map (fun i => (i.zero, i.size, i.bytes)) = some (some (.string ⟨#[]⟩), 1, 16) := by kernel_rfl
set_option maxRecDepth 10000 in
theorem clipS_ok {A : Nat → Prop} {w : World} {v : Value} {n : Nat} {xs : List Value} (h : Vw A w v 1 n xs) : Calls Tryz.prog 78 #[v] w fun e w' => ∃ v', e = .returned v' ∧ w' = w ∧ Vw A w v' 1 n xs := by
  obtain ⟨⟨a, cap, rfl, h1, h2, h3⟩, h4⟩ := h
  obtain ⟨i0, hi0, _⟩ := info_parts infoS
  have hcut := cut_own (P := Tryz.prog) Tryz.underlying22 hi0 (a := a) h1
  have D : Vw A w (.slice a n n) 1 n xs := ⟨⟨a, n, rfl, Nat.le_refl _, by omega, h3⟩, h4⟩
  have HD := Lib.hid D
  clear D h3 h4
  go_enter Tryz.func78, Tryz.ntmps78
  go_wp2
  go_ret
  exact ⟨_, rfl, rfl, HD.out⟩
set_option maxRecDepth 10000 in
theorem cloneS_ok {A : Nat → Prop} {w : World} {v : Value} {n : Nat} {xs : List Value} (h : Vw A w v 1 n xs) (h1 : ∀ u ∈ xs, u.oneCell' = true) (hn : n ≤ 1099511627776) : Calls Tryz.prog 58 #[v] w fun e w' => ∃ v', e = .returned v' ∧ Fresh w w' 9 1 v' n xs := by
  have hsrc := h.src (P := Tryz.prog) Tryz.underlying22 h1
  have hsl := h.slice
  obtain ⟨a, cap, rfl, g1, g2, g3⟩ := hsl
  cases a with
  | none =>
    have hn0 : n = 0 := g3.resolve_right (fun ⟨b, off, hb⟩ => by cases hb)
    subst hn0
    have hx : xs = [] := List.eq_nil_of_length_eq_zero (by simpa using h.len)
    subst hx
    have HD := Lib.hid (show Fresh w w 9 1 (.slice none 0 0) 0 [] from ⟨World.ownsRow_nil _ _ _ _, Below.refl _ _⟩)
    have hnil := eq_nil (P := Tryz.prog) Tryz.underlying22 none 0 cap
    clear hsrc h
    go_enter Tryz.func58, Tryz.ntmps58
    go_wp2
    go_ret
    exact ⟨_, rfl, HD.out⟩
  | some a =>
    obtain ⟨i0, hi0, hz0, hz1, hz2⟩ := info_parts infoS
    have HR := Lib.hid (Row.empty none0 w [9] 9 1)
    have HST := Lib.hid ((Stp.refl [9] none0 w).alloc (r' := [9]) (.cells #[] 9) w.heap.size rfl)
    have HSR := Lib.hid ((h.below ((Below.refl w.heap.size w).alloc (Nat.le_refl _) (.cells #[] 9))).src (P := Tryz.prog) Tryz.underlying22 h1)
    have hnil := eq_nil (P := Tryz.prog) Tryz.underlying22 (some a) n cap
    clear hsrc h g3
    go_enter Tryz.func58, Tryz.ntmps58
    go_wp2_with (
      at_builtin
      refine wpList_app _ rfl _ _ 22 22 rfl 9 i0 _ 1 16 Tryz.underlying22 hi0 hz0 hz1 hz2 rfl rfl HR.out rfl HSR.out (by omega) (by omega) ?_
      intro v' w1 o1 hrow hst
      have HF := Lib.hid (hrow.fresh (HST.out.trans hst))
      clear hrow hst)
    go_ret
    have hF := HF.out
    rw [Nat.zero_add, List.nil_append] at hF
    exact ⟨_, rfl, hF⟩
theorem infoF : (Tryz.prog.info? 123).map (fun i => (i.zero, i.size, i.bytes)) = some (some (.agg #[.string ⟨#[]⟩, .string ⟨#[]⟩]), 2, 32) := by kernel_rfl
set_option maxRecDepth 10000 in
theorem clipF_ok {A : Nat → Prop} {w : World} {v : Value} {n : Nat} {xs : List Value} (h : Vw A w v 2 n xs) : Calls Tryz.prog 79 #[v] w fun e w' => ∃ v', e = .returned v' ∧ w' = w ∧ Vw A w v' 2 n xs := by
  obtain ⟨⟨a, cap, rfl, h1, h2, h3⟩, h4⟩ := h
  obtain ⟨i0, hi0, _⟩ := info_parts infoF
  have hcut := cut_own (P := Tryz.prog) Tryz.underlying77 hi0 (a := a) h1
  have D : Vw A w (.slice a n n) 2 n xs := ⟨⟨a, n, rfl, Nat.le_refl _, by omega, h3⟩, h4⟩
  have HD := Lib.hid D
  clear D h3 h4
  go_enter Tryz.func79, Tryz.ntmps79
  go_wp2
  go_ret
  exact ⟨_, rfl, rfl, HD.out⟩
set_option maxRecDepth 10000 in
theorem cloneF_ok {A : Nat → Prop} {w : World} {v : Value} {n : Nat} {xs : List Value} (h : Vw A w v 2 n xs) (h1 : ∀ u ∈ xs, u.oneCell' = true) (hn : n ≤ 1099511627776) : Calls Tryz.prog 80 #[v] w fun e w' => ∃ v', e = .returned v' ∧ Fresh w w' 123 2 v' n xs := by
  have hsrc := h.src (P := Tryz.prog) Tryz.underlying77 h1
  have hsl := h.slice
  obtain ⟨a, cap, rfl, g1, g2, g3⟩ := hsl
  cases a with
  | none =>
    have hn0 : n = 0 := g3.resolve_right (fun ⟨b, off, hb⟩ => by cases hb)
    subst hn0
    have hx : xs = [] := List.eq_nil_of_length_eq_zero (by simpa using h.len)
    subst hx
    have HD := Lib.hid (show Fresh w w 123 2 (.slice none 0 0) 0 [] from ⟨World.ownsRow_nil _ _ _ _, Below.refl _ _⟩)
    have hnil := eq_nil (P := Tryz.prog) Tryz.underlying77 none 0 cap
    clear hsrc h
    go_enter Tryz.func80, Tryz.ntmps80
    go_wp2
    go_ret
    exact ⟨_, rfl, HD.out⟩
  | some a =>
    obtain ⟨i0, hi0, hz0, hz1, hz2⟩ := info_parts infoF
    have HR := Lib.hid (Row.empty none0 w [9] 123 2)
    have HST := Lib.hid ((Stp.refl [9] none0 w).alloc (r' := [9]) (.cells #[] 123) w.heap.size rfl)
    have HSR := Lib.hid ((h.below ((Below.refl w.heap.size w).alloc (Nat.le_refl _) (.cells #[] 123))).src (P := Tryz.prog) Tryz.underlying77 h1)
    have hnil := eq_nil (P := Tryz.prog) Tryz.underlying77 (some a) n cap
    clear hsrc h g3
    go_enter Tryz.func80, Tryz.ntmps80
    go_wp2_with (
      at_builtin
      refine wpList_app _ rfl _ _ 77 77 rfl 123 i0 _ 2 32 Tryz.underlying77 hi0 hz0 hz1 hz2 rfl rfl HR.out rfl HSR.out (by omega) (by omega) ?_
      intro v' w1 o1 hrow hst
      have HF := Lib.hid (hrow.fresh (HST.out.trans hst))
      clear hrow hst)
    go_ret
    have hF := HF.out
    rw [Nat.zero_add, List.nil_append] at hF
    exact ⟨_, rfl, hF⟩
theorem infoR : (Tryz.prog.info? 126).map (fun i => (i.zero, i.size, i.bytes)) = some (some (.agg #[.string ⟨#[]⟩, .int .i64 0]), 2, 24) := by kernel_rfl
set_option maxRecDepth 10000 in
theorem clipR_ok {A : Nat → Prop} {w : World} {v : Value} {n : Nat} {xs : List Value} (h : Vw A w v 2 n xs) : Calls Tryz.prog 81 #[v] w fun e w' => ∃ v', e = .returned v' ∧ w' = w ∧ Vw A w v' 2 n xs := by
  obtain ⟨⟨a, cap, rfl, h1, h2, h3⟩, h4⟩ := h
  obtain ⟨i0, hi0, _⟩ := info_parts infoR
  have hcut := cut_own (P := Tryz.prog) Tryz.underlying78 hi0 (a := a) h1
  have D : Vw A w (.slice a n n) 2 n xs := ⟨⟨a, n, rfl, Nat.le_refl _, by omega, h3⟩, h4⟩
  have HD := Lib.hid D
  clear D h3 h4
  go_enter Tryz.func81, Tryz.ntmps81
  go_wp2
  go_ret
  exact ⟨_, rfl, rfl, HD.out⟩
set_option maxRecDepth 10000 in
theorem cloneR_ok {A : Nat → Prop} {w : World} {v : Value} {n : Nat} {xs : List Value} (h : Vw A w v 2 n xs) (h1 : ∀ u ∈ xs, u.oneCell' = true) (hn : n ≤ 1099511627776) : Calls Tryz.prog 82 #[v] w fun e w' => ∃ v', e = .returned v' ∧ Fresh w w' 126 2 v' n xs := by
  have hsrc := h.src (P := Tryz.prog) Tryz.underlying78 h1
  have hsl := h.slice
  obtain ⟨a, cap, rfl, g1, g2, g3⟩ := hsl
  cases a with
  | none =>
    have hn0 : n = 0 := g3.resolve_right (fun ⟨b, off, hb⟩ => by cases hb)
    subst hn0
    have hx : xs = [] := List.eq_nil_of_length_eq_zero (by simpa using h.len)
    subst hx
    have HD := Lib.hid (show Fresh w w 126 2 (.slice none 0 0) 0 [] from ⟨World.ownsRow_nil _ _ _ _, Below.refl _ _⟩)
    have hnil := eq_nil (P := Tryz.prog) Tryz.underlying78 none 0 cap
    clear hsrc h
    go_enter Tryz.func82, Tryz.ntmps82
    go_wp2
    go_ret
    exact ⟨_, rfl, HD.out⟩
  | some a =>
    obtain ⟨i0, hi0, hz0, hz1, hz2⟩ := info_parts infoR
    have HR := Lib.hid (Row.empty none0 w [9] 126 2)
    have HST := Lib.hid ((Stp.refl [9] none0 w).alloc (r' := [9]) (.cells #[] 126) w.heap.size rfl)
    have HSR := Lib.hid ((h.below ((Below.refl w.heap.size w).alloc (Nat.le_refl _) (.cells #[] 126))).src (P := Tryz.prog) Tryz.underlying78 h1)
    have hnil := eq_nil (P := Tryz.prog) Tryz.underlying78 (some a) n cap
    clear hsrc h g3
    go_enter Tryz.func82, Tryz.ntmps82
    go_wp2_with (
      at_builtin
      refine wpList_app _ rfl _ _ 78 78 rfl 126 i0 _ 2 24 Tryz.underlying78 hi0 hz0 hz1 hz2 rfl rfl HR.out rfl HSR.out (by omega) (by omega) ?_
      intro v' w1 o1 hrow hst
      have HF := Lib.hid (hrow.fresh (HST.out.trans hst))
      clear hrow hst)
    go_ret
    have hF := HF.out
    rw [Nat.zero_add, List.nil_append] at hF
    exact ⟨_, rfl, hF⟩
end Go.Proofs.YtcgecgilkapjaaaGreatDoor
namespace Go.Proofs.YtcgecgilkapjaaaGreatDoor
open Go Go.RowKit
/-! A value of a key: what it is, and value.Copy. -/
structure VV where
  kind : Int
  text : List UInt8
  list : List (List UInt8)
  fields : List (List UInt8 × List UInt8)
  ranked : List (List UInt8 × Int)
def fieldsC (l : List (List UInt8 × List UInt8)) : List Value := l.flatMap fun p => [txt p.1, txt p.2]
def rankedC (l : List (List UInt8 × Int)) : List Value := l.flatMap fun p => [txt p.1, .int .i64 p.2]
abbrev valV (V : VV) (l f r : Value) : Value := .agg #[.int .i64 V.kind, .string ⟨V.text.toArray⟩, l, f, r]
structure Val3 (A : Nat → Prop) (w : World) (V : VV) (l f r : Value) : Prop where
  list : Vw A w l 1 V.list.length (V.list.map txt)
  fields : Vw A w f 2 V.fields.length (fieldsC V.fields)
  ranked : Vw A w r 2 V.ranked.length (rankedC V.ranked)
structure VSmall (V : VV) : Prop where
  text : V.text.length ≤ 1099511627776
  list : V.list.length ≤ 1099511627776
  fields : V.fields.length ≤ 1099511627776
  ranked : V.ranked.length ≤ 1099511627776
theorem one_txts {α : Type} (f : α → List UInt8) (l : List α) : ∀ u ∈ l.map (fun x => txt (f x)), u.oneCell' = true := by
  intro u hu
  obtain ⟨x, _, rfl⟩ := List.mem_map.1 hu
  rfl
theorem one_list (l : List (List UInt8)) : ∀ u ∈ l.map txt, u.oneCell' = true := one_txts id l
theorem one_fields (l : List (List UInt8 × List UInt8)) : ∀ u ∈ fieldsC l, u.oneCell' = true := by
  intro u hu
  obtain ⟨x, _, hx⟩ := List.mem_flatMap.1 hu
  simp at hx
  rcases hx with rfl | rfl <;> rfl
theorem one_ranked (l : List (List UInt8 × Int)) : ∀ u ∈ rankedC l, u.oneCell' = true := by
  intro u hu
  obtain ⟨x, _, hx⟩ := List.mem_flatMap.1 hu
  simp at hx
  rcases hx with rfl | rfl <;> rfl
section
variable {A B : Nat → Prop} {o o' : Roles} {w w' : World} {V : VV} {l f r : Value} {q : List Nat}
theorem Val3.imp (h : Val3 A w V l f r) (hA : ∀ b, A b → B b) : Val3 B w V l f r := ⟨h.list.imp hA, h.fields.imp hA, h.ranked.imp hA⟩
theorem Val3.below (h : Val3 A w V l f r) (hB : Below w.heap.size w w') : Val3 A w' V l f r := ⟨h.list.below hB, h.fields.below hB, h.ranked.below hB⟩
theorem Val3.drewN (h : Val3 A w V l f r) (k : Nat) : Val3 A (w.drewN k) V l f r := ⟨h.list.drewN k, h.fields.drewN k, h.ranked.drewN k⟩
theorem Val3.keep {s : List Nat} (h : Val3 (fun b => o b = q) w V l f r) (st : Stp s o w o' w') (hn : ¬ s <+: q) : Val3 (fun b => o' b = q) w' V l f r := ⟨h.list.keep st hn, h.fields.keep st hn, h.ranked.keep st hn⟩
theorem Val3.stay (h : Val3 A w V l f r) (hs : w.heap.size ≤ w'.heap.size) (hb : ∀ b, A b → b < w.heap.size → w'.heap[b]? = w.heap[b]?) : Val3 A w' V l f r := ⟨h.list.stay hs hb, h.fields.stay hs hb, h.ranked.stay hs hb⟩
end
def CopyDid (w : World) (V : VV) (e : Ending) (w' : World) : Prop :=
  ∃ l f r, e = .returned (valV V l f r) ∧ Val3 (fun b => w.heap.size ≤ b) w' V l f r ∧ Below w.heap.size w w'
theorem heap_set_far {w : World} {a : Addr} {v : Value} {b : Nat} (h : b ≠ a.block) : (w.setCell a v).heap[b]? = w.heap[b]? := Below.heap_setCell _ _ _ _ h
set_option maxRecDepth 10000 in
set_option maxHeartbeats 1000000 in
theorem copy_ok {A : Nat → Prop} {w : World} {V : VV} {l f r : Value} (h : Val3 A w V l f r) (hs : VSmall V) : Calls Tryz.prog 42 #[valV V l f r] w (CopyDid w V) := by
  obtain ⟨kind, text, list, fields, ranked⟩ := V
  obtain ⟨hl, hf, hr⟩ := h
  obtain ⟨_, hs1, hs2, hs3⟩ := hs
  dsimp only at hl hf hr hs1 hs2 hs3
  have HF := Lib.hid hf
  have HR := Lib.hid hr
  let W1 : World := (w.alloc (.cells #[.int .i64 kind, .string ⟨text.toArray⟩, l, f, r] 80)).alloc (.cells #[.int .i64 0, .string ⟨#[]⟩, .slice none 0 0, .slice none 0 0, .slice none 0 0] 80)
  have hB1 : Below w.heap.size w W1 := ((Below.refl w.heap.size w).alloc (Nat.le_refl _) _).alloc (by simp) _
  have hz1 : W1.heap.size = w.heap.size + 2 := by simp [W1]
  have hb1 : Blk none0 W1 [] w.heap.size #[.int .i64 kind, .string ⟨text.toArray⟩, l, f, r] 80 := ⟨by rw [Below.heap_alloc _ _ _ (by simp)]; exact heap_alloc_new w _, rfl⟩
  have hd1 : Blk none0 W1 [] (w.heap.size + 1) #[.int .i64 0, .string ⟨#[]⟩, .slice none 0 0, .slice none 0 0, .slice none 0 0] 80 := ⟨by rw [show w.heap.size + 1 = (w.alloc (.cells #[.int .i64 kind, .string ⟨text.toArray⟩, l, f, r] 80)).heap.size from by simp]; exact heap_alloc_new _ _, rfl⟩
  have HC1 := Lib.hid (cloneS_ok (hl.below hB1) (one_list list) hs1)
  have HB1 := Lib.hid hB1
  have HZ1 := Lib.hid hz1
  have Hb1 := Lib.hid hb1
  have Hd1 := Lib.hid hd1
  have hc1 := hb1.cell
  clear hl hf hr hB1 hz1 hb1 hd1
  go_enter Tryz.func42, Tryz.ntmps42
  go_wp2_with fail
  refine HC1.out.mono ?_; rintro e w2a ⟨l1, rfl, hF1⟩
  have HF1 := Lib.hid hF1
  clear hF1 hc1 HC1
  go_wp2_with fail
  refine (clipS_ok HF1.out.vw).mono ?_; rintro e w2 ⟨_, rfl, rfl, hv2⟩
  obtain ⟨a2, c2, rfl, _, _, _⟩ := id hv2.slice
  have hb2 := Hb1.out.below HF1.out.below
  have hd2 := Hd1.out.below HF1.out.below
  have hz2 : w.heap.size + 2 ≤ w2.heap.size := by have := HF1.out.below.size; have := HZ1.out; omega
  have hB2 : Below w.heap.size w w2 := HB1.out.trans (HF1.out.below.mono (by have := HZ1.out; omega))
  have hl3 : Vw (fun b => w.heap.size + 2 ≤ b) (w2.setCell ⟨w.heap.size, 2, none⟩ (.slice a2 list.length c2)) (.slice a2 list.length c2) 1 list.length (list.map txt) :=
    (hv2.imp (fun b hb => by have := HZ1.out; omega)).stay (by simp) (fun b hb _ => heap_set_far (by show b ≠ w.heap.size; omega))
  have hB3 : Below w.heap.size w (w2.setCell ⟨w.heap.size, 2, none⟩ (.slice a2 list.length c2)) := hB2.setCell (Nat.le_refl _) _
  have hc2 := hb2.cell
  have hfr2 := hb2.free
  have HC2 := Lib.hid (cloneF_ok (HF.out.below hB3) (one_fields fields) hs2)
  have Hb3 := Lib.hid (hb2.setCell 2 (.slice a2 list.length c2))
  have Hd3 := Lib.hid (hd2.setOther ⟨w.heap.size, 2, none⟩ (.slice a2 list.length c2) (by simp))
  have HL3 := Lib.hid hl3
  have HB3 := Lib.hid hB3
  clear hv2 hb2 hd2 hB2 hl3 hB3 HF1 Hb1 Hd1 HB1
  go_wp2_with fail
  refine HC2.out.mono ?_; rintro e w4a ⟨f1, rfl, hF1⟩
  have HF1 := Lib.hid hF1
  clear hF1 HC2 hc2 hfr2
  go_wp2_with fail
  refine (clipF_ok HF1.out.vw).mono ?_; rintro e w4 ⟨_, rfl, rfl, hv2⟩
  obtain ⟨a4, c4, rfl, _, _, _⟩ := id hv2.slice
  have hb2 := Hb3.out.below HF1.out.below
  have hd2 := Hd3.out.below HF1.out.below
  have hl4 := HL3.out.below HF1.out.below
  have hs4 : w2.heap.size ≤ w4.heap.size := by have := HF1.out.below.size; simpa using this
  have hB2 : Below w.heap.size w w4 := HB3.out.trans (HF1.out.below.mono (by simp; omega))
  have hl5 : Vw (fun b => w.heap.size + 2 ≤ b) (w4.setCell ⟨w.heap.size, 3, none⟩ (.slice a4 fields.length c4)) (.slice a2 list.length c2) 1 list.length (list.map txt) :=
    hl4.stay (by simp) (fun b hb _ => heap_set_far (by show b ≠ w.heap.size; omega))
  have hf5 : Vw (fun b => w.heap.size + 2 ≤ b) (w4.setCell ⟨w.heap.size, 3, none⟩ (.slice a4 fields.length c4)) (.slice a4 fields.length c4) 2 fields.length (fieldsC fields) :=
    (hv2.imp (fun b hb => by simp at hb; omega)).stay (by simp) (fun b hb _ => heap_set_far (by show b ≠ w.heap.size; omega))
  have hB5 : Below w.heap.size w (w4.setCell ⟨w.heap.size, 3, none⟩ (.slice a4 fields.length c4)) := hB2.setCell (Nat.le_refl _) _
  have hc4 := hb2.cell
  have hfr4 := hb2.free
  have HC3 := Lib.hid (cloneR_ok (HR.out.below hB5) (one_ranked ranked) hs3)
  have Hb5 := Lib.hid (hb2.setCell 3 (.slice a4 fields.length c4))
  have Hd5 := Lib.hid (hd2.setOther ⟨w.heap.size, 3, none⟩ (.slice a4 fields.length c4) (by simp))
  have HL5 := Lib.hid hl5
  have HF5 := Lib.hid hf5
  have HB5 := Lib.hid hB5
  clear hv2 hb2 hd2 hB2 hl4 hl5 hf5 hB5 HF1 Hb3 Hd3 HL3 HB3
  go_wp2_with fail
  refine HC3.out.mono ?_; rintro e w6a ⟨r1, rfl, hF1⟩
  have HF1 := Lib.hid hF1
  clear hF1 HC3 hc4 hfr4
  go_wp2_with fail
  refine (clipR_ok HF1.out.vw).mono ?_; rintro e w6 ⟨_, rfl, rfl, hv2⟩
  obtain ⟨a6, c6, rfl, _, _, _⟩ := id hv2.slice
  have hb2 := Hb5.out.below HF1.out.below
  have hd2 := Hd5.out.below HF1.out.below
  have hs6 : w4.heap.size ≤ w6.heap.size := by have := HF1.out.below.size; simpa using this
  have hB2 : Below w.heap.size w w6 := HB5.out.trans (HF1.out.below.mono (by simp; omega))
  have hv6 : Val3 (fun b => w.heap.size + 2 ≤ b) w6 ⟨kind, text, list, fields, ranked⟩ (.slice a2 list.length c2) (.slice a4 fields.length c4) (.slice a6 ranked.length c6) :=
    ⟨HL5.out.below HF1.out.below, HF5.out.below HF1.out.below, hv2.imp (fun b hb => by simp at hb; omega)⟩
  have hc6 := hb2.cell
  have hfr6 := hb2.free
  have hcd6 := hd2.cell
  have hfd6 := hd2.free
  have HV6 := Lib.hid hv6
  have HB6 := Lib.hid hB2
  clear hv2 hb2 hd2 hB2 hv6 HF1 Hb5 Hd5 HL5 HF5 HB5
  go_wp2_with fail
  refine bodyPost_ret (v := valV ⟨kind, text, list, fields, ranked⟩ (.slice a2 list.length c2) (.slice a4 fields.length c4) (.slice a6 ranked.length c6)) (by simp [results, Tryz.results42, go_sem, valV, hcd6]) rfl ⟨_, _, _, rfl, ?_, ?_⟩
  · refine (HV6.out.stay (by simp) (fun b hb _ => ?_)).imp (fun b hb => Nat.le_trans (Nat.le_add_right _ _) hb)
    iterate 5 rw [heap_set_far (by show b ≠ w.heap.size + 1; omega)]
    rw [heap_set_far (by show b ≠ w.heap.size; omega)]
  · iterate 6 refine Below.setCell ?_ (by simp) _
    exact HB6.out
end Go.Proofs.YtcgecgilkapjaaaGreatDoor
