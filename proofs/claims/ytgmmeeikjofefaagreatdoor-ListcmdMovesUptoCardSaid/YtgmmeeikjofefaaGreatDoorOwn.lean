/- Who owns which block: a map of roles beside the world; what a step may change. No program is named here. -/
import Derived.WalkKit
import Derived.Deep.AppendLies
import Derived.Deep.Draws
import Derived.Deep.AppendSrc
import Derived.RegionTactic
namespace Go.Proofs.YtgmmeeikjofefaaGreatDoor
open Go Go.RowKit

abbrev Roles := Nat → List Nat

/-- From (o, w) to (o', w'): only blocks whose role begins with r were written; new blocks may have come. -/
structure Stp (r : List Nat) (o : Roles) (w : World) (o' : Roles) (w' : World) : Prop where
  os : w'.os = w.os
  tape : w'.tape = w.tape
  output : w'.output = w.output
  size : w.heap.size ≤ w'.heap.size
  old : ∀ b, b < w.heap.size → o' b = o b
  block : ∀ b, b < w.heap.size → ¬ r <+: o b → w'.heap[b]? = w.heap[b]?

theorem Stp.refl (r : List Nat) (o : Roles) (w : World) : Stp r o w o w := ⟨rfl, rfl, rfl, Nat.le_refl _, fun _ _ => rfl, fun _ _ _ => rfl⟩

theorem Stp.trans {r : List Nat} {o o1 o2 : Roles} {w w1 w2 : World} (h : Stp r o w o1 w1) (k : Stp r o1 w1 o2 w2) : Stp r o w o2 w2 :=
  ⟨k.os.trans h.os, k.tape.trans h.tape, k.output.trans h.output, Nat.le_trans h.size k.size,
   fun b hb => (k.old b (Nat.lt_of_lt_of_le hb h.size)).trans (h.old b hb),
   fun b hb hr => (k.block b (Nat.lt_of_lt_of_le hb h.size) (by rw [h.old b hb]; exact hr)).trans (h.block b hb hr)⟩

theorem Stp.wide {r r' : List Nat} {o o' : Roles} {w w' : World} (h : Stp r o w o' w') (hr : r' <+: r) : Stp r' o w o' w' :=
  ⟨h.os, h.tape, h.output, h.size, h.old, fun b hb hn => h.block b hb (fun hp => hn (hr.trans hp))⟩

theorem Stp.drewN {r : List Nat} {o o' : Roles} {w w' : World} (h : Stp r o w o' w') (n : Nat) : Stp r o w o' (w'.drewN n) :=
  ⟨h.os, h.tape, h.output, h.size, h.old, h.block⟩
theorem Stp.drew {r : List Nat} {o o' : Roles} {w w' : World} (h : Stp r o w o' w') : Stp r o w o' w'.drew :=
  ⟨h.os, h.tape, h.output, h.size, h.old, h.block⟩
theorem Stp.fromN {r : List Nat} {o o' : Roles} {w w' : World} {n : Nat} (h : Stp r o (w.drewN n) o' w') : Stp r o w o' w' :=
  ⟨h.os, h.tape, h.output, h.size, h.old, h.block⟩
theorem Stp.from1 {r : List Nat} {o o' : Roles} {w w' : World} (h : Stp r o w.drew o' w') : Stp r o w o' w' :=
  ⟨h.os, h.tape, h.output, h.size, h.old, h.block⟩

/-- One role more: block b gets the role r. -/
def Roles.put (o : Roles) (b : Nat) (r : List Nat) : Roles := fun k => if k = b then r else o k
theorem Roles.put_same (o : Roles) (b : Nat) (r : List Nat) : o.put b r b = r := by simp [Roles.put]
theorem Roles.put_other {o : Roles} {b k : Nat} {r : List Nat} (h : k ≠ b) : o.put b r k = o k := by simp [Roles.put, h]

/-- A new block, with a role of its own. -/
theorem Stp.alloc {r r' : List Nat} {o o' : Roles} {w w' : World} (h : Stp r o w o' w') (x : Obj) (b : Nat) (hb : b = w'.heap.size) : Stp r o w (o'.put b r') (w'.alloc x) :=
  h.trans ⟨rfl, rfl, rfl, by simp, fun k hk => Roles.put_other (by omega), fun k hk _ => Below.heap_alloc _ _ _ hk⟩

/-- A store into a block of the role. -/
theorem Stp.setCell {r : List Nat} {o o' : Roles} {w w' : World} (h : Stp r o w o' w') {a : Addr} (ha : r <+: o' a.block) (v : Value) : Stp r o w o' (w'.setCell a v) :=
  h.trans ⟨rfl, rfl, rfl, by simp, fun _ _ => rfl, fun k _ hn => Below.heap_setCell _ _ _ _ (fun e => hn (e ▸ ha))⟩

/-- A step that the kit's laws tell by 'grownBy'. -/
theorem Stp.grown {r : List Nat} {o o' : Roles} {w w' w2 : World} {row : Option Nat} (h : Stp r o w o' w') (hg : w'.grownBy w2 row) (hr : ∀ k, row = some k → r <+: o' k) : Stp r o w o' w2 :=
  h.trans ⟨hg.os, hg.tape, hg.output, hg.size, fun _ _ => rfl, fun k hk hn => hg.block k hk (fun e => hn (hr k e.symm))⟩

/-- A role for blocks that were not there at the start. -/
theorem Stp.name {r : List Nat} {o o' : Roles} {w w' : World} (h : Stp r o w o' w') (b : Nat) (r' : List Nat) (hb : w.heap.size ≤ b) : Stp r o w (o'.put b r') w' :=
  ⟨h.os, h.tape, h.output, h.size, fun k hk => by rw [Roles.put_other (by omega)]; exact h.old k hk, h.block⟩

/-- Two roles that have nothing to do with one another. -/
def Apart (r s : List Nat) : Prop := ∀ t, ¬ r <+: s ++ t
theorem Apart.head {a b : Nat} (h : a ≠ b) (r s : List Nat) : Apart (a :: r) (b :: s) := fun t hp => by
  rw [List.cons_append, List.cons_prefix_cons] at hp; exact h hp.1
theorem Apart.tail {r s : List Nat} (h : Apart r s) (a : Nat) : Apart (a :: r) (a :: s) := fun t hp => by
  rw [List.cons_append, List.cons_prefix_cons] at hp; exact h t hp.2
theorem Apart.both {r s : List Nat} (h : Apart r s) (q : List Nat) : Apart (q ++ r) (q ++ s) := fun t hp => by
  rw [List.append_assoc, List.prefix_append_right_inj] at hp; exact h t hp
theorem Apart.more {r s : List Nat} (h : Apart r s) (t : List Nat) : Apart r (s ++ t) := fun u hp => by
  rw [List.append_assoc] at hp; exact h _ hp
theorem Apart.not {r s : List Nat} (h : Apart r s) : ¬ r <+: s := fun hp => h [] (by simpa using hp)

/-- Block b has the role r and holds cs. -/
structure Blk (o : Roles) (w : World) (r : List Nat) (b : Nat) (cs : Array Value) (T : TypeId) : Prop where
  heap : w.heap[b]? = some (.cells cs T (0, 0))
  role : o b = r

theorem Blk.lt {o : Roles} {w : World} {r : List Nat} {b : Nat} {cs : Array Value} {T : TypeId} (h : Blk o w r b cs T) : b < w.heap.size :=
  (Array.getElem?_eq_some_iff.1 h.heap).1
theorem Blk.keep {r : List Nat} {o o' : Roles} {w w' : World} {s : List Nat} {b : Nat} {cs : Array Value} {T : TypeId} (h : Blk o w s b cs T) (st : Stp r o w o' w') (hn : ¬ r <+: s) : Blk o' w' s b cs T :=
  ⟨by rw [st.block b h.lt (by rw [h.role]; exact hn)]; exact h.heap, by rw [st.old b h.lt]; exact h.role⟩
theorem Blk.cell {o : Roles} {w : World} {r : List Nat} {b : Nat} {cs : Array Value} {T : TypeId} (h : Blk o w r b cs T) (k : Nat) : w.cell? ⟨b, k, none⟩ = cs[k]? := by
  simp [World.cell?, h.heap]
theorem Blk.free {o : Roles} {w : World} {r : List Nat} {b : Nat} {cs : Array Value} {T : TypeId} (h : Blk o w r b cs T) (k : Nat) : w.frozen? ⟨b, k, none⟩ = false := by
  simp [World.frozen?, h.heap]
theorem Blk.drewN {o : Roles} {w : World} {r : List Nat} {b : Nat} {cs : Array Value} {T : TypeId} (h : Blk o w r b cs T) (n : Nat) : Blk o (w.drewN n) r b cs T := ⟨h.heap, h.role⟩
theorem Blk.drew {o : Roles} {w : World} {r : List Nat} {b : Nat} {cs : Array Value} {T : TypeId} (h : Blk o w r b cs T) : Blk o w.drew r b cs T := ⟨h.heap, h.role⟩
theorem Blk.setCell {o : Roles} {w : World} {r : List Nat} {b : Nat} {cs : Array Value} {T : TypeId} (h : Blk o w r b cs T) (k : Nat) (v : Value) : Blk o (w.setCell ⟨b, k, none⟩ v) r b (cs.setIfInBounds k v) T :=
  ⟨by simp [World.setCell, Array.getElem?_modify, h.heap], h.role⟩
theorem Blk.setOther {o : Roles} {w : World} {r : List Nat} {b : Nat} {cs : Array Value} {T : TypeId} (h : Blk o w r b cs T) (a : Addr) (v : Value) (hn : b ≠ a.block) : Blk o (w.setCell a v) r b cs T :=
  ⟨by rw [Below.heap_setCell _ _ _ _ hn]; exact h.heap, h.role⟩
theorem Blk.new (o : Roles) (w : World) (r : List Nat) (cs : Array Value) (T : TypeId) (b : Nat) (hb : b = w.heap.size) : Blk (o.put b r) (w.alloc (.cells cs T)) r b cs T :=
  ⟨by subst hb; exact heap_alloc_new w _, Roles.put_same _ _ _⟩
theorem Blk.alloc {o : Roles} {w : World} {s : List Nat} {b : Nat} {cs : Array Value} {T : TypeId} (h : Blk o w s b cs T) (x : Obj) (k : Nat) (r : List Nat) (hk : k = w.heap.size) : Blk (o.put k r) (w.alloc x) s b cs T :=
  ⟨by rw [Below.heap_alloc _ _ _ h.lt]; exact h.heap, by have := h.lt; rw [Roles.put_other (by omega)]; exact h.role⟩
theorem Blk.put {o : Roles} {w : World} {s : List Nat} {b : Nat} {cs : Array Value} {T : TypeId} (h : Blk o w s b cs T) (k : Nat) (r : List Nat) (hk : w.heap.size ≤ k) : Blk (o.put k r) w s b cs T :=
  ⟨h.heap, by have := h.lt; rw [Roles.put_other (by omega)]; exact h.role⟩
theorem Blk.ne {o : Roles} {w : World} {r s : List Nat} {b c : Nat} {cs ds : Array Value} {T U : TypeId} (h : Blk o w r b cs T) (k : Blk o w s c ds U) (hn : r ≠ s) : b ≠ c := by
  intro e; subst e; exact hn (h.role.symm.trans k.role)

/-- The slice v, of elements of sz places each of element type e, holds the places xs, n elements, in a row of role r (or is nil). -/
structure Row (o : Roles) (w : World) (r : List Nat) (e : TypeId) (sz : Nat) (v : Value) (n : Nat) (xs : List Value) : Prop where
  own : w.ownsRow 0 e sz v n xs
  role : ∀ g, v.ownBlock = some g → o g = r

section
variable {o o' : Roles} {w w' : World} {r s : List Nat} {e : TypeId} {sz n : Nat} {v : Value} {xs : List Value}
theorem Row.lt (h : Row o w s e sz v n xs) : ∀ g, v.ownBlock = some g → g < w.heap.size := fun g hg => (h.own.lt g hg).2
theorem Row.nil (o : Roles) (w : World) (r : List Nat) (e : TypeId) (sz : Nat) : Row o w r e sz (.slice none 0 0) 0 [] := ⟨World.ownsRow_nil _ _ _ _, fun g hg => by simp [Value.ownBlock] at hg⟩
theorem Row.len (h : Row o w s e sz v n xs) : xs.length = n * sz := h.own.1
theorem ownsRow_agree {base : Nat} (h : w.ownsRow base e sz v n xs) (hb : ∀ g, v.ownBlock = some g → w'.heap[g]? = w.heap[g]?) : w'.ownsRow base e sz v n xs := by
  refine ⟨h.1, ?_⟩
  rcases h.2 with hn | ⟨g, cap, cur, rfl, h1, h2, rest⟩
  · exact .inl hn
  · exact .inr ⟨g, cap, cur, rfl, h1, by rw [hb g (by simp [Value.ownBlock])]; exact h2, rest⟩
theorem Row.keep (h : Row o w s e sz v n xs) (st : Stp r o w o' w') (hn : ¬ r <+: s) : Row o' w' s e sz v n xs :=
  ⟨ownsRow_agree h.own fun g hg => st.block g (h.lt g hg) (by rw [h.role g hg]; exact hn), fun g hg => by rw [st.old g (h.lt g hg)]; exact h.role g hg⟩
theorem Row.drewN (h : Row o w s e sz v n xs) (k : Nat) : Row o (w.drewN k) s e sz v n xs := ⟨h.own, h.role⟩
theorem Row.drew (h : Row o w s e sz v n xs) : Row o w.drew s e sz v n xs := ⟨h.own, h.role⟩
theorem Row.setCell (h : Row o w s e sz v n xs) (a : Addr) (u : Value) (hn : o a.block ≠ s) : Row o (w.setCell a u) s e sz v n xs :=
  ⟨ownsRow_agree h.own fun g hg => Below.heap_setCell _ _ _ _ (fun e => hn (by rw [← e]; exact h.role g hg)), h.role⟩
theorem Row.alloc (h : Row o w s e sz v n xs) (x : Obj) (k : Nat) (r : List Nat) (hk : k = w.heap.size) : Row (o.put k r) (w.alloc x) s e sz v n xs :=
  ⟨h.own.alloc x, fun g hg => by have := h.lt g hg; rw [Roles.put_other (by omega)]; exact h.role g hg⟩
theorem Row.put (h : Row o w s e sz v n xs) (k : Nat) (r : List Nat) (hk : w.heap.size ≤ k) : Row (o.put k r) w s e sz v n xs :=
  ⟨h.own, fun g hg => by have := h.lt g hg; rw [Roles.put_other (by omega)]; exact h.role g hg⟩
/-- What such a value looks like. -/
theorem Row.form (h : Row o w s e sz v n xs) :
    (v = .slice none 0 0 ∧ n = 0 ∧ xs = []) ∨ ∃ g cap cur, v = .slice (some ⟨g, 0, none⟩) n cap ∧ Blk o w s g cur e ∧ n ≤ cap ∧ cap ≤ maxLen ∧ cur.size = cap * sz ∧ cur.toList.take (n * sz) = xs := by
  rcases h.own.2 with ⟨h1, h2⟩ | ⟨g, cap, cur, hv, _, hg, hn, hm, hs, ht⟩
  · exact .inl ⟨h1, h2, List.eq_nil_of_length_eq_zero (by rw [h.own.1, h2]; simp)⟩
  · exact .inr ⟨g, cap, cur, hv, ⟨hg, h.role g (by simp [hv, Value.ownBlock])⟩, hn, hm, hs, ht⟩
theorem Row.slice (h : Row o w s e sz v n xs) : ∃ a cap, v = .slice a n cap ∧ n ≤ cap ∧ cap ≤ maxLen ∧ (a = none → n = 0 ∧ xs = [] ∧ cap = 0) := by
  rcases h.form with ⟨h1, h2, h3⟩ | ⟨g, cap, cur, h1, _, h3, h4, _⟩
  · exact ⟨none, 0, by simp [h1, h2], by simp [h2], by simp, fun _ => ⟨h2, h3, rfl⟩⟩
  · exact ⟨_, cap, h1, h3, h4, fun h => by cases h⟩
/-- An element's place. -/
theorem Row.at (h : Row o w s e sz v n xs) {k : Nat} (hk : k < n * sz) : ∃ g cap, v = .slice (some ⟨g, 0, none⟩) n cap ∧ o g = s ∧ w.cell? ⟨g, k, none⟩ = xs[k]? ∧ w.frozen? ⟨g, k, none⟩ = false := by
  rcases h.form with ⟨_, h2, _⟩ | ⟨g, cap, cur, h1, hb, h3, h4, h5, h6⟩
  · subst h2; simp at hk
  · refine ⟨g, cap, h1, hb.role, ?_, hb.free k⟩
    rw [hb.cell, ← h6, List.getElem?_take, if_pos hk]
    simp
end

/-! ### New blocks alone -/
theorem Stp.ofBelow (r : List Nat) (o : Roles) {w w' : World} (h : Below w.heap.size w w') : Stp r o w o w' := ⟨h.os, h.tape, h.output, h.size, fun _ _ => rfl, fun b hb _ => h.block b hb⟩
theorem Blk.below {o : Roles} {w w' : World} {r : List Nat} {b : Nat} {cs : Array Value} {T : TypeId} (h : Blk o w r b cs T) (hb : Below w.heap.size w w') : Blk o w' r b cs T := ⟨by rw [hb.block b h.lt]; exact h.heap, h.role⟩
theorem Row.below {o : Roles} {w w' : World} {s : List Nat} {e : TypeId} {sz n : Nat} {v : Value} {xs : List Value} (h : Row o w s e sz v n xs) (hb : Below w.heap.size w w') : Row o w' s e sz v n xs := ⟨ownsRow_agree h.own fun g hg => hb.block g (h.lt g hg), h.role⟩
theorem below_drewN {B : Nat} {a w : World} (h : Below B a w) (q : Nat) : Below B a (w.drewN q) := ⟨h.os, h.tape, h.output, h.size, h.block⟩

def none0 : Roles := fun _ => []
/-- From a world without roles: all that was there is as it was. -/
theorem Stp.below0 {a : Nat} {r : List Nat} {o' : Roles} {w w' : World} (h : Stp (a :: r) none0 w o' w') : Below w.heap.size w w' :=
  ⟨h.os, h.tape, h.output, h.size, fun b hb => h.block b hb (by simp [none0])⟩

/-! ### append -/
def setMany : Array Value → Nat → List Value → Array Value
  | c, _, [] => c
  | c, o, v :: r => setMany (c.setIfInBounds o v) (o + 1) r
theorem setMany_size : ∀ (vs : List Value) (c : Array Value) (o : Nat), (setMany c o vs).size = c.size
  | [], _, _ => rfl
  | v :: r, c, o => by rw [setMany, setMany_size r]; simp
theorem setMany_get : ∀ (vs : List Value) (c : Array Value) (o : Nat), o + vs.length ≤ c.size → ∀ k, (setMany c o vs)[k]? = if k < o then c[k]? else if k < o + vs.length then vs[k - o]? else c[k]?
  | [], c, o, _, k => by simp only [setMany, List.length_nil, Nat.add_zero]; split <;> (try split) <;> first | rfl | omega
  | v :: r, c, o, h, k => by
    simp only [List.length_cons] at h
    rw [setMany, setMany_get r (c.setIfInBounds o v) (o + 1) (by simp; omega) k]
    simp only [List.length_cons]
    rcases Nat.lt_trichotomy k o with hk | hk | hk
    · rw [if_pos (show k < o + 1 by omega), if_pos hk, Array.getElem?_setIfInBounds, if_neg (by omega)]
    · subst hk
      rw [if_pos (show k < k + 1 by omega), if_neg (show ¬ k < k by omega), if_pos (show k < k + (r.length + 1) by omega), Array.getElem?_setIfInBounds, if_pos rfl, if_pos (by omega)]
      simp
    · rw [if_neg (show ¬ k < o + 1 by omega), if_neg (show ¬ k < o by omega)]
      by_cases h2 : k < o + 1 + r.length
      · rw [if_pos h2, if_pos (by omega)]
        have : k - o = (k - (o + 1)) + 1 := by omega
        rw [this, List.getElem?_cons_succ]
      · rw [if_neg h2, if_neg (by omega), Array.getElem?_setIfInBounds, if_neg (by omega)]
theorem heap_setCells_at (g : Nat) (e : TypeId) (fr : Nat × Nat) : ∀ (vs : List Value) (o : Nat) (w : World) (c : Array Value), w.heap[g]? = some (.cells c e fr) → (w.setCells g o vs).heap[g]? = some (.cells (setMany c o vs) e fr)
  | [], _, _, _, h => h
  | v :: r, o, w, c, h => by
    rw [World.setCells, setMany]
    exact heap_setCells_at g e fr r (o + 1) _ _ (by simp [World.setCell, Array.getElem?_modify, h])
theorem heap_setCells_far (g : Nat) {k : Nat} (hk : k ≠ g) : ∀ (vs : List Value) (o : Nat) (w : World), (w.setCells g o vs).heap[k]? = w.heap[k]?
  | [], _, _ => rfl
  | v :: r, o, w => by rw [World.setCells, heap_setCells_far g hk r]; exact Below.heap_setCell _ _ _ _ hk
theorem setCells_same (g : Nat) : ∀ (vs : List Value) (o : Nat) (w : World), (w.setCells g o vs).heap.size = w.heap.size ∧ (w.setCells g o vs).os = w.os ∧ (w.setCells g o vs).tape = w.tape ∧ (w.setCells g o vs).output = w.output
  | [], _, _ => ⟨rfl, rfl, rfl, rfl⟩
  | v :: r, o, w => by
    have h := setCells_same g r (o + 1) (w.setCell ⟨g, o, none⟩ v)
    rw [World.setCells]
    exact ⟨by rw [h.1]; simp, h.2.1, h.2.2.1, h.2.2.2⟩
theorem Stp.setCells {r : List Nat} {o o' : Roles} {w w' : World} (h : Stp r o w o' w') {g : Nat} (hg : r <+: o' g) (k : Nat) (vs : List Value) : Stp r o w o' (w'.setCells g k vs) :=
  let e := setCells_same g vs k w'
  h.trans ⟨e.2.1, e.2.2.1, e.2.2.2, Nat.le_of_eq e.1.symm, fun _ _ => rfl, fun j _ hn => heap_setCells_far g (fun e => hn (by rw [e]; exact hg)) _ _ _⟩

section
variable {P : Program} (w : World)
/-- append, onto a row of role r, of whatever is appended. -/
theorem run_app {o : Roles} {r : List Nat} (t tx ty e : TypeId) (i : TypeInfo) (z : Value) (size bytes : Nat) (ht : P.underlying t = some (.slice e)) (hi : P.info? e = some i) (hz : i.zero = some z)
    (hsize : i.size = size) (hby : i.bytes = bytes) (hzs : z.cells.size = size)
    {v : Value} {n : Nat} {xs : List Value} (hrow : Row o w r e size v n xs) {x : Value} {m : Nat} {news : List Value} (hs : Src P size tx x m news w)
    (h63 : n + m ≤ maxLen) (hbytes : (n + m) * bytes ≤ 140737488355328) :
    ∃ v' w' o', (Builtin.append_ #[t, tx] ty #[v, x]).run P w = .ok v' w' ∧ Row o' w' r e size v' (n + m) (xs ++ news) ∧ Stp r o w o' w' := by
  subst hsize; subst hby
  have hnl := hs.newsLen
  have hlen : (xs ++ news).length = (n + m) * i.size := by rw [List.length_append, hrow.len, hnl, Nat.add_mul]
  have grown : ∀ old, old < n + m → Row (o.put w.heap.size r) (w.drew.alloc (.cells ((xs ++ news).toArray ++ Builtin.zeroCells z.cells (grownCap w (n + m) old e - (n + m))) e)) r e i.size
      (.slice (some ⟨w.heap.size, 0, none⟩) (n + m) (grownCap w (n + m) old e)) (n + m) (xs ++ news) ∧
      Stp r o w (o.put w.heap.size r) (w.drew.alloc (.cells ((xs ++ news).toArray ++ Builtin.zeroCells z.cells (grownCap w (n + m) old e - (n + m))) e)) := by
    intro old ho
    have hge := grownCap_ge w (n + m) old e
    refine ⟨⟨⟨hlen, .inr ⟨w.heap.size, _, _, rfl, Nat.zero_le _, heap_alloc_new w.drew _, hge, grownCap_le_maxLen w (n + m) old e h63, ?_, ?_⟩⟩, fun g hg => ?_⟩, (Stp.refl r o w).drew.alloc _ _ rfl⟩
    · simp only [Array.size_append, List.size_toArray, size_zeroCells, hzs, hlen, ← Nat.add_mul]
      congr 1; omega
    · rw [Array.toList_append, List.toList_toArray, ← hlen]; exact List.take_left
    · simp only [Value.ownBlock, Option.some.injEq] at hg; subst hg; exact Roles.put_same _ _ _
  rcases hrow.form with ⟨rfl, rfl, rfl⟩ | ⟨g, cap, cur, rfl, hb, h3, h4, h5, h6⟩
  · by_cases hm : m = 0
    · subst hm
      have : news = [] := List.eq_nil_of_length_eq_zero (by rw [hnl]; simp)
      subst this
      refine ⟨.slice none 0 0, w, o, ?_, by simpa using hrow, Stp.refl _ _ _⟩
      rcases hs.kind with ⟨e', hk⟩ | hk <;> simp [Builtin.append_, run_underlying ht, run_underlying hk, sizeOf, typeInfo, hi, hs.len, hs.cells]
    · have hg := grown 0 (by omega)
      have hr := run_append_grow_src (P := P) w t tx ty e i z ht hi hz none 0 0 [] (run_firstCells_none _ _ _ _ _) x m news hs (by omega) (by unfold maxLen at h63; omega) (growslice_fits (by omega) hbytes)
      exact ⟨_, _, _, hr, by simpa using hg⟩
  · by_cases hroom : n + m ≤ cap
    · have hfit : n * i.size + news.length ≤ cur.size := by rw [hnl, h5, ← Nat.add_mul]; exact Nat.mul_le_mul_right _ hroom
      have hr := run_append_room_src (P := P) w t tx ty e i ht hi g 0 n cap x m news hs hroom
        (fun j hj => by rw [hb.cell, Nat.zero_add]; simp; omega) (fun j _ => hb.free _)
      rw [Nat.zero_add] at hr
      refine ⟨_, _, o, hr, ⟨⟨hlen, .inr ⟨g, cap, _, rfl, Nat.zero_le _, heap_setCells_at g e _ news _ w cur hb.heap, hroom, h4, by rw [setMany_size, h5], ?_⟩⟩, fun k hk => ?_⟩, (Stp.refl r o w).setCells (by rw [hb.role]; exact List.prefix_refl _) _ _⟩
      · apply List.ext_getElem?
        intro k
        have hx : xs.length = n * i.size := hrow.len
        rw [List.getElem?_take]
        by_cases hk : k < (n + m) * i.size
        · rw [if_pos hk]
          have hg := setMany_get news cur (n * i.size) hfit k
          rw [Array.getElem?_toList, hg]
          by_cases hk1 : k < n * i.size
          · rw [if_pos hk1, List.getElem?_append_left (by omega), ← h6, List.getElem?_take, if_pos hk1]; simp
          · rw [if_neg hk1, if_pos (by rw [hnl, ← Nat.add_mul]; exact hk), List.getElem?_append_right (by omega), hx]
        · rw [if_neg hk, List.getElem?_eq_none (by rw [hlen]; omega)]
      · simp only [Value.ownBlock, Option.some.injEq] at hk; subst hk; exact hb.role
    · have hg := grown cap (by omega)
      have hold : (Builtin.firstCells i.size n (.slice (some ⟨g, 0, none⟩) n cap)).run P w.drew = .ok xs.toArray w.drew :=
        run_firstCells_some w.drew i.size n ⟨g, 0, none⟩ n cap xs hrow.len (fun j u hj => by have := hrow.own.cells (g := g) rfl j u hj; simpa using this)
      have hr := run_append_grow_src (P := P) w t tx ty e i z ht hi hz (some ⟨g, 0, none⟩) n cap xs hold x m news hs (by omega) (by unfold maxLen at h63; omega) (growslice_fits (by omega) hbytes)
      exact ⟨_, _, _, hr, hg⟩

theorem wp_app {o : Oper} {a : Act} {K : Act → World → Prop} {Q : Exit → Act → World → Prop} {ow : Roles} {r : List Nat} (s x : Operand) (t tx : TypeId)
    (ho : o.op = .call { callee := .builtin .append, args := #[s, x], argTypes := #[t, tx] })
    (e : TypeId) (i : TypeInfo) (z : Value) (size bytes : Nat) (ht : P.underlying t = some (.slice e)) (hi : P.info? e = some i) (hz : i.zero = some z)
    (hsize : i.size = size) (hby : i.bytes = bytes) (hzs : z.cells.size = size)
    {v : Value} {n : Nat} {xs : List Value} (hv : a.eval s = v) (hrow : Row ow w r e size v n xs) {xv : Value} {m : Nat} {news : List Value} (hx : a.eval x = xv) (hs : Src P size tx xv m news w)
    (h63 : n + m ≤ maxLen) (hbytes : (n + m) * bytes ≤ 140737488355328)
    (h : ∀ v' w' ow', Row ow' w' r e size v' (n + m) (xs ++ news) → Stp r ow w ow' w' → K (a.put o.dst v') w') : o.wp P a w K Q := by
  obtain ⟨v', w', ow', hr, h2, h3⟩ := run_app (P := P) w t tx o.type e i z size bytes ht hi hz hsize hby hzs hrow hs h63 hbytes
  unfold Oper.wp execOp
  simp only [ho, resolve, invoke, builtin, Sem.run_bind, Sem.run_pure, Result.andThen_ok, List.map_toArray, List.map_cons, List.map_nil, hv, hx, hr]
  exact h v' w' ow' h2 h3

theorem wpList_app {ops : Array Oper} {rest : List Oper} {o : Oper} {a : Act} {Q : Exit → Act → World → Prop} {ow : Roles} {r : List Nat} (hgd : o.guard = none) (s x : Operand) (t tx : TypeId)
    (ho : o.op = .call { callee := .builtin .append, args := #[s, x], argTypes := #[t, tx] })
    (e : TypeId) (i : TypeInfo) (z : Value) (size bytes : Nat) (ht : P.underlying t = some (.slice e)) (hi : P.info? e = some i) (hz : i.zero = some z)
    (hsize : i.size = size) (hby : i.bytes = bytes) (hzs : z.cells.size = size)
    {v : Value} {n : Nat} {xs : List Value} (hv : a.eval s = v) (hrow : Row ow w r e size v n xs) {xv : Value} {m : Nat} {news : List Value} (hx : a.eval x = xv) (hs : Src P size tx xv m news w)
    (h63 : n + m ≤ maxLen) (hbytes : (n + m) * bytes ≤ 140737488355328)
    (h : ∀ v' w' ow', Row ow' w' r e size v' (n + m) (xs ++ news) → Stp r ow w ow' w' → wpList P ops Q rest (a.put o.dst v') w') : wpList P ops Q (o :: rest) a w :=
  wpList_plain hgd fun _ hK => wp_app w s x t tx ho e i z size bytes ht hi hz hsize hby hzs hv hrow hx hs h63 hbytes fun v' w' ow' h2 h3 => hK _ _ (h v' w' ow' h2 h3)

/-- The same, at a step of a region that draws its order. -/
theorem step_app {ops : Array Oper} {o : Oper} {a : Act} {K : Act → World → Prop} {Q : Exit → Act → World → Prop} {E : Prop} {ow : Roles} {r : List Nat} (hgd : o.guard = none) (s x : Operand) (t tx : TypeId)
    (ho : o.op = .call { callee := .builtin .append, args := #[s, x], argTypes := #[t, tx] })
    (e : TypeId) (i : TypeInfo) (z : Value) (size bytes : Nat) (ht : P.underlying t = some (.slice e)) (hi : P.info? e = some i) (hz : i.zero = some z)
    (hsize : i.size = size) (hby : i.bytes = bytes) (hzs : z.cells.size = size)
    {v : Value} {n : Nat} {xs : List Value} (hv : a.eval s = v) (hrow : Row ow w r e size v n xs) {xv : Value} {m : Nat} {news : List Value} (hx : a.eval x = xv) (hs : Src P size tx xv m news w)
    (h63 : n + m ≤ maxLen) (hbytes : (n + m) * bytes ≤ 140737488355328)
    (h : ∀ v' w' ow', Row ow' w' r e size v' (n + m) (xs ++ news) → Stp r ow w ow' w' → K (a.put o.dst v') w') :
    if Region.wanted o (yielded ops a.tmps) = true then Oper.wp P o a w K Q else E := by
  have hw : Region.wanted o (yielded ops a.tmps) = true := by simp [Region.wanted, hgd]
  rw [if_pos hw]
  exact wp_app w s x t tx ho e i z size bytes ht hi hz hsize hby hzs hv hrow hx hs h63 hbytes h
end
end Go.Proofs.YtgmmeeikjofefaaGreatDoor
