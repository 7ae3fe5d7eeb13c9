/- Slices that are read: a view of the elements' places; fresh rows. No program is named. -/
import Derived.Test.YtgmmeeikjofefaaGreatDoorMap
namespace Go.Proofs.YtgmmeeikjofefaaGreatDoor
open Go Go.RowKit
theorem addr_add (b off k : Nat) : (⟨b, off, none⟩ : Addr).add k = ⟨b, off + k, none⟩ := by
  unfold Addr.add
  split
  · rename_i hk; subst hk; rfl
  · rfl
/-- The slice v of n elements, sz places each, reads as xs; its block is as A says. -/
structure Vw (A : Nat → Prop) (w : World) (v : Value) (sz n : Nat) (xs : List Value) : Prop where
  ex : ∃ a cap, v = .slice a n cap ∧ n ≤ cap ∧ cap ≤ maxLen ∧ (n = 0 ∨ ∃ b off, a = some ⟨b, off, none⟩ ∧ b < w.heap.size ∧ A b ∧ ∀ (k : Nat) u, xs[k]? = some u → w.cell? ⟨b, off + k, none⟩ = some u)
  len : xs.length = n * sz
section
variable {A B : Nat → Prop} {o o' : Roles} {w w' : World} {v : Value} {sz n : Nat} {xs : List Value} {r : List Nat} {e : TypeId}
theorem Vw.nil (A : Nat → Prop) (w : World) (sz : Nat) : Vw A w (.slice none 0 0) sz 0 [] := ⟨⟨none, 0, rfl, Nat.le_refl _, by simp, .inl rfl⟩, by simp⟩
theorem Vw.imp (h : Vw A w v sz n xs) (hA : ∀ b, A b → B b) : Vw B w v sz n xs := by
  obtain ⟨⟨a, cap, h1, h2, h3, h4⟩, h5⟩ := h
  refine ⟨⟨a, cap, h1, h2, h3, ?_⟩, h5⟩
  rcases h4 with h4 | ⟨b, off, g1, g2, g3, g4⟩
  · exact .inl h4
  · exact .inr ⟨b, off, g1, g2, hA b g3, g4⟩
theorem Vw.stay (h : Vw A w v sz n xs) (hs : w.heap.size ≤ w'.heap.size) (hb : ∀ b, A b → b < w.heap.size → w'.heap[b]? = w.heap[b]?) : Vw A w' v sz n xs := by
  obtain ⟨⟨a, cap, h1, h2, h3, h4⟩, h5⟩ := h
  refine ⟨⟨a, cap, h1, h2, h3, ?_⟩, h5⟩
  rcases h4 with h4 | ⟨b, off, g1, g2, g3, g4⟩
  · exact .inl h4
  · refine .inr ⟨b, off, g1, by omega, g3, fun k u hk => ?_⟩
    rw [← g4 k u hk]
    unfold World.cell?
    simp only [hb b g3 g2]
theorem Vw.below (h : Vw A w v sz n xs) (hB : Below w.heap.size w w') : Vw A w' v sz n xs := h.stay hB.size (fun b _ hb => hB.block b hb)
theorem Vw.drewN (h : Vw A w v sz n xs) (k : Nat) : Vw A (w.drewN k) v sz n xs := h.stay (Nat.le_refl _) (fun _ _ _ => rfl)
theorem Vw.keep {s : List Nat} (h : Vw (fun b => o b = r) w v sz n xs) (st : Stp s o w o' w') (hn : ¬ s <+: r) : Vw (fun b => o' b = r) w' v sz n xs := by
  obtain ⟨⟨a, cap, h1, h2, h3, h4⟩, h5⟩ := h
  refine ⟨⟨a, cap, h1, h2, h3, ?_⟩, h5⟩
  rcases h4 with h4 | ⟨b, off, g1, g2, g3, g4⟩
  · exact .inl h4
  · refine .inr ⟨b, off, g1, Nat.lt_of_lt_of_le g2 st.size, by rw [st.old b g2]; exact g3, fun k u hk => ?_⟩
    rw [← g4 k u hk]
    unfold World.cell?
    simp only [st.block b g2 (by rw [g3]; exact hn)]
theorem Vw.slice (h : Vw A w v sz n xs) : ∃ a cap, v = .slice a n cap ∧ n ≤ cap ∧ cap ≤ maxLen ∧ (n = 0 ∨ ∃ b off, a = some ⟨b, off, none⟩) := by
  obtain ⟨⟨a, cap, h1, h2, h3, h4⟩, h5⟩ := h
  exact ⟨a, cap, h1, h2, h3, h4.imp id fun ⟨b, off, g, _⟩ => ⟨b, off, g⟩⟩
theorem Row.vw (h : Row o w r e sz v n xs) : Vw (fun b => o b = r) w v sz n xs := by
  refine ⟨?_, h.len⟩
  rcases h.form with ⟨h1, h2, _⟩ | ⟨g, cap, cur, h1, hb, h3, h4, h5, h6⟩
  · exact ⟨none, 0, by rw [h1, h2], by omega, by simp, .inl h2⟩
  · refine ⟨_, cap, h1, h3, h4, .inr ⟨g, 0, rfl, hb.lt, hb.role, fun k u hk => ?_⟩⟩
    rw [Nat.zero_add, hb.cell, ← hk, ← h6, List.getElem?_take, if_pos (by have := (List.getElem?_eq_some_iff.1 hk).1; rw [h.len] at this; exact this)]
    simp
/-- A view as a source of an append. -/
theorem Vw.src {P : Program} {t e : TypeId} (h : Vw A w v sz n xs) (ht : P.underlying t = some (.slice e)) (h1 : ∀ u ∈ xs, u.oneCell' = true) : Src P sz t v n xs w := by
  obtain ⟨⟨a, cap, rfl, h2, h3, h4⟩, h5⟩ := h
  rcases h4 with rfl | ⟨b, off, rfl, g2, g3, g4⟩
  · have : xs = [] := List.eq_nil_of_length_eq_zero (by rw [h5]; simp)
    subst this
    cases a with
    | none => exact Src.ofNil _ ht cap
    | some a => exact Src.ofSlice _ ht _ _ _ _ (by simp) (fun j u hj => by simp at hj) (fun u hu => by simp at hu)
  · exact Src.ofSlice _ ht _ _ _ _ h5 (fun j u hj => by rw [addr_add]; exact g4 j u hj) h1
/-- A row all of whose places are new since w. -/
structure Fresh (w w' : World) (e : TypeId) (sz : Nat) (v : Value) (n : Nat) (xs : List Value) : Prop where
  own : w'.ownsRow w.heap.size e sz v n xs
  below : Below w.heap.size w w'
theorem Fresh.row (h : Fresh w w' e sz v n xs) (o : Roles) (r : List Nat) : ∃ o', Row o' w' r e sz v n xs ∧ ∀ s, Stp s o w o' w' := by
  have hb := h.below
  rcases h.own.2 with ⟨h1, h2⟩ | ⟨g, cap, cur, h1, h2, rest⟩
  · have hx : xs = [] := List.eq_nil_of_length_eq_zero (by rw [h.own.1, h2]; simp)
    subst h1 h2 hx
    exact ⟨o, Row.nil _ _ _ _ _, fun s => Stp.ofBelow s o hb⟩
  · refine ⟨o.put g r, ⟨⟨h.own.1, .inr ⟨g, cap, cur, h1, Nat.zero_le _, rest⟩⟩, fun k hk => ?_⟩, fun s => (Stp.ofBelow s o hb).name g r h2⟩
    rw [h1] at hk
    simp only [Value.ownBlock, Option.some.injEq] at hk
    subst hk; exact Roles.put_same _ _ _
theorem Fresh.vw (h : Fresh w w' e sz v n xs) : Vw (fun b => w.heap.size ≤ b) w' v sz n xs := by
  refine ⟨?_, h.own.1⟩
  rcases h.own.2 with ⟨h1, h2⟩ | ⟨g, cap, cur, h1, h2, h3, h4, h5, h6, h7⟩
  · exact ⟨none, 0, by rw [h1, h2], by omega, by simp, .inl h2⟩
  · refine ⟨_, cap, h1, h4, h5, .inr ⟨g, 0, rfl, (Array.getElem?_eq_some_iff.1 h3).1, h2, fun k u hk => ?_⟩⟩
    have hl := (List.getElem?_eq_some_iff.1 hk).1
    rw [h.own.1] at hl
    rw [Nat.zero_add]
    unfold World.cell?
    simp only [h3]
    rw [← hk, ← h7, List.getElem?_take, if_pos hl]
    simp
/-- An empty row in a new block. -/
theorem Row.empty (o : Roles) (w : World) (r : List Nat) (e : TypeId) (sz : Nat) : Row (o.put w.heap.size r) (w.alloc (.cells #[] e)) r e sz (.slice (some ⟨w.heap.size, 0, none⟩) 0 0) 0 [] := by
  refine ⟨⟨by simp, .inr ⟨w.heap.size, 0, #[], rfl, Nat.zero_le _, heap_alloc_new w _, Nat.le_refl _, by simp, by simp, by simp⟩⟩, fun g hg => ?_⟩
  simp only [Value.ownBlock, Option.some.injEq] at hg
  subst hg; exact Roles.put_same _ _ _
theorem Row.fresh {a : Nat} {t : List Nat} (h : Row o' w' (a :: t) e sz v n xs) (st : Stp (a :: t) none0 w o' w') : Fresh w w' e sz v n xs := by
  refine ⟨?_, st.below0⟩
  rcases h.own.2 with h1 | ⟨g, cap, cur, h1, h2, h3, rest⟩
  · exact ⟨h.own.1, .inl h1⟩
  · refine ⟨h.own.1, .inr ⟨g, cap, cur, h1, ?_, h3, rest⟩⟩
    rcases Nat.lt_or_ge g w.heap.size with hg | hg
    · have e1 := h.role g (by simp [h1, Value.ownBlock])
      rw [st.old g hg] at e1
      cases e1
    · exact hg
end
end Go.Proofs.YtgmmeeikjofefaaGreatDoor
