/- The document's network, in memory: one row of structs. -/
import Derived.Test.YtlgboamedjoidaaBegins
namespace Go.Proofs.Ytlgboamedjoidaa
open Go Go.RowKit

/-- What the reference keeps as written: what was cut off waits no more. -/
def CI.wrote (c : CI) : List UInt8 := if c.cu then c.dn.take c.tk else c.dn
def rcells (c : CI) : List Value := [txt c.up, txt c.wrote, .int .i64 c.rd, .int .i64 c.tk, .bool c.acc, .bool c.en, .bool c.cl, .bool c.cu]
def flat (L : List CI) : List Value := L.flatMap rcells
theorem flat_len (L : List CI) : (flat L).length = L.length * 8 := by
  induction L with
  | nil => rfl
  | cons c L ih => simp only [flat, List.flatMap_cons, List.length_append, List.length_cons] at ih ⊢; rw [ih]; simp [rcells]; omega
theorem flat_get : ∀ (L : List CI) (i j : Nat) (c : CI), L[i]? = some c → j < 8 → (flat L)[i * 8 + j]? = (rcells c)[j]?
  | [], i, j, c, h, _ => by simp at h
  | d :: L, 0, j, c, h, hj => by
    simp at h; subst h
    simp only [flat, List.flatMap_cons, Nat.zero_mul, Nat.zero_add]
    rw [List.getElem?_append_left (by simp [rcells]; omega)]
  | d :: L, i + 1, j, c, h, hj => by
    rw [List.getElem?_cons_succ] at h
    have ih := flat_get L i j c h hj
    simp only [flat, List.flatMap_cons] at ih ⊢
    have e : (rcells d).length = 8 := rfl
    rw [List.getElem?_append_right (by rw [e]; omega), e, show (i + 1) * 8 + j - 8 = i * 8 + j by omega]
    exact ih
theorem flat_set : ∀ (L : List CI) (i j : Nat) (c c' : CI) (v : Value), L[i]? = some c → j < 8 → rcells c' = (rcells c).set j v → (flat L).set (i * 8 + j) v = flat (L.set i c')
  | [], i, j, c, _, _, h, _, _ => by simp at h
  | d :: L, 0, j, c, c', v, h, hj, hc => by
    simp at h; subst h
    simp only [flat, List.flatMap_cons, Nat.zero_mul, Nat.zero_add, List.set_cons_zero]
    rw [List.set_append_left _ _ (by simp [rcells]; omega), hc]
  | d :: L, i + 1, j, c, c', v, h, hj, hc => by
    rw [List.getElem?_cons_succ] at h
    have ih := flat_set L i j c c' v h hj hc
    simp only [flat, List.flatMap_cons, List.set_cons_succ] at ih ⊢
    have e : (rcells d).length = 8 := rfl
    rw [List.set_append_right _ _ (by rw [e]; omega), e, show (i + 1) * 8 + j - 8 = i * 8 + j by omega, ih]

theorem Row.put_at {o : Roles} {w : World} {s : List Nat} {e : TypeId} {sz n cap g : Nat} {xs : List Value} (h : Row o w s e sz (.slice (some ⟨g, 0, none⟩) n cap) n xs) (k : Nat) (u : Value) :
    Row o (w.setCell ⟨g, k, none⟩ u) s e sz (.slice (some ⟨g, 0, none⟩) n cap) n (xs.set k u) := by
  refine ⟨⟨by rw [List.length_set]; exact h.own.1, .inr ?_⟩, h.role⟩
  rcases h.own.2 with ⟨h1, _⟩ | ⟨g', cap', cur, hv, h0, hg, hn, hm, hs, ht⟩
  · cases h1
  · cases hv
    refine ⟨g, cap, cur.setIfInBounds k u, rfl, h0, by simp [World.setCell, Array.getElem?_modify, hg], hn, hm, by simp [hs], ?_⟩
    rw [Array.toList_setIfInBounds, List.take_set, ht]

structure RefV (o : Roles) (w : World) (r : List Nat) (p : Nat) (win : Nat) (L : List CI) (lv : Value) : Prop where
  blk : Blk o w (r ++ [0]) p #[.int .i64 win, lv] 36
  row : Row o w (r ++ [1]) 89 8 lv L.length (flat L)
  few : L.length ≤ 1024
  ok : ∀ c ∈ L, GoodC win 1048576 c ∧ c.rd ≤ c.up.length ∧ c.tk ≤ c.dn.length
  winle : win ≤ 1048576
def Ref (o : Roles) (w : World) (r : List Nat) (p : Nat) (win : Nat) (L : List CI) : Prop := ∃ lv, RefV o w r p win L lv
section
variable {o o' : Roles} {w w' : World} {r s : List Nat} {p win : Nat} {L : List CI}
theorem Ref.keep (h : Ref o w s p win L) (st : Stp r o w o' w') (ha : Apart r s) : Ref o' w' s p win L := let ⟨lv, h⟩ := h; ⟨lv, h.blk.keep st (ha.more _).not, h.row.keep st (ha.more _).not, h.few, h.ok, h.winle⟩
theorem Ref.drewN (h : Ref o w s p win L) (k : Nat) : Ref o (w.drewN k) s p win L := let ⟨lv, h⟩ := h; ⟨lv, h.blk.drewN k, h.row.drewN k, h.few, h.ok, h.winle⟩
theorem Ref.below (h : Ref o w s p win L) (hb : Below w.heap.size w w') : Ref o w' s p win L := let ⟨lv, h⟩ := h; ⟨lv, h.blk.below hb, h.row.below hb, h.few, h.ok, h.winle⟩
theorem Ref.alloc (h : Ref o w s p win L) (x : Obj) (q : List Nat) : Ref (o.put w.heap.size q) (w.alloc x) s p win L := let ⟨lv, h⟩ := h; ⟨lv, h.blk.alloc x _ q rfl, h.row.alloc x _ q rfl, h.few, h.ok, h.winle⟩
/-- An element: where it lies, and what it holds; and one of its places written anew. -/
theorem RefV.elem {lv : Value} (h : RefV o w r p win L lv) {i : Nat} {c : CI} (hi : L[i]? = some c) : ∃ g cap, lv = .slice (some ⟨g, 0, none⟩) L.length cap ∧
    (∀ j v, (rcells c)[j]? = some v → w.cell? ⟨g, i * 8 + j, none⟩ = some v) ∧ (∀ k, w.frozen? ⟨g, k, none⟩ = false) ∧ ¬ g = p ∧ ¬ p = g ∧
    ∀ j v c', j < 8 → rcells c' = (rcells c).set j v → (GoodC win 1048576 c' ∧ c'.rd ≤ c'.up.length ∧ c'.tk ≤ c'.dn.length) → Ref o (w.setCell ⟨g, i * 8 + j, none⟩ v) r p win (L.set i c') ∧ Stp r o w o (w.setCell ⟨g, i * 8 + j, none⟩ v) := by
  have hil : i < L.length := (List.getElem?_eq_some_iff.1 hi).1
  rcases h.row.form with ⟨_, h2, _⟩ | ⟨g, cap, cur, rfl, hb, h3, h4, h5, h6⟩
  · omega
  · have hgp : g ≠ p := hb.ne h.blk (ne_app (by simp))
    refine ⟨g, cap, rfl, fun j v hv => ?_, hb.free, hgp, hgp.symm, fun j v c' hj hc hok => ?_⟩
    · have hj : j < 8 := by have := (List.getElem?_eq_some_iff.1 hv).1; simpa [rcells] using this
      rw [hb.cell, ← Array.getElem?_toList]
      have e := flat_get L i j c hi hj
      rw [← h6, List.getElem?_take, if_pos (by omega)] at e
      rw [e]; exact hv
    · have hrow := h.row.put_at (i * 8 + j) v
      rw [flat_set L i j c c' v hi hj hc] at hrow
      refine ⟨⟨_, h.blk.setOther _ _ hgp.symm, by simpa using hrow, by simpa using h.few, fun d hd => ?_, h.winle⟩, (Stp.refl r o w).setCell (show r <+: o g by rw [hb.role]; exact List.prefix_append _ _) v⟩
      rcases List.mem_or_eq_of_mem_set hd with hd | rfl
      · exact h.ok d hd
      · exact hok

def outL (L : List CI) (c : Int) : Prop := c < 0 ∨ (L.length : Int) ≤ c
set_option maxHeartbeats 400000 in
theorem has_out (h : Ref o w r p win L) (c : Int) (hb : outL L c) : Calls Try.prog 51 #[ptr p, .int .i64 c] w fun e w' => e = .returned (.bool false) ∧ w' = w := by
  obtain ⟨lv, h⟩ := h
  have hc := h.blk.cell
  obtain ⟨a, cap, hv, _⟩ := h.row.slice
  subst hv
  have hf := h.few
  clear h
  unfold ptr at *
  rcases hb with hb | hb
  · have h1 : decide (0 ≤ c) = false := by simp; omega
    go_enter Try.func51, Try.ntmps51
    go_wp2
    go_ret
    exact ⟨rfl, rfl⟩
  · have h1 : decide (0 ≤ c) = true := by simp; omega
    have h2 : decide (c < (L.length : Int)) = false := by simp; omega
    go_enter Try.func51, Try.ntmps51
    go_wp2
    go_ret
    exact ⟨rfl, rfl⟩
set_option maxHeartbeats 400000 in
theorem has_in (h : Ref o w r p win L) {i : Nat} (hi : i < L.length) : Calls Try.prog 51 #[ptr p, .int .i64 i] w fun e w' => e = .returned (.bool true) ∧ w' = w := by
  obtain ⟨lv, h⟩ := h
  have hc := h.blk.cell
  obtain ⟨a, cap, hv, _⟩ := h.row.slice
  subst hv
  have hf := h.few
  clear h
  unfold ptr at *
  have h2 : decide (i < L.length) = true := by simpa using hi
  go_enter Try.func51, Try.ntmps51
  go_wp2
  go_ret
  exact ⟨rfl, rfl⟩
set_option maxHeartbeats 400000 in
theorem client_out (h : Ref o w r p win L) (c : Int) (hb : outL L c) : Calls Try.prog 50 #[ptr p, .int .i64 c] w fun e w' => e = .returned (.int .i64 60) ∧ w' = w := by
  have H := has_out h c hb
  clear h hb
  unfold ptr at *
  go_enter Try.func50, Try.ntmps50
  go_wp2_with (go_at_call 51; refine H.mono ?_; rintro e w' ⟨rfl, rfl⟩)
  go_ret
  exact ⟨rfl, rfl⟩
set_option maxHeartbeats 400000 in
theorem server_out (h : Ref o w r p win L) (c : Int) (hb : outL L c) : Calls Try.prog 52 #[ptr p, .int .i64 c] w fun e w' => e = .returned (.int .i64 60) ∧ w' = w := by
  have H := has_out h c hb
  clear h hb
  unfold ptr at *
  go_enter Try.func52, Try.ntmps52
  go_wp2_with (go_at_call 51; refine H.mono ?_; rintro e w' ⟨rfl, rfl⟩)
  go_ret
  exact ⟨rfl, rfl⟩
set_option maxHeartbeats 400000 in
theorem client_in (h : Ref o w r p win L) {i : Nat} {c : CI} (hi : L[i]? = some c) : Calls Try.prog 50 #[ptr p, .int .i64 i] w fun e w' => e = .returned (.int .i64 (sendE c)) ∧ w' = w := by
  have hil : i < L.length := (List.getElem?_eq_some_iff.1 hi).1
  have H := has_in h hil
  obtain ⟨lv, h⟩ := h
  have hc := h.blk.cell
  have hf := h.few
  obtain ⟨g, cap, hv, hcell, _⟩ := h.elem hi
  subst hv
  have c5 := hcell 5 _ rfl
  have c6 := hcell 6 _ rfl
  have c7 := hcell 7 _ rfl
  clear h hi hcell
  unfold sendE
  obtain ⟨up, rd, dn, tk, acc, en, cl, cu⟩ := c
  dsimp only at *
  unfold ptr at *
  cases en <;> cases cl <;> cases cu
  all_goals
    go_enter Try.func50, Try.ntmps50
    go_wp2_with (go_at_call 51; refine H.mono ?_; rintro e w' ⟨rfl, rfl⟩)
    go_ret
    exact ⟨rfl, rfl⟩
set_option maxHeartbeats 400000 in
theorem server_in (h : Ref o w r p win L) {i : Nat} {c : CI} (hi : L[i]? = some c) : Calls Try.prog 52 #[ptr p, .int .i64 i] w fun e w' => e = .returned (.int .i64 (servedE c)) ∧ w' = w := by
  have hil : i < L.length := (List.getElem?_eq_some_iff.1 hi).1
  have H := has_in h hil
  obtain ⟨lv, h⟩ := h
  have hc := h.blk.cell
  have hf := h.few
  obtain ⟨g, cap, hv, hcell, _⟩ := h.elem hi
  subst hv
  have c5 := hcell 4 _ rfl
  have c6 := hcell 6 _ rfl
  have c7 := hcell 7 _ rfl
  clear h hi hcell
  unfold servedE
  obtain ⟨up, rd, dn, tk, acc, en, cl, cu⟩ := c
  dsimp only at *
  unfold ptr at *
  cases acc <;> cases cl <;> cases cu
  all_goals
    go_enter Try.func52, Try.ntmps52
    go_wp2_with (go_at_call 51; refine H.mono ?_; rintro e w' ⟨rfl, rfl⟩)
    go_ret
    exact ⟨rfl, rfl⟩
end
end Go.Proofs.Ytlgboamedjoidaa
