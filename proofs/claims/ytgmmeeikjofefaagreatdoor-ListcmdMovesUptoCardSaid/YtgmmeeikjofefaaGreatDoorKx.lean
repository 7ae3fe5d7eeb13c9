import Derived.Test.YtgmmeeikjofefaaGreatDoorMv
namespace Go.Proofs.YtgmmeeikjofefaaGreatDoor
open Go Go.RowKit
/-! A reply that holds a list. -/
theorem all_below {o o' : Roles} {w w' : World} (h : ∀ s, Stp s o w o' w') : Below w.heap.size w w' :=
  ⟨(h []).os, (h []).tape, (h []).output, (h []).size, fun b hb => (h (o b ++ [0])).block b hb (by intro hp; have := hp.length_le; simp at this; omega)⟩
structure RP where
  kind : Nat
  text : List UInt8
  n : Int
  list : List Rf
def RepB (w : World) (r : RP) (e : Ending) (w' : World) : Prop :=
  ∃ v, e = .returned (repV r.kind r.text r.n v) ∧ Vw (fun b => w.heap.size ≤ b) w' v 4 r.list.length (rfsC r.list) ∧ Below w.heap.size w w'
abbrev llenB : List UInt8 := [108, 108, 101, 110]
abbrev lrangeB : List UInt8 := [108, 114, 97, 110, 103, 101]
abbrev lindexB : List UInt8 := [108, 105, 110, 100, 101, 120]
def numR (n : Int) : RP := ⟨3, [], n, []⟩
def bulkR (s : List UInt8) : RP := ⟨4, s, 0, []⟩
def nullR : RP := ⟨5, [], 0, []⟩
def errR (s : List UInt8) : RP := ⟨2, s, 0, []⟩
def bulksR (l : List (List UInt8)) : RP := ⟨6, [], 0, l.map bulkF⟩
/-- A reply's four cells are laid into the result's block. -/
theorem below_four {w w5 : World} {v0 v1 v2 v3 : Value} (h : Below w.heap.size w w5) : Below w.heap.size w ((((w5.setCell ⟨w.heap.size, 0, none⟩ v0).setCell ⟨w.heap.size, 1, none⟩ v1).setCell ⟨w.heap.size, 2, none⟩ v2).setCell ⟨w.heap.size, 3, none⟩ v3) := by
  iterate 4 refine Below.setCell ?_ (by exact Nat.le_refl _) _
  exact h
theorem vw_four {w w5 w6 : World} {v0 v1 v2 v3 v : Value} {sz n : Nat} {xs : List Value} (h : Vw (fun b => w5.heap.size ≤ b) w6 v sz n xs) (hs : w.heap.size < w5.heap.size) :
    Vw (fun b => w.heap.size ≤ b) ((((w6.setCell ⟨w.heap.size, 0, none⟩ v0).setCell ⟨w.heap.size, 1, none⟩ v1).setCell ⟨w.heap.size, 2, none⟩ v2).setCell ⟨w.heap.size, 3, none⟩ v3) v sz n xs := by
  refine (h.stay (by simp) (fun b hb _ => ?_)).imp (fun b hb => by omega)
  repeat rw [heap_set_far (by show b ≠ w.heap.size; omega)]
/-! What a key of lists holds. -/
def KeyIs (S : SP) (k : List UInt8) (l : List (List UInt8)) : Prop := (l = [] ∧ S k = none) ∨ (l ≠ [] ∧ ∃ n, S k = some ⟨listV l, 0, n⟩)
theorem KeyIs.empty (k : List UInt8) : KeyIs (fun _ => none) k [] := .inl ⟨rfl, rfl⟩
section
variable {o : Roles} {w : World} {q : List Nat} {p : Nat} {c : Cnt} {S : SP} {k j : List UInt8} {l : List (List UInt8)}
theorem KeyIs.at (hj : SpJ o w q p S c) (h : KeyIs S k l) (now : Int) : ((S.at now k).getD hd0).v.list = l ∧ ((S.at now k).isSome && ((S.at now k).getD hd0).v.kind != 2) = false ∧ ((S.at now k).getD hd0).due = 0 ∧ (l ≠ [] → ∃ H, S.at now k = some H ∧ H.v.kind = 2 ∧ H.v.list = l) ∧ (S.at now k).isSome = !l.isEmpty := by
  rw [hj.at_eq]
  rcases h with ⟨rfl, h⟩ | ⟨h0, n, h⟩
  · rw [h]; exact ⟨rfl, rfl, rfl, fun h => absurd rfl h, rfl⟩
  · rw [h]; refine ⟨rfl, rfl, rfl, fun _ => ⟨_, rfl, rfl, rfl⟩, ?_⟩
    cases l with
    | nil => exact absurd rfl h0
    | cons x t => rfl
theorem KeyIs.setL (hj : SpJ o w q p S c) {l0 : List (List UInt8)} (h : KeyIs S k l0) (now : Int) (l : List (List UInt8)) (n : Nat) : KeyIs (S.setL now k l n) k l := by
  unfold SP.setL
  by_cases e : l = []
  · rw [if_pos e]; exact .inl ⟨e, if_pos rfl⟩
  · rw [if_neg e]
    refine .inr ⟨e, n, ?_⟩
    show (if k = k then _ else _) = _
    rw [if_pos rfl, (h.at hj now).2.2.1]
theorem KeyIs.setL_far (h : KeyIs S j l) (hjk : j ≠ k) (now : Int) (l0 : List (List UInt8)) (n : Nat) : KeyIs (S.setL now k l0 n) j l := by
  have e : (S.setL now k l0 n) j = S j := by
    unfold SP.setL
    split
    · exact if_neg hjk
    · exact if_neg hjk
  unfold KeyIs
  rw [e]
  exact h
theorem KeyIs.put (hj : SpJ o w q p S c) {l0 : List (List UInt8)} (h : KeyIs S k l0) (now : Int) (hl : l ≠ []) (n : Nat) : KeyIs (S.put k ⟨listV l, ((S.at now k).getD hd0).due, n⟩) k l := by
  have := h.setL hj now l n
  unfold SP.setL at this
  rwa [if_neg hl] at this
theorem KeyIs.put_far (h : KeyIs S j l) (hjk : j ≠ k) (H : Hd) : KeyIs (S.put k H) j l := by
  have e : (S.put k H) j = S j := if_neg hjk
  unfold KeyIs
  rw [e]
  exact h
end
/-- A reply, and the space behind it. -/
def RepL (o : Roles) (w : World) (q : List Nat) (p : Nat) (c : Cnt) (r : RP) (K : SP → Prop) (e : Ending) (w' : World) : Prop :=
  ∃ v, e = .returned (repV r.kind r.text r.n v) ∧ Vw (fun b => w.heap.size ≤ b) w' v 4 r.list.length (rfsC r.list) ∧ ∃ o' S' c', SpJ o' w' q p S' c' ∧ K S' ∧ c'.num ≤ c.num + 2 ∧ Stp q o w o' w'
section
variable {o : Roles} {w : World} {q : List Nat} {p : Nat} {c c' : Cnt} {S S' : SP}
theorem RepJ.repL {r : Rf} {K : SP → Prop} {e : Ending} {w' : World} (h : RepJ o w q p S' c' r e w') (hK : K S') (hc : c'.num ≤ c.num + 2) : RepL o w q p c ⟨r.kind, r.text, r.n, []⟩ K e w' := by
  obtain ⟨rfl, o', hj, hs⟩ := h
  exact ⟨_, rfl, Vw.nil _ _ _, o', S', c', hj, hK, hc, hs⟩
theorem RepB.repL {r : RP} {K : SP → Prop} {e : Ending} {w' : World} (h : RepB w r e w') (hj : SpJ o w q p S c) (hK : K S) : RepL o w q p c r K e w' := by
  obtain ⟨v, rfl, hv, hB⟩ := h
  exact ⟨v, rfl, hv, o, S, c, hj.below hB, hK, by omega, Stp.ofBelow q o hB⟩
end
/-- A reply of a request. -/
def RunDid (o : Roles) (w : World) (q : List Nat) (p : Nat) (c : Cnt) (r : RP) (K : SP → Prop) (e : Ending) (w' : World) : Prop :=
  ∃ v, e = .returned (.tuple #[repV r.kind r.text r.n v, .bool true]) ∧ Vw (fun b => w.heap.size ≤ b) w' v 4 r.list.length (rfsC r.list) ∧ ∃ o' S' c', SpJ o' w' q p S' c' ∧ K S' ∧ c'.num ≤ c.num + 2 ∧ Stp q o w o' w'
/-- What a command's function does, called over a request of its own. -/
def Serves (F : FuncId) (w : World) (q : List Nat) (p : Nat) (S : SP) (c : Cnt) (nm : List UInt8) (args : List (List UInt8)) (r : RP) (K : SP → Prop) : Prop :=
  ∀ (o1 : Roles) (w1 : World) (cb m : Nat) (sv : Value), SpJ o1 w1 q p S c → ¬ q <+: [m] → Below w.heap.size w w1 → Blk o1 w1 [m] cb (callC p 0 nm sv) 79 → Vw (Old w1) w1 sv 1 args.length (args.map txt) →
    Calls Tryz.prog F #[.pointer (some ⟨cb, 0, none⟩)] w1 (RepL o1 w1 q p c r K)
section
variable {o : Roles} {w : World} {q : List Nat} {p : Nat} {c : Cnt} {S : SP} {k l : List UInt8}
abbrev lpushB : List UInt8 := [108, 112, 117, 115, 104]
abbrev rpushB : List UInt8 := [114, 112, 117, 115, 104]
abbrev rpoplpushB : List UInt8 := [114, 112, 111, 112, 108, 112, 117, 115, 104]
def pushN (left : Bool) : List UInt8 := if left then lpushB else rpushB
theorem pushL_len (left : Bool) (a b : List (List UInt8)) : (pushL left a b).length = b.length + a.length := by unfold pushL; cases left <;> simp <;> omega
theorem serves_push (hq : q ≠ []) {A more : List (List UInt8)} (hk : KeyIs S k A) (left : Bool) (hm : more ≠ []) (hs : ∀ x ∈ pushL left A more, x.length ≤ 1048576) (hB : more.length + 2 * A.length ≤ 1099511627776) (hc : c.num ≤ 1099511627770) {K : SP → Prop}
    (hK : ∀ H, KeyIs (S.put k H) k (pushL left A more) → K (S.put k H)) :
    Serves 36 w q p S c (pushN left) (k :: more) ⟨3, [], (pushL left A more).length, []⟩ K := by
  intro o1 w1 cb m sv hj hm0 hB1 hcb hv
  obtain ⟨e1, e2, e3, e4, e5⟩ := hk.at hj 0
  have hne : pushL left A more ≠ [] := fun e => by
    have := pushL_len left A more
    rw [e] at this
    have := List.length_pos_iff.2 hm
    simp at *
    omega
  have h : ∀ c0 nr, pushN left = c0 :: nr → ((c0 :: nr) == [108, 112, 117, 115, 104, 120]) = false → ((c0 :: nr) == [114, 112, 117, 115, 104, 120]) = false → ((c0.toNat : Int) == 108) = left →
      Calls Tryz.prog 36 #[.pointer (some ⟨cb, 0, none⟩)] w1 (RepL o1 w1 q p c ⟨3, [], (pushL left A more).length, []⟩ K) := by
    intro c0 nr en h1 h2 h3
    rw [en] at hcb
    have := lcpush_ok hj hq hcb (k := k) (more := more) (by simpa using hv) hm rfl rfl e2 (.inr ⟨h1, h2⟩) (left := left) h3 (by rw [e1]; exact hs) (by rw [e1]; exact hB) (by omega)
    rw [e1] at this
    exact this.mono fun e w' h => RepJ.repL h (hK _ (hk.put hj 0 hne _)) (by show c.num + 1 ≤ _; omega)
  cases left with
  | true => exact h 108 [112, 117, 115, 104] rfl (by decide) (by decide) (by decide)
  | false => exact h 114 [112, 117, 115, 104] rfl (by decide) (by decide) (by decide)
/-- Two keys' elements behind a move. -/
theorem serves_move (hq : q ≠ []) (hkl : k ≠ l) {nm : List UInt8} {rest : List (List UInt8)} {f t : Bool} (hsd : Sides nm rest f t) {x : List UInt8} {tl E : List (List UInt8)} (hk : KeyIs S k (endL f x tl)) (hl : KeyIs S l E)
    (hs : ∀ y ∈ endL t x tl, y.length ≤ 1048576) (hs2 : ∀ y ∈ E, y.length ≤ 1048576) (hB : tl.length ≤ 274877906944) (hB2 : E.length ≤ 274877906944) (hc : c.num ≤ 1099511627770) {K : SP → Prop}
    (hK : ∀ S', KeyIs S' k tl → KeyIs S' l (endL t x E) → K S') :
    Serves 38 w q p S c nm (k :: l :: rest) ⟨4, x, 0, []⟩ K := by
  intro o1 w1 cb m sv hj hm0 hB1 hcb hv
  obtain ⟨e1, e2, e3, e4, e5⟩ := hk.at hj 0
  obtain ⟨f1, f2, f3, f4, f5⟩ := hl.at hj 0
  obtain ⟨H, h1, h2, h3⟩ := e4 (by unfold endL; cases f <;> simp)
  have := lcmove_ok hj hq hm0 hcb (k := k) (l := l) (rest := rest) (by simpa using hv) hsd h1 h2 h3 rfl rfl f2 hs (by rw [f1]; exact hs2) hB (by rw [f1]; exact hB2) (by omega)
  refine this.mono fun e w' h => RepJ.repL h ?_ ?_
  · unfold SP.moveL
    rw [if_neg hkl, f1]
    exact hK _ ((hk.setL hj 0 tl _).setL_far hkl _ _ _) (by
      have hl2 := hl.setL_far (Ne.symm hkl) 0 tl (c.num + 1)
      unfold SP.setL
      have hne : endL t x E ≠ [] := by unfold endL; cases t <;> simp
      rw [if_neg hne]
      refine .inr ⟨hne, c.num + 1 + 1, ?_⟩
      show (if l = l then _ else _) = _
      rw [if_pos rfl]
      have hdu : (((if tl = [] then S.del k else S.put k ⟨listV tl, ((S.at 0 k).getD hd0).due, c.num + 1⟩ : SP).at 0 l).getD hd0).due = 0 := by
        have e : ((if tl = [] then S.del k else S.put k ⟨listV tl, ((S.at 0 k).getD hd0).due, c.num + 1⟩ : SP).at 0 l) = S.at 0 l := by
          unfold SP.at
          split
          · show ((if l = k then none else S l).filter _) = _; rw [if_neg (Ne.symm hkl)]
          · show ((if l = k then _ else S l).filter _) = _; rw [if_neg (Ne.symm hkl)]
        rw [e]; exact f3
      rw [hdu])
  · unfold Cnt.moveL
    rw [if_neg hkl]
    show c.num + 1 + 1 ≤ _
    omega
theorem serves_turn (hq : q ≠ []) {nm : List UInt8} {rest : List (List UInt8)} {f t : Bool} (hsd : Sides nm rest f t) {x : List UInt8} {tl : List (List UInt8)} (hk : KeyIs S k (endL f x tl))
    (hs : ∀ y ∈ endL t x tl, y.length ≤ 1048576) (hB : tl.length ≤ 274877906943) (hc : c.num ≤ 1099511627770) {K : SP → Prop}
    (hK : ∀ S', KeyIs S' k (endL t x tl) → K S') :
    Serves 38 w q p S c nm (k :: k :: rest) ⟨4, x, 0, []⟩ K := by
  intro o1 w1 cb m sv hj hm0 hB1 hcb hv
  obtain ⟨e1, e2, e3, e4, e5⟩ := hk.at hj 0
  obtain ⟨H, h1, h2, h3⟩ := e4 (by unfold endL; cases f <;> simp)
  have hmem : ∀ y ∈ endL f x tl, y.length ≤ 1048576 := fun y hy => hs y (by unfold endL at *; cases f <;> cases t <;> simp at hy ⊢ <;> rcases hy with hy | hy <;> simp [hy])
  have := lcmove_ok hj hq hm0 hcb (k := k) (l := k) (rest := rest) (by simpa using hv) hsd h1 h2 h3 rfl rfl e2 hs (by rw [e1]; exact hmem) (by omega) (by rw [e1, endL_len]; omega) (by omega)
  refine this.mono fun e w' h => RepJ.repL h ?_ ?_
  · unfold SP.moveL
    rw [if_pos rfl]
    exact hK _ (hk.setL hj 0 _ _)
  · unfold Cnt.moveL
    rw [if_pos rfl]
    show c.num + 1 ≤ _
    omega
end
end Go.Proofs.YtgmmeeikjofefaaGreatDoor
