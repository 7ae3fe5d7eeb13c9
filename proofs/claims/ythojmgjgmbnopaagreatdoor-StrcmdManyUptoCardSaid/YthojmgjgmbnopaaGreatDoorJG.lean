import Derived.Test.YthojmgjgmbnopaaGreatDoorVa
import Derived.Test.YthojmgjgmbnopaaGreatDoorVb
import Derived.Test.YthojmgjgmbnopaaGreatDoorVc
import Derived.Test.YthojmgjgmbnopaaGreatDoorVd
import Derived.Test.YthojmgjgmbnopaaGreatDoorVe
import Derived.Test.YthojmgjgmbnopaaGreatDoorUe
namespace Go.Proofs.YthojmgjgmbnopaaGreatDoor
open Go Go.RowKit
theorem vcheck_any {A : Nat → Prop} {w : World} {V : VV} {l f r : Value} (h : Val3 A w V l f r) (hs : VSmall V) : Calls Tryz.prog 73 #[valV V l f r] w (VCh w (chkV V)) := by
  by_cases h1 : V.kind = 1
  · exact vcheck_k1 h hs h1
  by_cases h2 : V.kind = 2
  · exact vcheck_k2 h hs h2
  by_cases h3 : V.kind = 3
  · exact vcheck_k3 h hs h3
  by_cases h4 : V.kind = 4
  · exact vcheck_k4 h hs h4
  by_cases h5 : V.kind = 5
  · exact vcheck_k5 h hs h5
  have hk : V.kind < 1 ∨ 5 < V.kind := by omega
  obtain ⟨a1, c1, e1, _⟩ := h.list.slice
  obtain ⟨a2, c2, e2, _⟩ := h.fields.slice
  obtain ⟨a3, c3, e3, _⟩ := h.ranked.slice
  have HO := Lib.hid (fun W => vofA_none W l f r V hk ⟨_, _, _, e1⟩ ⟨_, _, _, e2⟩ ⟨_, _, _, e3⟩)
  have hc : chkV V = 130 := by unfold chkV; rw [if_pos hk]
  rw [hc]
  obtain ⟨kind, text, list, fields, ranked⟩ := V
  dsimp only at e1 e2 e3 HO
  subst e1 e2 e3
  clear h hs h1 h2 h3 h4 h5 hk hc
  go_enter Tryz.func73, Tryz.ntmps73
  go_wp2_with fail
  refine (HO.out _).mono ?_; rintro e w2 ⟨rfl, hB2⟩
  have HB2 := Lib.hid (((Below.refl w.heap.size w).alloc (Nat.le_refl _) _).trans (hB2.mono (by simp)))
  clear hB2 HO
  go_wp2_with fail
  go_ret
  exact ⟨rfl, HB2.out⟩
end Go.Proofs.YthojmgjgmbnopaaGreatDoor
namespace Go.Proofs.YthojmgjgmbnopaaGreatDoor
open Go Go.RowKit
/-! The program's Put of any value with any deadline. -/
theorem fit_zero {V : VV} {d : Int} (h : fitV V d = 0) : chkV V = 0 ∧ 0 ≤ d ∧ d ≤ 9007199254740992 := by
  unfold fitV at h
  by_cases h1 : chkV V = 0
  · rw [if_neg (by simpa using h1)] at h
    by_cases h2 : d < 0 ∨ 9007199254740992 < d
    · rw [if_pos h2] at h; cases h
    · exact ⟨h1, by omega⟩
  · rw [if_pos h1] at h; exact absurd h h1
set_option maxRecDepth 10000 in
theorem tick_bad (w : World) (n : Int) (h : n < 0 ∨ 9007199254740992 < n) : Calls Tryz.prog 74 #[.int .i64 n] w fun e w' => e = .returned (.bool false) ∧ w' = w := by
  by_cases h0 : n < 0
  · have d0 : decide (0 ≤ n) = false := decide_eq_false (by omega)
    have h1 : ¬ 0 ≤ n := by omega
    clear h d0
    go_enter Tryz.func74, Tryz.ntmps74
    go_wp2
    go_ret
    exact ⟨rfl, rfl⟩
  · have h0 : 0 ≤ n := by omega
    have h1 : ¬ n ≤ 9007199254740992 := by omega
    clear h
    go_enter Tryz.func74, Tryz.ntmps74
    go_wp2
    go_ret
    exact ⟨rfl, rfl⟩
section
variable {o : Roles} {w : World} {q : List Nat} {p : Nat} {c : Cnt} {S : SP}
set_option maxRecDepth 10000 in
set_option maxHeartbeats 1000000 in
theorem jput_bad {A : Nat → Prop} {V : VV} {l f r : Value} {d : Int} (k : Tx) (hv : Val3 A w V l f r) (hs : VSmall V) (hfit : fitV V d ≠ 0) :
    Calls Tryz.prog 32 #[.pointer (some ⟨p, 0, none⟩), txt k, valV V l f r, .int .i64 d] w (VCh w (fitV V d)) := by
  obtain ⟨a1, c1, e1, _⟩ := hv.list.slice
  obtain ⟨a2, c2, e2, _⟩ := hv.fields.slice
  obtain ⟨a3, c3, e3, _⟩ := hv.ranked.slice
  subst e1 e2 e3
  have HCK := Lib.hid (fun W (hB : Below w.heap.size w W) => vcheck_any (hv.below hB) hs)
  have HB1 := Lib.hid ((Below.refl w.heap.size w).alloc (Nat.le_refl _) (.cells #[.int .i64 V.kind, .string ⟨V.text.toArray⟩, .slice a1 V.list.length c1, .slice a2 V.fields.length c2, .slice a3 V.ranked.length c3] 43))
  by_cases h1 : chkV V = 0
  · have h2 : d < 0 ∨ 9007199254740992 < d := by
      unfold fitV at hfit
      rw [if_neg (by simpa using h1)] at hfit
      by_cases h2 : d < 0 ∨ 9007199254740992 < d
      · exact h2
      · rw [if_neg h2] at hfit; exact absurd rfl hfit
    have hr : fitV V d = 70 := by unfold fitV; rw [if_neg (by simpa using h1), if_pos h2]
    rw [hr]
    rw [h1] at HCK
    have HT := Lib.hid (fun W => tick_bad W d h2)
    obtain ⟨kind, text, list, fields, ranked⟩ := V
    dsimp only at *
    clear hv hs hfit h1 h2 hr
    unfold txt
    go_enter Tryz.func32, Tryz.ntmps32
    go_wp2_with fail
    refine (HCK.out _ HB1.out).mono ?_; rintro e w2 ⟨rfl, hB2⟩
    have HB2 := Lib.hid (HB1.out.trans (hB2.mono HB1.out.size))
    clear hB2 HCK HB1
    go_wp2_with fail
    refine (HT.out _).mono ?_; rintro e w3 ⟨rfl, rfl⟩
    go_wp2_with fail
    go_ret
    exact ⟨rfl, HB2.out⟩
  · have hr : fitV V d = chkV V := by unfold fitV; rw [if_pos h1]
    rw [hr]
    have hn1 : (chkV V == 0) = false := by simpa using h1
    have hn2 : (chkV V != 0) = true := by simpa using h1
    generalize chkV V = n at *
    obtain ⟨kind, text, list, fields, ranked⟩ := V
    dsimp only at *
    clear hv hs hfit h1 hr
    unfold txt
    go_enter Tryz.func32, Tryz.ntmps32
    go_wp2_with fail
    refine (HCK.out _ HB1.out).mono ?_; rintro e w2 ⟨rfl, hB2⟩
    have HB2 := Lib.hid (HB1.out.trans (hB2.mono HB1.out.size))
    clear hB2 HCK HB1
    go_wp2_with fail
    go_ret
    exact ⟨rfl, HB2.out⟩
theorem jput_fine {A : Nat → Prop} {V : VV} {l f r : Value} {d : Int} (h : SpJ o w q p S c) (k : Tx) (hv : Val3 A w V l f r) (hs : VSmall V) (hA : ∀ b, A b → b ≠ p) (hfit : fitV V d = 0) (hc : c.num ≤ 4611686018427387904) (hf : c.few ≤ 1099511627776) :
    Calls Tryz.prog 32 #[.pointer (some ⟨p, 0, none⟩), txt k, valV V l f r, .int .i64 d] w (PutJ o w q p (S.put k ⟨V, d, c.num + 1⟩) c.next) :=
  jput_ok h k hv hs hA d (fit_zero hfit).2 (fun W hB => by have := vcheck_any (hv.below hB) hs; rw [(fit_zero hfit).1] at this; exact this) hc hf
end
end Go.Proofs.YthojmgjgmbnopaaGreatDoor
namespace Go.Proofs.YthojmgjgmbnopaaGreatDoor
open Go Go.RowKit
/-! Starts of any values: what Begun makes of them. -/
structure ST where
  key : Tx
  v : VV
  due : Int
  l : Value
  f : Value
  r : Value
abbrev ST.cells (s : ST) : List Value := [.string ⟨s.key.toArray⟩, .int .i64 s.v.kind, .string ⟨s.v.text.toArray⟩, s.l, s.f, s.r, .int .i64 s.due]
def stC (L : List ST) : List Value := L.flatMap ST.cells
def StsOk (A : Nat → Prop) (w : World) (L : List ST) : Prop := ∀ s ∈ L, Val3 A w s.v s.l s.f s.r ∧ VSmall s.v
theorem stC_len (X : List ST) : (stC X).length = X.length * 7 := by
  unfold stC
  induction X with
  | nil => rfl
  | cons x t ih => simp only [List.flatMap_cons, List.length_append, List.length_cons, List.length_nil, ih]; omega
theorem stC_app (X Y : List ST) : stC (X ++ Y) = stC X ++ stC Y := by unfold stC; exact List.flatMap_append
theorem vw_sts {A : Nat → Prop} {w : World} {v : Value} {n : Nat} {X : List ST} (h : Vw A w v 7 n (stC X)) {k : Nat} {y : ST} (hy : X[k]? = some y) : ∃ b off cap, v = .slice (some ⟨b, off, none⟩) n cap ∧ n ≤ cap ∧ b < w.heap.size ∧ A b ∧
    ∀ (k : Nat) (y : ST), X[k]? = some y → ∀ (j : Nat) (u : Value), y.cells[j]? = some u → w.cell? ⟨b, off + k * 7 + j, none⟩ = some u := by
  have hlen : X.length = n := by have := h.len; rw [stC_len] at this; omega
  have hk : k < X.length := (List.getElem?_eq_some_iff.1 hy).1
  obtain ⟨⟨a', c', e, h1, h2, h3⟩, h4⟩ := h
  subst e
  rcases h3 with h3 | ⟨b, off, rfl, g5, g6, g7⟩
  · omega
  refine ⟨b, off, c', rfl, h1, g5, g6, fun k y hy j u hj => ?_⟩
  have hk : k < X.length := (List.getElem?_eq_some_iff.1 hy).1
  have hd : X = X.take k ++ y :: X.drop (k + 1) := by
    have e1 : X.drop k = y :: X.drop (k + 1) := by
      rw [List.drop_eq_getElem_cons hk]
      congr 1
      rw [List.getElem?_eq_getElem hk] at hy
      cases hy; rfl
    rw [← e1, List.take_append_drop]
  have hj2 : j < 7 := (List.getElem?_eq_some_iff.1 hj).1
  have := g7 (k * 7 + j) u (by
    rw [hd, stC_app, List.getElem?_append_right (by rw [stC_len, List.length_take]; omega)]
    rw [stC_len, List.length_take, Nat.min_eq_left (Nat.le_of_lt hk)]
    show (y.cells ++ stC (X.drop (k + 1)))[_]? = _
    rw [show k * 7 + j - k * 7 = j by omega, List.getElem?_append_left (by simpa using hj2)]
    exact hj)
  rw [← Nat.add_assoc] at this; exact this
/-- What a row of starts comes to: the keys, and how many were let in. -/
def begS : List ST → SP × Nat → SP × Nat
  | [], a => a
  | s :: t, a => begS t (if fitV s.v s.due = 0 then (a.1.put s.key ⟨s.v, s.due, a.2 + 1⟩, a.2 + 1) else a)
theorem begS_app : ∀ (a b : List ST) (x : SP × Nat), begS (a ++ b) x = begS b (begS a x)
  | [], _, _ => rfl
  | _ :: t, b, _ => begS_app t b _
theorem begS_le : ∀ (l : List ST) (x : SP × Nat), (begS l x).2 ≤ x.2 + l.length
  | [], _ => Nat.le_refl _
  | s :: t, x => by
    have h := begS_le t (if fitV s.v s.due = 0 then (x.1.put s.key ⟨s.v, s.due, x.2 + 1⟩, x.2 + 1) else x)
    unfold begS
    refine Nat.le_trans h ?_
    simp only [List.length_cons]
    split <;> omega
def zeroS : SP × Nat := (fun _ => none, 0)
/-- Do the document's entries hold what the space holds? -/
def Agree (X : List EV) (S : SP) : Prop := ∀ k, (getX X k).map EV.hd = S k
theorem Agree.put {X : List EV} {S : SP} (h : Agree X S) (e : EV) : Agree (putX X e) (S.put e.key e.hd) := by
  intro k
  rw [putX_get]
  unfold SP.put
  by_cases hk : e.key = k
  · subst hk
    simp
  · have h1 : (e.key == k) = false := beq_eq_false_iff_ne.2 hk
    rw [h1]
    simp only [Bool.false_eq_true, if_false]
    rw [h k]
    first | (rw [if_neg (fun e => hk e.symm)]; done) | (rw [if_neg hk]; done) | (simp [hk]; done) | (simp [Ne.symm hk])
end Go.Proofs.YthojmgjgmbnopaaGreatDoor
