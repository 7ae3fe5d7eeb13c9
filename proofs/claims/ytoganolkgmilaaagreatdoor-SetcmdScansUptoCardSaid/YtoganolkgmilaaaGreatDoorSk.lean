import Derived.Test.YtoganolkgmilaaaGreatDoorSv
namespace Go.Proofs.YtoganolkgmilaaaGreatDoor
open Go Go.RowKit
/-! A scan's steps: plain lists. -/
theorem rest_filter (F : List Tx) (cu : Option Tx) (P : Tx → Bool) : (restL F cu).filter P = restL (F.filter P) cu := by
  cases cu with
  | none => rfl
  | some m =>
    unfold restL afterP
    simp only [List.filter_filter]
    congr 1; funext x; exact Bool.and_comm _ _
theorem rest_asc {F : List Tx} (h : Asc F) (cu : Option Tx) : Asc (restL F cu) := by
  cases cu with
  | none => exact h
  | some m => exact h.sub List.filter_sublist
theorem asc_split {R : List Tx} (h : Asc R) {j : Nat} {m : Tx} (hm : R[j]? = some m) : afterP R m = R.drop (j + 1) := by
  have hj : j < R.length := (List.getElem?_eq_some_iff.1 hm).1
  have e : R = R.take j ++ m :: R.drop (j + 1) := by
    have e1 : R.drop j = m :: R.drop (j + 1) := by
      rw [List.drop_eq_getElem_cons hj]
      congr 1
      rw [List.getElem?_eq_getElem hj] at hm
      cases hm; rfl
    rw [← e1, List.take_append_drop]
  unfold Asc at h
  rw [e, List.pairwise_append, List.pairwise_cons] at h
  obtain ⟨h1, ⟨h2, h3⟩, h4⟩ := h
  unfold afterP
  conv => lhs; rw [e]
  rw [List.filter_append, List.filter_cons, if_neg (by
    intro h
    exact ltB_ne h rfl)]
  rw [List.filter_eq_nil_iff.2 fun x hx => by
    have := ltB_asymm (h4 x hx m (by simp))
    simp [this]]
  rw [List.nil_append, List.filter_eq_self]
  exact fun x hx => h2 x hx
theorem after_rest {F : List Tx} {cu : Option Tx} {m : Tx} (hm : m ∈ restL F cu) : afterP F m = afterP (restL F cu) m := by
  cases cu with
  | none => rfl
  | some m0 =>
    have h0 : ltB m0 m = true := (List.mem_filter.1 hm).2
    unfold restL afterP
    rw [List.filter_filter]
    congr 1; funext x
    cases h : ltB m x with
    | false => rfl
    | true => rw [show ltB m0 x = true from less_trans m0 m x h0 h]; rfl
theorem scan_step {L F : List Tx} {P : Tx → Bool} (hF : Asc F) (hFP : F.filter P = L) {cu : Option Tx} {G R : List Tx} (hG : G ++ restL L cu = L) (hR : restL F cu = R) {j : Nat} (hj : j ≤ R.length) (h0 : j < R.length → 0 < j) :
    (∀ m, nextC R j = some m → (G ++ (R.take j).filter P) ++ restL L (some m) = L ∧ (restL L (some m)).length + ((R.take j).filter P).length = (restL L cu).length) ∧ (nextC R j = none → G ++ (R.take j).filter P = L) := by
  have hRP : R.filter P = restL L cu := by rw [← hR, rest_filter, hFP]
  have hsp : (R.take j).filter P ++ (R.drop j).filter P = restL L cu := by rw [← List.filter_append, List.take_append_drop, hRP]
  have hRa : Asc R := by rw [← hR]; exact rest_asc hF cu
  constructor
  · intro m hm
    unfold nextC at hm
    split at hm
    · rename_i hjr
      obtain ⟨i, rfl⟩ : ∃ i, j = i + 1 := ⟨j - 1, by have := h0 hjr; omega⟩
      rw [Nat.add_sub_cancel] at hm
      have e1 : restL F (some m) = R.drop (i + 1) := by
        show afterP F m = _
        rw [after_rest (cu := cu) (by rw [hR]; exact List.mem_of_getElem? hm), hR]
        exact asc_split hRa hm
      have e2 : restL L (some m) = (R.drop (i + 1)).filter P := by rw [← hFP, ← rest_filter, e1]
      rw [e2, List.append_assoc, hsp]
      refine ⟨hG, ?_⟩
      rw [← hsp, List.length_append, Nat.add_comm]
    · cases hm
  · intro hn
    unfold nextC at hn
    split at hn
    · rename_i hjr
      have := h0 hjr
      rw [List.getElem?_eq_getElem (by omega)] at hn
      cases hn
    · rename_i hjr
      rw [List.take_of_length_le (by omega), hRP]
      exact hG
/-- Which elements a law of scans keeps; what the key holds ahead of a step. -/
def keepP (hb : Bool) (other : Tx) (x : Tx) : Bool := decide (x ≠ other) || hb
def FOk (hb : Bool) (L : List Tx) (other : Tx) (k : Nat) (F : List Tx) : Prop := F = if hb then L else if k % 2 = 0 then L else ofL (L ++ [other])
theorem fok_filter {hb : Bool} {L : List Tx} {other : Tx} {k : Nat} {F : List Tx} (hL : Asc L) (hbm : hb = decide (other ∈ L)) (h : FOk hb L other k F) : Asc F ∧ F.filter (keepP hb other) = L := by
  unfold FOk at h
  cases hb with
  | true =>
    rw [if_pos rfl] at h
    subst h
    exact ⟨hL, List.filter_eq_self.2 fun x _ => by unfold keepP; simp⟩
  | false =>
    have hn : other ∉ L := of_decide_eq_false hbm.symm
    rw [if_neg (by decide)] at h
    split at h
    · subst h
      refine ⟨hL, List.filter_eq_self.2 fun x hx => ?_⟩
      unfold keepP
      have : x ≠ other := fun e => hn (e ▸ hx)
      simp [this]
    · subst h
      refine ⟨ofL_asc _, Asc.ext ((ofL_asc _).sub List.filter_sublist) hL fun x => ?_⟩
      rw [List.mem_filter, ofL_mem, List.mem_append, List.mem_singleton]
      unfold keepP
      constructor
      · rintro ⟨h1 | h1, h2⟩
        · exact h1
        · simp [h1] at h2
      · intro hx
        exact ⟨.inl hx, by have : x ≠ other := fun e => hn (e ▸ hx); simp [this]⟩
theorem fok_len {hb : Bool} {L : List Tx} {other : Tx} {k : Nat} {F : List Tx} (h : FOk hb L other k F) : F.length ≤ L.length + 1 := by
  unfold FOk at h
  subst h
  split
  · omega
  · split
    · omega
    · have := ofL_len (L ++ [other]); simpa using this
theorem fok_mem {hb : Bool} {L : List Tx} {other : Tx} {k : Nat} {F : List Tx} (h : FOk hb L other k F) {x : Tx} (hx : x ∈ F) : x ∈ L ∨ x = other := by
  unfold FOk at h
  subst h
  split at hx
  · exact .inl hx
  · split at hx
    · exact .inl hx
    · rw [ofL_mem] at hx; simpa using hx
theorem fok_even {L : List Tx} {other : Tx} {k : Nat} (hk : k % 2 = 0) {F : List Tx} (h : FOk false L other k F) : F = L ∧ FOk false L other (k + 1) (nextL true F [other]) := by
  unfold FOk at h
  rw [if_neg (by decide), if_pos hk] at h
  subst h
  refine ⟨rfl, ?_⟩
  unfold FOk
  rw [if_neg (by decide), if_neg (by omega)]
  rfl
theorem fok_odd {L : List Tx} {other : Tx} {k : Nat} (hL : Asc L) (hn : other ∉ L) (hk : k % 2 = 1) {F : List Tx} (h : FOk false L other k F) : FOk false L other (k + 1) (nextL false F [other]) := by
  unfold FOk at h
  rw [if_neg (by decide), if_neg (by omega)] at h
  subst h
  unfold FOk
  rw [if_neg (by decide), if_pos (by omega)]
  show lessL _ _ = L
  refine Asc.ext (lessL_asc _ _) hL fun x => ?_
  rw [lessL_mem, ofL_mem, List.mem_append, List.mem_singleton]
  constructor
  · rintro ⟨h1 | h1, h2⟩
    · exact h1
    · exact absurd h1 (by simpa using h2)
  · intro hx
    exact ⟨.inl hx, by have : x ≠ other := fun e => hn (e ▸ hx); simpa using this⟩
theorem fok_true {L : List Tx} {other : Tx} {k : Nat} {F : List Tx} (h : FOk true L other k F) : F = L ∧ FOk true L other (k + 1) F := ⟨h, h⟩
/-- How far the steps can go. -/
theorem scan_far {hb : Bool} {L F : List Tx} {other : Tx} {k : Nat} (hbm : hb = decide (other ∈ L)) (hF : FOk hb L other k F) {cu : Option Tx} {R : List Tx} (hR : restL F cu = R) {j : Nat} (hj : j ≤ R.length) (h0 : 0 < j) {r r' : Nat}
    (hr : k + 2 * r + (if hb then 0 else k % 2) ≤ 2 * L.length) (hk : r' + ((R.take j).filter (keepP hb other)).length = r) : k + 1 + 2 * r' + (if hb then 0 else (k + 1) % 2) ≤ 2 * L.length := by
  have hall : (F = L) → ((R.take j).filter (keepP hb other)).length = j := by
    intro hFL
    rw [List.filter_eq_self.2]
    · simp; omega
    · intro x hx
      have hxL : x ∈ L := by
        have := List.mem_of_mem_take hx
        rw [← hR, hFL] at this
        cases cu with
        | none => exact this
        | some m => exact (List.mem_filter.1 this).1
      unfold keepP
      cases hb with
      | true => simp
      | false =>
        have hn : other ∉ L := of_decide_eq_false hbm.symm
        have : x ≠ other := fun e => hn (e ▸ hxL)
        simp [this]
  cases hb with
  | true =>
    have := hall (fok_true hF).1
    simp only [if_true] at hr ⊢
    omega
  | false =>
    simp only [Bool.false_eq_true, if_false] at hr ⊢
    by_cases he : k % 2 = 0
    · have := hall (fok_even he hF).1
      omega
    · omega
end Go.Proofs.YtoganolkgmilaaaGreatDoor
