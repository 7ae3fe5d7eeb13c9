import Derived.Test.YtgdgnpjgemcjgaaE
namespace Go.Proofs.Ytgdgnpjgemcjgaa
open Go Go.RowKit
theorem blank_v {c : UInt8} {q : Bool} (h : blankB c = q) (w : World) : Calls Try.prog 33 #[.int .u8 (c.toNat : Int)] w fun e w' => e = .returned (.bool q) ∧ w' = w := by
  subst h; exact blank_ok c w
theorem rblank_v {c : UInt8} {q : Bool} (h : blankB c = q) (w : World) : Calls Try.prog 35 #[.int .u8 (c.toNat : Int)] w fun e w' => e = .returned (.bool q) ∧ w' = w := by
  subst h; exact rblank_ok c w
theorem double_at {o : Roles} {w : World} {r : List Nat} {v : Value} {b0 : List UInt8} {s : List UInt8} (i0 : Nat) (h : Row o w r 5 1 v b0.length (b0.map bv)) (hb : b0.length ≤ i0) (hi : i0 ≤ s.length) (hs : s.length ≤ 1099511627776) (I : Int) (hI : I = i0) :
    Calls Try.prog 44 #[v, .string ⟨s.toArray⟩, .int .i64 I] w (PartDid doubleL o w r s i0 b0) := by
  subst hI; exact double_ok i0 h hb hi hs
theorem single_at {o : Roles} {w : World} {r : List Nat} {v : Value} {b0 : List UInt8} {s : List UInt8} (i0 : Nat) (h : Row o w r 5 1 v b0.length (b0.map bv)) (hb : b0.length ≤ i0) (hi : i0 ≤ s.length) (hs : s.length ≤ 1099511627776) (I : Int) (hI : I = i0) :
    Calls Try.prog 45 #[v, .string ⟨s.toArray⟩, .int .i64 I] w (PartDid singleL o w r s i0 b0) := by
  subst hI; exact single_ok i0 h hb hi hs
theorem rdouble_at {o : Roles} {w : World} {r : List Nat} {s : List UInt8} (i0 : Nat) (hi : i0 ≤ s.length) (hs : s.length ≤ 1099511627776) (I : Int) (hI : I = i0) :
    Calls Try.prog 36 #[.string ⟨s.toArray⟩, .int .i64 I] w (PartDid doubleL o w r s i0 []) := by
  subst hI; exact rdouble_ok i0 hi hs
theorem rsingle_at {o : Roles} {w : World} {r : List Nat} {s : List UInt8} (i0 : Nat) (hi : i0 ≤ s.length) (hs : s.length ≤ 1099511627776) (I : Int) (hI : I = i0) :
    Calls Try.prog 37 #[.string ⟨s.toArray⟩, .int .i64 I] w (PartDid singleL o w r s i0 []) := by
  subst hI; exact rsingle_ok i0 hi hs

theorem bneT {b : UInt8} (c : UInt8) (h : ¬ b = c) : ((b.toNat : Int) != (c.toNat : Int)) = true := by simp [bne, beqI, h]

/-! ### A row of bytes, and its text -/
theorem fold_push (l : List UInt8) : ∀ s : ByteArray, (l.map fun b : UInt8 => (b.toNat : Int)).foldl (fun r n => r.push (UInt8.ofNat n.toNat)) s = ⟨s.data ++ l.toArray⟩ := by
  induction l with
  | nil => intro s; simp
  | cons b l ih =>
    intro s
    rw [List.map_cons, List.foldl_cons, ih]
    have e : UInt8.ofNat ((b.toNat : Int)).toNat = b := by simp
    rw [e]
    congr 1
    apply Array.ext'
    simp [ByteArray.push]
theorem run_bytes_text (w : World) (a : Addr) (cap : Nat) (l : List UInt8) (h : ∀ j v, (l.map bv)[j]? = some v → w.cell? (a.add j) = some v) (n : Nat) (hn : n = l.length) :
    (convert 62 9 (.slice (some a) n cap)).run Try.prog w = .ok (.string ⟨l.toArray⟩) w := by
  subst hn
  rw [run_convert_bytes_string w 62 9 5 _ _ _ Try.underlying62 Try.underlying5 Try.underlying9]
  have hl := run_loadCells_list (P := Try.prog) w a (l.map bv) h
  rw [List.length_map] at hl
  have e : l.map bv = (l.map fun b : UInt8 => (b.toNat : Int)).map (Value.int .u8) := by rw [List.map_map]; rfl
  rw [run_bytesToString w a l.length cap (l.map fun b : UInt8 => (b.toNat : Int)) (by rw [← e]; exact hl), fold_push]
  simp
theorem row_text {o : Roles} {w : World} {r : List Nat} {v : Value} {l : List UInt8} (h : Row o w r 5 1 v l.length (l.map bv)) :
    (convert 62 9 v).run Try.prog w = .ok (.string ⟨l.toArray⟩) w := by
  rcases h.form with ⟨rfl, h2, _⟩ | ⟨g, cap, cur, rfl, hb, h3, h4, h5, h6⟩
  · obtain rfl := List.eq_nil_of_length_eq_zero h2
    rw [run_convert_bytes_string _ 62 9 5 _ _ _ Try.underlying62 Try.underlying5 Try.underlying9]
    simp [Conv.bytesToString]
    rfl
  · refine run_bytes_text _ _ _ _ (fun q u hq => ?_) _ rfl
    have e : (⟨g, 0, none⟩ : Addr).add q = ⟨g, q, none⟩ := by unfold Addr.add; split <;> simp_all
    rw [e, hb.cell, ← Array.getElem?_toList, ← hq, ← h6, List.getElem?_take, if_pos (by have := (List.getElem?_eq_some_iff.1 hq).1; simpa using this)]
/-- A row is a source. -/
theorem Row.src {P : Program} {o : Roles} {w : World} {r : List Nat} {e e' tx : TypeId} {sz n : Nat} {v : Value} {xs : List Value} (h : Row o w r e sz v n xs) (hk : P.underlying tx = some (.slice e')) (h1 : ∀ u ∈ xs, u.oneCell' = true) : Src P sz tx v n xs w := by
  have hl := h.len
  rcases h.form with ⟨rfl, rfl, rfl⟩ | ⟨g, cap, cur, rfl, hb, h3, h4, h5, h6⟩
  · exact Src.ofNil _ hk 0
  · refine Src.ofSlice _ hk _ _ _ _ hl (fun j u hj => ?_) h1
    have e : (⟨g, 0, none⟩ : Addr).add j = ⟨g, j, none⟩ := by unfold Addr.add; split <;> simp_all
    rw [e, hb.cell, ← Array.getElem?_toList, ← hj, ← h6, List.getElem?_take, if_pos (by have := (List.getElem?_eq_some_iff.1 hj).1; omega)]

/-! ### Words, plain -/
theorem singleL_lt : ∀ (l p r : List UInt8), singleL l = some (p, r) → p.length + r.length < l.length
  | [], _, _, h => by simp [singleL] at h
  | [b], p, r, h => by
    simp only [singleL] at h
    split at h
    · cases h; simp
    · cases h
  | b :: c :: r', p, r, h => by
    simp only [singleL] at h
    split at h
    · cases h; simp
    · split at h
      · obtain ⟨⟨p1, r1⟩, h1, h2⟩ := Option.map_eq_some_iff.1 h
        cases h2
        have := singleL_lt r' p1 _ h1
        simp only [List.length_cons]; omega
      · obtain ⟨⟨p1, r1⟩, h1, h2⟩ := Option.map_eq_some_iff.1 h
        cases h2
        have := singleL_lt (c :: r') p1 _ h1
        simp only [List.length_cons] at this ⊢; omega
theorem doubleL_lt (n : Nat) : ∀ (l p r : List UInt8), l.length ≤ n → doubleL l = some (p, r) → p.length + r.length < l.length := by
  induction n with
  | zero =>
    intro l p r hn h
    obtain rfl := List.eq_nil_of_length_eq_zero (Nat.le_zero.1 hn)
    simp [doubleL] at h
  | succ n ih =>
    intro l p r hn h
    rw [doubleL.eq_def] at h
    split at h
    · cases h
    · rename_i b t
      simp only [List.length_cons] at hn
      split at h
      · cases h; simp
      · split at h
        · cases h
        · rename_i c r'
          simp only [List.length_cons] at hn
          split at h
          · split at h
            · rename_i h1 h2 r''
              simp only [List.length_cons] at hn
              split at h
              · obtain ⟨⟨p1, r1⟩, e1, e2⟩ := Option.map_eq_some_iff.1 h
                cases e2
                have := ih _ _ _ (by omega) e1
                simp only [List.length_cons]; omega
              · obtain ⟨⟨p1, r1⟩, e1, e2⟩ := Option.map_eq_some_iff.1 h
                cases e2
                have := ih _ _ _ (by simp only [List.length_cons]; omega) e1
                simp only [List.length_cons] at this ⊢; omega
            · obtain ⟨⟨p1, r1⟩, e1, e2⟩ := Option.map_eq_some_iff.1 h
              cases e2
              have := ih _ _ _ (by simp only [List.length_cons, List.length_nil] at hn ⊢; omega) e1
              simp only [List.length_cons, List.length_nil] at this ⊢; omega
            · cases h
          · obtain ⟨⟨p1, r1⟩, e1, e2⟩ := Option.map_eq_some_iff.1 h
            cases e2
            have := ih _ _ _ (by simp only [List.length_cons]; omega) e1
            simp only [List.length_cons] at this ⊢; omega
theorem wordL_le : ∀ (l p r : List UInt8), wordL l = some (p, r) → p.length + r.length ≤ l.length
  | [], _, _, h => by simp [wordL] at h; simp [h]
  | b :: t, p, r, h => by
    simp only [wordL] at h
    split at h
    · cases h; simp
    · split at h
      · obtain ⟨⟨p1, r1⟩, e1, e2⟩ := Option.map_eq_some_iff.1 h
        cases e2
        have := wordL_le t p1 _ e1
        simp only [List.length_cons]; omega
      · split at h
        · cases h
        · rename_i part rest heq
          split at h
          · cases h
            split at heq
            · have := doubleL_lt _ _ _ _ (Nat.le_refl _) heq; simp only [List.length_cons]; omega
            · have := singleL_lt _ _ _ heq; simp only [List.length_cons]; omega
          · cases h
theorem wordL_lt {b : UInt8} {t p r : List UInt8} (hb : blankB b = false) (h : wordL (b :: t) = some (p, r)) : r.length < (b :: t).length := by
  simp only [wordL, hb] at h
  split at h
  · rename_i hh; cases hh
  · split at h
    · obtain ⟨⟨p1, r1⟩, e1, e2⟩ := Option.map_eq_some_iff.1 h
      cases e2
      have := wordL_le t p1 _ e1
      simp; omega
    · split at h
      · cases h
      · rename_i part rest heq
        split at h
        · cases h
          split at heq
          · have := doubleL_lt _ _ _ _ (Nat.le_refl _) heq; simp; omega
          · have := singleL_lt _ _ _ heq; simp; omega
        · cases h
theorem word_ends : ∀ {l : List UInt8}, endsWord l = true → wordL l = some ([], l)
  | [], _ => rfl
  | b :: r, h => by
    have hb : blankB b = true := h
    simp [wordL, hb]
theorem word_go {s : List UInt8} {k : Nat} {b : UInt8} (h : s[k]? = some b) (h0 : blankB b = false) (h1 : b ≠ 34) (h2 : b ≠ 39) : wordL (s.drop k) = (wordL (s.drop (k + 1))).map (pre [b]) := by
  rw [drop_at h]
  rw [wordL, h0, if_neg (by decide), if_pos ⟨h1, h2⟩]
  rfl
theorem word_none {s : List UInt8} {k : Nat} {b : UInt8} (h : s[k]? = some b) (h1 : b = 34 ∧ doubleL (s.drop (k + 1)) = none ∨ b = 39 ∧ singleL (s.drop (k + 1)) = none) : wordL (s.drop k) = none := by
  rw [drop_at h]
  rcases h1 with ⟨rfl, h1⟩ | ⟨rfl, h1⟩
  · simp only [wordL, show blankB 34 = false by decide]
    simp [h1]
  · simp only [wordL, show blankB 39 = false by decide]
    simp [h1]
theorem word_part {s part rest : List UInt8} {k : Nat} {b : UInt8} (h : s[k]? = some b) (h1 : b = 34 ∧ doubleL (s.drop (k + 1)) = some (part, rest) ∨ b = 39 ∧ singleL (s.drop (k + 1)) = some (part, rest)) : wordL (s.drop k) = if endsWord rest then some (part, rest) else none := by
  rw [drop_at h]
  rcases h1 with ⟨rfl, h1⟩ | ⟨rfl, h1⟩
  · simp only [wordL, show blankB 34 = false by decide]
    simp [h1]
  · simp only [wordL, show blankB 39 = false by decide]
    simp [h1]
theorem word_bad {s part : List UInt8} {k n : Nat} {b c : UInt8} (h : s[k]? = some b) (h1 : b = 34 ∧ doubleL (s.drop (k + 1)) = some (part, s.drop n) ∨ b = 39 ∧ singleL (s.drop (k + 1)) = some (part, s.drop n)) (hc : s[n]? = some c) (hb : blankB c = false) : wordL (s.drop k) = none := by
  rw [word_part h h1, drop_at hc]
  simp [endsWord, hb]
theorem ends_len {s : List UInt8} {n : Nat} (h : s.length ≤ n) : endsWord (s.drop n) = true := by rw [List.drop_eq_nil_of_le h]; rfl
theorem ends_at {s : List UInt8} {n : Nat} {c : UInt8} (hc : s[n]? = some c) (hb : blankB c = true) : endsWord (s.drop n) = true := by rw [drop_at hc]; exact hb
theorem word_good {s part : List UInt8} {k n : Nat} {b : UInt8} (h : s[k]? = some b) (h1 : b = 34 ∧ doubleL (s.drop (k + 1)) = some (part, s.drop n) ∨ b = 39 ∧ singleL (s.drop (k + 1)) = some (part, s.drop n)) (he : endsWord (s.drop n) = true) :
    wordL (s.drop k) = (wordL (s.drop n)).map (pre part) := by
  rw [word_part h h1, if_pos he, word_ends he]
  simp [pre]

theorem splitF_fuel (n : Nat) : ∀ (m : Nat) (s : List UInt8), s.length ≤ n → s.length ≤ m → splitF n s = splitF m s := by
  induction n with
  | zero =>
    intro m s h _
    obtain rfl := List.eq_nil_of_length_eq_zero (Nat.le_zero.1 h)
    cases m <;> rfl
  | succ n ih =>
    intro m s h hm
    cases m with
    | zero =>
      obtain rfl := List.eq_nil_of_length_eq_zero (Nat.le_zero.1 hm)
      rfl
    | succ m =>
      cases s with
      | nil => rfl
      | cons b r =>
        simp only [List.length_cons] at h hm
        simp only [splitF]
        cases hb : blankB b
        · simp only [Bool.false_eq_true, if_false]
          cases hw : wordL (b :: r) with
          | none => rfl
          | some p =>
            obtain ⟨x, rest⟩ := p
            have := wordL_lt hb hw
            simp only [List.length_cons] at this
            simp only
            rw [ih m rest (by omega) (by omega)]
        · simp only [if_true]
          exact ih m r (by omega) (by omega)
theorem splitL_nil : splitL [] = some [] := rfl
theorem splitL_blank {b : UInt8} {r : List UInt8} (hb : blankB b = true) : splitL (b :: r) = splitL r := by
  simp [splitL, splitF, hb]
theorem splitL_none {b : UInt8} {r : List UInt8} (hb : blankB b = false) (h : wordL (b :: r) = none) : splitL (b :: r) = none := by
  simp [splitL, splitF, hb, h]
theorem splitL_some {b : UInt8} {r p rest : List UInt8} (hb : blankB b = false) (h : wordL (b :: r) = some (p, rest)) : splitL (b :: r) = (splitL rest).map (p :: ·) := by
  have := wordL_lt hb h
  simp only [List.length_cons] at this
  simp only [splitL, List.length_cons, splitF, hb, h, Bool.false_eq_true, if_false]
  rw [splitF_fuel r.length rest.length rest (by omega) (Nat.le_refl _)]
end Go.Proofs.Ytgdgnpjgemcjgaa
