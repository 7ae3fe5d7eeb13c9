import Derived.Test.YtgdgnpjgemcjgaaPie
namespace Go.Proofs.Ytgdgnpjgemcjgaa
open Go Go.RowKit
/-! Plain: what is written is read back. -/
theorem digB_nat {n : Nat} (h : n < 10) : (digB n).toNat = 48 + n := by
  unfold digB; rw [UInt8.toNat_ofNat']; omega
theorem digB_ok {n : Nat} (h : n < 10) : ¬ (digB n < 48 ∨ 57 < digB n) := by
  have := digB_nat h
  rw [UInt8.lt_iff_toNat_lt, UInt8.lt_iff_toNat_lt, this]
  simp; omega
theorem digitsL_all (k : Nat) : ∀ n, n < k → ∀ b ∈ digitsL n, ¬ (b < 48 ∨ 57 < b) := by
  induction k with
  | zero => intro n h; omega
  | succ k ih =>
    intro n h b hb
    rw [digitsL] at hb
    split at hb
    · rename_i h10
      obtain rfl : b = digB n := by simpa using hb
      exact digB_ok h10
    · rcases List.mem_append.1 hb with hb | hb
      · exact ih (n / 10) (by omega) b hb
      · obtain rfl : b = digB (n % 10) := by simpa using hb
        exact digB_ok (by omega)
theorem digitsL_ne (n : Nat) : digitsL n ≠ [] := by rw [digitsL]; split <;> simp
theorem digitsL_head (k : Nat) : ∀ n, n < k → 1 ≤ n → (digitsL n).head? ≠ some 48 := by
  induction k with
  | zero => intro n h; omega
  | succ k ih =>
    intro n h h1
    rw [digitsL]
    split
    · rename_i h10
      intro e
      have : digB n = 48 := by simpa using e
      have h2 := digB_nat h10
      rw [this] at h2
      simp at h2
      omega
    · have h2 := ih (n / 10) (by omega) (by omega)
      have h3 := digitsL_ne (n / 10)
      cases hq : digitsL (n / 10) with
      | nil => exact absurd hq h3
      | cons x t => rw [hq] at h2; exact h2
theorem digitsF_snoc (most : Nat) (b : UInt8) (hb : ¬ (b < 48 ∨ 57 < b)) : ∀ (s : List UInt8) (a m : Nat), digitsF most a s = some m → ¬ most < 10 * m + (b.toNat - 48) → digitsF most a (s ++ [b]) = some (10 * m + (b.toNat - 48))
  | [], a, m, h, h2 => by
    simp only [digitsF, Option.some.injEq] at h
    subst h
    rw [List.nil_append, digitsF_go hb h2]; rfl
  | c :: r, a, m, h, h2 => by
    rw [List.cons_append]
    rw [digitsF] at h ⊢
    split at h
    · cases h
    · rename_i hc
      split at h
      · cases h
      · rename_i hc2
        rw [if_neg hc, if_neg hc2]
        exact digitsF_snoc most b hb r _ m h h2
theorem digitsF_ok (most k : Nat) : ∀ n, n < k → n ≤ most → digitsF most 0 (digitsL n) = some n := by
  induction k with
  | zero => intro n h; omega
  | succ k ih =>
    intro n h hn
    rw [digitsL]
    split
    · rename_i h10
      have h2 := digB_nat h10
      rw [digitsF_go (digB_ok h10) (by omega)]
      rw [h2]
      simp [digitsF]
    · have h1 := ih (n / 10) (by omega) (by omega)
      have h2 := digB_nat (n := n % 10) (by omega)
      have := digitsF_snoc most (digB (n % 10)) (digB_ok (by omega)) _ 0 _ h1 (by rw [h2]; omega)
      rw [this, h2]
      congr 1
      omega
theorem countR_ok {most n : Nat} (h : n ≤ most) : countR most (digitsL n) = some n := by
  unfold countR
  rw [if_neg]
  · exact digitsF_ok most (n + 1) n (by omega) h
  · rintro (h1 | ⟨h1, h2⟩)
    · exact digitsL_ne n h1
    · by_cases h10 : n < 10
      · rw [digitsL, if_pos h10] at h1; simp at h1
      · exact digitsL_head (n + 1) n (by omega) (by omega) h2
theorem trim_snoc (t : List UInt8) : trim13 (t ++ [13]) = t := by
  unfold trim13; simp
theorem lineR_ok : ∀ (t : List UInt8) (k : Nat) (r : List UInt8), (∀ b ∈ t, b ≠ 10) → t.length ≤ k → lineR k (t ++ 10 :: r) = .ok t r
  | [], k, r, h, hk => by rw [List.nil_append, lineR_cons, if_pos rfl]
  | b :: t, k, r, h, hk => by
    rw [List.cons_append, lineR_cons, if_neg (h b (by simp))]
    cases k with
    | zero => simp at hk
    | succ k =>
      simp only
      rw [lineR_ok t k r (fun c hc => h c (by simp [hc])) (by simpa using hk)]
      rfl
theorem line_digits (c : UInt8) (hc : c ≠ 10) (n L : Nat) (r : List UInt8) (hn : n ≤ 4398046511104) (hL : 32 ≤ L) : lineR L ([c] ++ digitsL n ++ [13, 10] ++ r) = .ok ([c] ++ digitsL n ++ [13]) r := by
  have h := digits_short n hn
  have e : [c] ++ digitsL n ++ [13, 10] ++ r = ([c] ++ digitsL n ++ [13]) ++ 10 :: r := by simp
  rw [e]
  refine lineR_ok _ L r (fun b hb => ?_) (by simp; omega)
  simp only [List.mem_append, List.mem_singleton] at hb
  rcases hb with (rfl | hb) | rfl
  · exact hc
  · intro e; subst e
    exact digitsL_all (n + 1) n (by omega) _ hb (.inl (by decide))
  · decide
theorem bulkR_back {l : Lim} (hl : LimOk l) (x r : List UInt8) (hx : x.length ≤ l.bulk) : bulkR l (bulkW x ++ r) = .ok x r := by
  have hb := hl.bulk.2
  have e : bulkW x ++ r = [36] ++ digitsL x.length ++ [13, 10] ++ (x ++ [13, 10] ++ r) := by simp [bulkW]
  rw [e]
  have h := line_digits 36 (by decide) x.length l.line (x ++ [13, 10] ++ r) (by omega) hl.line.1
  have e2 : [36] ++ digitsL x.length ++ [13, 10] ++ (x ++ [13, 10] ++ r) = 36 :: (digitsL x.length ++ [13, 10] ++ (x ++ [13, 10] ++ r)) := by simp
  rw [e2] at h ⊢
  unfold bulkR
  rw [if_neg (by decide), h]
  simp only
  rw [trim_snoc, List.singleton_append, List.tail_cons, countR_ok hx]
  simp only
  rw [if_neg (by simp), if_neg (by simp), if_neg (by simp), if_neg (by simp)]
  simp
theorem bulksR_back {l : Lim} (hl : LimOk l) (r : List UInt8) : ∀ (ws : List (List UInt8)), (∀ x ∈ ws, x.length ≤ l.bulk) → bulksR l ws.length ((ws.map bulkW).flatten ++ r) = .ok ws r
  | [], _ => by simp [bulksR]
  | x :: t, h => by
    rw [List.length_cons, bulksR, List.map_cons, List.flatten_cons, List.append_assoc, bulkR_back hl x _ (h x (by simp))]
    simp only
    rw [bulksR_back hl r t (fun y hy => h y (by simp [hy]))]
theorem thingR_back {l : Lim} (hl : LimOk l) (ws : List (List UInt8)) (r : List UInt8) (hn : ws.length ≤ l.args) (h : ∀ x ∈ ws, x.length ≤ l.bulk) : thingR l (writeL ws ++ r) = .ok ws r := by
  have hb := hl.args.2
  have e : writeL ws ++ r = [42] ++ digitsL ws.length ++ [13, 10] ++ ((ws.map bulkW).flatten ++ r) := by rw [writeL_eq]; simp
  have hline := line_digits 42 (by decide) ws.length l.line ((ws.map bulkW).flatten ++ r) (by omega) hl.line.1
  rw [e, thingR, hline]
  simp only
  rw [if_pos (by simp), trim_snoc, List.singleton_append, List.tail_cons, countR_ok hn]
  exact bulksR_back hl r ws h
def RightR (l : Lim) (ws : List (List UInt8)) : Prop := ws ≠ [] ∧ ws.length ≤ l.args ∧ ∀ x ∈ ws, x.length ≤ l.bulk
theorem back_plain {l : Lim} (hl : LimOk l) : ∀ (reqs : List (List (List UInt8))) (u : Nat), (∀ ws ∈ reqs, RightR l ws) →
    wholeR ⟨l, (reqs.map writeL).flatten, u, []⟩ = (reqs, ⟨l, [], u + (reqs.map writeL).flatten.length, []⟩)
  | [], u, _ => by
    have h : (RI.mk l [] u []).next = (.more, ⟨l, [], u, []⟩) := by
      rw [next_reqR (by rfl)]
      have : reqR l [] = (.more, []) := by rw [reqR, reqF]; simp [thingR, lineR]
      show (match reqR l [] with | (.ok ws _, rest) => _ | (.more, rest) => _ | (.fault w, rest) => _) = _
      rw [this]; rfl
    exact wholeR_end h (fun _ h => by cases h)
  | ws :: t, u, h => by
    obtain ⟨h1, h2, h3⟩ := h ws (by simp)
    rw [List.map_cons, List.flatten_cons]
    obtain ⟨x, ws', rfl⟩ : ∃ x ws', ws = x :: ws' := by cases ws with | nil => exact absurd rfl h1 | cons x t => exact ⟨_, _, rfl⟩
    have hr := reqR_one (thingR_back hl (x :: ws') (t.map writeL).flatten h2 h3)
    have hn : (RI.mk l (writeL (x :: ws') ++ (t.map writeL).flatten) u []).next = (.one (x :: ws'), ⟨l, (t.map writeL).flatten, u + (writeL (x :: ws')).length, []⟩) := by
      rw [next_reqR (by rfl)]
      show (match reqR l (writeL (x :: ws') ++ (t.map writeL).flatten) with | (.ok ws _, rest) => _ | (.more, rest) => _ | (.fault w, rest) => _) = _
      rw [hr]
      simp
    rw [wholeR_one hn, back_plain hl t _ (fun y hy => h y (by simp [hy]))]
    simp [Nat.add_assoc]
end Go.Proofs.Ytgdgnpjgemcjgaa
