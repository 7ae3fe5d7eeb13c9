import Derived.Test.YtgdgnpjgemcjgaaR
namespace Go.Proofs.Ytgdgnpjgemcjgaa
open Go Go.RowKit
theorem infoStrs : (Try.prog.info? 33).map (fun i => (i.zero, i.size, i.bytes)) = some (some (.slice none 0 0), 1, 24) := by kernel_rfl
/-- A list of lists of texts; the i-th lies in memory of role f i. -/
def LL (o : Roles) (w : World) (r : List Nat) (f : Nat → List Nat) (v : Value) (reqs : List (List (List UInt8))) : Prop :=
  ∃ vs : List Value, Row o w r 33 1 v vs.length vs ∧ vs.length = reqs.length ∧ ∀ (i : Nat) u ws, vs[i]? = some u → reqs[i]? = some ws → Texts o w (f i) u ws
theorem LL.nil (o : Roles) (w : World) (r : List Nat) (f : Nat → List Nat) : LL o w r f (.slice none 0 0) [] := ⟨[], Row.nil _ _ _ _ _, rfl, fun i u ws h => by simp at h⟩
theorem LL.keep {o o' : Roles} {w w' : World} {r s : List Nat} {f : Nat → List Nat} {v : Value} {reqs : List (List (List UInt8))} (h : LL o w r f v reqs) (st : Stp s o w o' w') (hn : ¬ s <+: r) (hf : ∀ i, i < reqs.length → ¬ s <+: f i) : LL o' w' r f v reqs := by
  obtain ⟨vs, h1, h2, h3⟩ := h
  exact ⟨vs, h1.keep st hn, h2, fun i u ws hu hw => (h3 i u ws hu hw).keep st (hf i (List.getElem?_eq_some_iff.1 hw).1)⟩
theorem LL.drewN {o : Roles} {w : World} {r : List Nat} {f : Nat → List Nat} {v : Value} {reqs : List (List (List UInt8))} (h : LL o w r f v reqs) (n : Nat) : LL o (w.drewN n) r f v reqs := by
  obtain ⟨vs, h1, h2, h3⟩ := h
  exact ⟨vs, h1.drewN n, h2, fun i u ws hu hw => Row.drewN (h3 i u ws hu hw) n⟩
/-- One list comes behind. -/
theorem wpList_pushL {ops : Array Oper} {rest : List Oper} {o : Oper} {a : Act} {Q : Exit → Act → World → Prop} {ow : Roles} {w : World} {r : List Nat} {f : Nat → List Nat} (hgd : o.guard = none) (s x : Operand)
    (ho : o.op = .call { callee := .builtin .append, args := #[s, x], argTypes := #[24, 24] })
    {v u : Value} {reqs : List (List (List UInt8))} {ws : List (List UInt8)} (hv : a.eval s = v) (hrow : LL ow w r f v reqs) (hu : Texts ow w (f reqs.length) u ws) (hx : a.eval x = .slice (some ⟨w.heap.size, 0, none⟩) 1 1)
    (hn : reqs.length ≤ 1099511627776) (hf : ∀ i, i ≤ reqs.length → ¬ r <+: f i)
    (h : ∀ v' w' ow', LL ow' w' r f v' (reqs ++ [ws]) → Stp r ow w ow' w' → wpList Try.prog ops Q rest (a.put o.dst v') w') : wpList Try.prog ops Q (o :: rest) a (w.alloc (.cells #[u] 33)) := by
  obtain ⟨i0, hi0, hz0, hz1, hz2⟩ := info_parts infoStrs
  obtain ⟨vs, h1, h2, h3⟩ := hrow
  have hone : u.oneCell' = true := by obtain ⟨a, cap, rfl, _⟩ := hu.slice; rfl
  refine wpList_app (w.alloc (.cells #[u] 33)) hgd s x 24 24 ho 33 i0 (.slice none 0 0) 1 24 Try.underlying24 hi0 hz0 hz1 hz2 rfl hv (h1.below ((Below.refl _ _).alloc (Nat.le_refl _) _)) (m := 1) (news := [u]) hx
    (Src.ofSlice _ Try.underlying24 ⟨w.heap.size, 0, none⟩ 1 1 _ rfl (World.news_of_block (heap_alloc_new w _)) (fun u' hu' => by simp at hu'; subst hu'; exact hone)) (by unfold maxLen; omega) (by omega) ?_
  intro v' w' o' hr hs
  have hst := (Stp.ofBelow r ow ((Below.refl _ _).alloc (Nat.le_refl _) (.cells #[u] 33))).trans hs
  refine h v' w' o' ⟨vs ++ [u], by simpa using hr, by simp [h2], fun i u' ws' hu' hw' => ?_⟩ hst
  by_cases hi : i < vs.length
  · rw [List.getElem?_append_left hi] at hu'
    rw [List.getElem?_append_left (by omega)] at hw'
    exact (h3 i u' ws' hu' hw').keep hst (hf i (by omega))
  · have : i < (vs ++ [u]).length := (List.getElem?_eq_some_iff.1 hu').1
    simp at this
    obtain rfl : i = vs.length := by omega
    rw [List.getElem?_append_right (Nat.le_refl _)] at hu'
    rw [h2, List.getElem?_append_right (Nat.le_refl _)] at hw'
    simp at hu' hw'
    subst hu'; subst hw'
    rw [h2]
    exact hu.keep hst (hf _ (Nat.le_refl _))

/-! ### All requests -/
def wholeF : Nat → RI → List (List (List UInt8)) × RI
  | 0, R => ([], R)
  | n + 1, R => match R.next with
    | (.one ws, R') => (ws :: (wholeF n R').1, (wholeF n R').2)
    | (_, R') => ([], R')
def wholeR (R : RI) := wholeF (R.held.length + 1) R
theorem reqF_len {l : Lim} : ∀ (n : Nat) {s r rr : List UInt8} {ws : List (List UInt8)}, reqF l n s = (.ok ws r, rr) → rr = r ∧ rr.length < s.length ∧ ws ≠ []
  | 0, s, r, rr, ws, h => by cases h
  | n + 1, s, r, rr, ws, h => by
    rw [reqF] at h
    cases hq : thingR l s with
    | more => rw [hq] at h; cases h
    | fault w' => rw [hq] at h; cases h
    | ok ws' r' =>
      have := thingR_len hq
      rw [hq] at h
      cases ws' with
      | nil => have := reqF_len n h; exact ⟨this.1, by omega, this.2.2⟩
      | cons a t => cases h; exact ⟨rfl, this, by simp⟩
theorem reqF_rest {l : Lim} : ∀ (n : Nat) (s : List UInt8), (reqF l n s).2.length ≤ s.length
  | 0, s => Nat.le_refl _
  | n + 1, s => by
    rw [reqF]
    cases hq : thingR l s with
    | more => exact Nat.le_refl _
    | fault w' => exact Nat.le_refl _
    | ok ws' r' =>
      have := thingR_len hq
      cases ws' with
      | nil => have := reqF_rest (l := l) n r'; simp only; omega
      | cons a t => simp only; omega
theorem next_len {R R' : RI} {ws : List (List UInt8)} (h : R.next = (.one ws, R')) : R'.held.length < R.held.length := by
  unfold RI.next at h
  split at h
  · cases h
  · split at h
    · rename_i ws' r' rest heq
      cases h
      exact (reqF_len _ heq).2.1
    · cases h
    · cases h
theorem wholeF_fuel (n : Nat) : ∀ (m : Nat) (R : RI), R.held.length < n → R.held.length < m → wholeF n R = wholeF m R := by
  induction n with
  | zero => intro m R h; omega
  | succ n ih =>
    intro m R h hm
    cases m with
    | zero => omega
    | succ m =>
      rw [wholeF, wholeF]
      rcases hq : R.next with ⟨x, R'⟩
      cases x with
      | more => rfl
      | fault => rfl
      | one ws =>
        have := next_len hq
        simp only
        rw [ih m R' (by omega) (by omega)]
theorem wholeR_one {R R' : RI} {ws : List (List UInt8)} (h : R.next = (.one ws, R')) : wholeR R = (ws :: (wholeR R').1, (wholeR R').2) := by
  have := next_len h
  rw [wholeR, wholeF, h]
  simp only
  rw [wholeF_fuel R.held.length (R'.held.length + 1) R' this (by omega)]
  rfl
theorem wholeR_end {R R' : RI} {x : NX} (h : R.next = (x, R')) (hx : ∀ ws, x ≠ .one ws) : wholeR R = ([], R') := by
  rw [wholeR, wholeF, h]
  cases x with
  | more => rfl
  | fault => rfl
  | one ws => exact absurd rfl (hx ws)
def start (l : Lim) (s : List UInt8) : RI := ⟨l, s, 0, []⟩
def WholeI (R0 : RI) (acc : List (List (List UInt8))) (R : RI) : Prop := wholeR R0 = (acc ++ (wholeR R).1, (wholeR R).2)
theorem WholeI.start (R : RI) : WholeI R [] R := by simp [WholeI]
theorem WholeI.one {R0 R R' : RI} {acc : List (List (List UInt8))} {ws : List (List UInt8)} (h : WholeI R0 acc R) (hn : R.next = (.one ws, R')) : WholeI R0 (acc ++ [ws]) R' := by
  unfold WholeI at *
  rw [h, wholeR_one hn]; simp
theorem WholeI.done {R0 R R' : RI} {acc : List (List (List UInt8))} {x : NX} (h : WholeI R0 acc R) (hn : R.next = (x, R')) (hx : ∀ ws, x ≠ .one ws) : wholeR R0 = (acc, R') := by
  unfold WholeI at *
  rw [h, wholeR_end hn hx]; simp
end Go.Proofs.Ytgdgnpjgemcjgaa
