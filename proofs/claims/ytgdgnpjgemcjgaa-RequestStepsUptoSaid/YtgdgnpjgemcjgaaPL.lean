import Derived.Test.YtgdgnpjgemcjgaaWho
namespace Go.Proofs.Ytgdgnpjgemcjgaa
open Go Go.RowKit
/-! Plain: more bytes behind a stream change nothing that it told. -/
theorem lineR_cons (k : Nat) (b : UInt8) (r : List UInt8) : lineR k (b :: r) = if b = 10 then .ok [] r else match k with | 0 => .bad | k + 1 => (lineR k r).cons b := by
  rw [lineR.eq_def]; rfl
theorem lineR_ok_app (m : List UInt8) : ∀ (k : Nat) (s : List UInt8) {t r : List UInt8}, lineR k s = .ok t r → lineR k (s ++ m) = .ok t (r ++ m)
  | k, [], t, r, h => by simp [lineR] at h
  | k, b :: q, t, r, h => by
    rw [List.cons_append]
    rw [lineR_cons] at h ⊢
    split at h
    · rename_i hb; rw [if_pos hb]; cases h; rfl
    · rename_i hb
      rw [if_neg hb]
      cases k with
      | zero => cases h
      | succ k =>
        simp only at h ⊢
        cases hq : lineR k q with
        | more => rw [hq] at h; cases h
        | bad => rw [hq] at h; cases h
        | ok t' r' =>
          rw [hq] at h; cases h
          rw [lineR_ok_app m k q hq]; rfl
theorem lineR_bad_app (m : List UInt8) : ∀ (k : Nat) (s : List UInt8), lineR k s = .bad → lineR k (s ++ m) = .bad
  | k, [], h => by simp [lineR] at h
  | k, b :: q, h => by
    rw [List.cons_append]
    rw [lineR_cons] at h ⊢
    split at h
    · cases h
    · rename_i hb
      rw [if_neg hb]
      cases k with
      | zero => rfl
      | succ k =>
        simp only at h ⊢
        cases hq : lineR k q with
        | more => rw [hq] at h; cases h
        | bad => rw [lineR_bad_app m k q hq]; rfl
        | ok t' r' => rw [hq] at h; cases h
def Res.app {α : Type} (m : List UInt8) : Res α → Res α
  | .ok a r => .ok a (r ++ m)
  | q => q
theorem bulkR_app (m : List UInt8) {l : Lim} {s : List UInt8} (h : bulkR l s ≠ .more) : bulkR l (s ++ m) = (bulkR l s).app m := by
  cases s with
  | nil => exact absurd rfl h
  | cons b q =>
    rw [List.cons_append]
    unfold bulkR at h ⊢
    split
    · rfl
    · rename_i hb
      rw [if_neg hb] at h
      rw [← List.cons_append]
      cases hq : lineR l.line (b :: q) with
      | more => rw [hq] at h; exact absurd rfl h
      | bad => rw [lineR_bad_app m _ _ hq]; rfl
      | ok t r =>
        rw [lineR_ok_app m _ _ hq]
        rw [hq] at h
        simp only at h ⊢
        cases hn : countR l.bulk (trim13 t).tail with
        | none => rfl
        | some n =>
          rw [hn] at h
          simp only at h ⊢
          by_cases h1 : r.length ≤ n
          · rw [if_pos h1] at h; exact absurd rfl h
          · rw [if_neg h1] at h
            rw [if_neg h1, if_neg (by simp; omega), List.getElem?_append_left (by omega)]
            by_cases h2 : r[n]? ≠ some 13
            · rw [if_pos h2, if_pos h2]; rfl
            · rw [if_neg h2] at h
              rw [if_neg h2, if_neg h2]
              by_cases h3 : r.length ≤ n + 1
              · rw [if_pos h3] at h; exact absurd rfl h
              · rw [if_neg h3] at h
                rw [if_neg h3, if_neg (by simp; omega), List.getElem?_append_left (by omega)]
                by_cases h4 : r[n + 1]? ≠ some 10
                · rw [if_pos h4, if_pos h4]; rfl
                · rw [if_neg h4, if_neg h4, List.take_append_of_le_length (by omega), List.drop_append_of_le_length (by omega)]; rfl
theorem bulksR_app (m : List UInt8) {l : Lim} : ∀ (n : Nat) {s : List UInt8}, bulksR l n s ≠ .more → bulksR l n (s ++ m) = (bulksR l n s).app m
  | 0, s, _ => rfl
  | n + 1, s, h => by
    rw [bulksR] at h ⊢
    rw [bulksR]
    cases hq : bulkR l s with
    | more => rw [hq] at h; exact absurd rfl h
    | fault w => rw [bulkR_app m (by rw [hq]; simp), hq]; rfl
    | ok a r =>
      rw [bulkR_app m (by rw [hq]; simp), hq]
      rw [hq] at h
      simp only [Res.app] at h ⊢
      cases hr : bulksR l n r with
      | more => rw [hr] at h; exact absurd rfl h
      | fault w => rw [bulksR_app m n (by rw [hr]; simp), hr]; rfl
      | ok aa r' => rw [bulksR_app m n (by rw [hr]; simp), hr]; rfl
theorem thingR_app (m : List UInt8) {l : Lim} {s : List UInt8} (h : thingR l s ≠ .more) : thingR l (s ++ m) = (thingR l s).app m := by
  cases s with
  | nil => exact absurd (by rw [thingR]; simp [lineR]) h
  | cons b q =>
    have hh : ((b :: q) ++ m).head? = (b :: q).head? := rfl
    rw [thingR] at h ⊢
    rw [thingR, hh]
    cases hq : lineR l.line (b :: q) with
    | more => rw [hq] at h; exact absurd rfl h
    | bad => rw [lineR_bad_app m _ _ hq]; rfl
    | ok t r =>
      rw [lineR_ok_app m _ _ hq]
      rw [hq] at h
      simp only at h ⊢
      split
      · rename_i h42
        rw [if_pos h42] at h
        cases hn : countR l.args (trim13 t).tail with
        | none => rfl
        | some n =>
          rw [hn] at h
          exact bulksR_app m n h
      · cases hn : splitL (trim13 t) with
        | none => rfl
        | some ws => simp only; split; rfl; split; rfl; rfl
theorem reqR_app (m : List UInt8) {l : Lim} (k : Nat) : ∀ (s : List UInt8), s.length < k →
    (∀ ws r rr, reqR l s = (.ok ws r, rr) → reqR l (s ++ m) = (.ok ws (rr ++ m), rr ++ m)) ∧
    (∀ w rr, reqR l s = (.fault w, rr) → reqR l (s ++ m) = (.fault w, rr ++ m)) ∧
    (∀ rr, reqR l s = (.more, rr) → reqR l (s ++ m) = reqR l (rr ++ m)) := by
  induction k with
  | zero => intro s h; omega
  | succ k ih =>
    intro s hs
    cases hq : thingR l s with
    | more =>
      have h0 : reqR l s = (.more, s) := by rw [reqR, reqF, hq]
      rw [h0]
      exact ⟨fun _ _ _ h => (by cases h), fun _ _ h => (by cases h), fun rr h => (by cases h; rfl)⟩
    | fault w =>
      have h0 : reqR l s = (.fault w, s) := by rw [reqR, reqF, hq]
      have h1 : reqR l (s ++ m) = (.fault w, s ++ m) := by rw [reqR, reqF, thingR_app m (by rw [hq]; simp), hq]; rfl
      rw [h0, h1]
      exact ⟨fun _ _ _ h => (by cases h), fun _ _ h => (by cases h; rfl), fun rr h => (by cases h)⟩
    | ok ws r =>
      have hr := thingR_len hq
      have ha : thingR l (s ++ m) = .ok ws (r ++ m) := by rw [thingR_app m (by rw [hq]; simp), hq]; rfl
      cases ws with
      | nil => rw [reqR_go hq, reqR_go ha]; exact ih r (by omega)
      | cons a t =>
        rw [reqR_one hq, reqR_one ha]
        exact ⟨fun _ _ _ h => (by cases h; rfl), fun _ _ h => (by cases h), fun rr h => (by cases h)⟩
theorem reqR_rest (l : Lim) (s : List UInt8) : (reqR l s).2.length ≤ s.length := reqF_rest _ s
theorem RI.feed_stop {R : RI} (h : R.fault ≠ []) (m : List UInt8) : R.feed m = R := by unfold RI.feed; rw [if_neg h]
theorem RI.feed_go {R : RI} (h : R.fault = []) (m : List UInt8) : R.feed m = { R with held := R.held ++ m } := by unfold RI.feed; rw [if_pos h]
theorem next_fault_eq {R : RI} (h : R.fault ≠ []) : R.next = (.fault, R) := by unfold RI.next; rw [if_pos h]
theorem next_reqR {R : RI} (h : R.fault = []) : R.next = match reqR R.l R.held with
  | (.ok ws _, rest) => (.one ws, { R with held := rest, used := R.used + (R.held.length - rest.length) })
  | (.more, rest) => (.more, { R with held := rest, used := R.used + (R.held.length - rest.length) })
  | (.fault w, rest) => (.fault, { R with held := [], used := R.used + (R.held.length - rest.length), fault := w }) := by
  unfold RI.next; rw [if_neg (by simp [h])]; rcases reqR R.l R.held with ⟨x, r⟩; cases x <;> rfl
theorem wholeR_next {R S : RI} (h : R.next = S.next) : wholeR R = wholeR S := by
  rcases hq : S.next with ⟨x, R'⟩
  cases x with
  | one ws => rw [wholeR_one (h.trans hq), wholeR_one hq]
  | more => rw [wholeR_end (h.trans hq) (fun _ h => by cases h), wholeR_end hq (fun _ h => by cases h)]
  | fault => rw [wholeR_end (h.trans hq) (fun _ h => by cases h), wholeR_end hq (fun _ h => by cases h)]
theorem next_app (m : List UInt8) {R R' : RI} {x : NX} (hf : R.fault = []) (h : R.next = (x, R')) :
    (x = .more → R'.fault = [] ∧ (R.feed m).next = (R'.feed m).next) ∧ (x = .fault → R'.fault ≠ [] ∧ (R.feed m).next = (.fault, R')) ∧ (∀ ws, x = .one ws → R'.fault = [] ∧ (R.feed m).next = (.one ws, R'.feed m)) := by
  have hrest := reqR_rest R.l R.held
  have happ := reqR_app m (l := R.l) (R.held.length + 1) R.held (by omega)
  have hword := fun w => reqF_word (l := R.l) (R.held.length + 1) (s := R.held) (w := w)
  rw [next_reqR hf] at h
  have hnx : (R.feed m).next = _ := next_reqR (R := R.feed m) (by rw [RI.feed_go hf]; exact hf)
  rw [RI.feed_go hf] at hnx ⊢
  dsimp only at hnx
  change ∀ w, (reqR R.l R.held).1 = .fault w → w ≠ [] at hword
  rcases hq : reqR R.l R.held with ⟨y, rr⟩
  rw [hq] at h happ hrest hword
  dsimp only at hrest
  cases y with
  | more =>
    cases h
    refine ⟨fun _ => ⟨hf, ?_⟩, fun h => (by cases h), fun _ h => (by cases h)⟩
    rw [RI.feed_go (R := RI.mk R.l rr (R.used + (R.held.length - rr.length)) R.fault) hf]
    rw [hnx, happ.2.2 rr rfl]
    rw [next_reqR (by exact hf)]
    dsimp only
    have h2 := reqR_rest R.l (rr ++ m)
    rcases hq2 : reqR R.l (rr ++ m) with ⟨z, r2⟩
    rw [hq2] at h2
    simp only [List.length_append] at h2 ⊢
    have he : R.used + (R.held.length + m.length - r2.length) = R.used + (R.held.length - rr.length) + (rr.length + m.length - r2.length) := by omega
    cases z <;> simp only [he]
  | fault w =>
    cases h
    refine ⟨fun h => (by cases h), fun _ => ⟨hword w rfl, ?_⟩, fun _ h => (by cases h)⟩
    rw [hnx, happ.2.1 w rr rfl]
    have he : R.held.length + m.length - (rr.length + m.length) = R.held.length - rr.length := by omega
    simp only [List.length_append, he]
  | ok ws r =>
    cases h
    refine ⟨fun h => (by cases h), fun h => (by cases h), fun _ h => ⟨hf, ?_⟩⟩
    cases h
    rw [RI.feed_go (R := RI.mk R.l rr (R.used + (R.held.length - rr.length)) R.fault) hf]
    rw [hnx, happ.1 ws r rr rfl]
    have he : R.held.length + m.length - (rr.length + m.length) = R.held.length - rr.length := by omega
    simp only [List.length_append, he]
/-- The theorem of pieces: feeding more after the end of what is held says what the whole says. -/
theorem wholeR_app (m : List UInt8) (k : Nat) : ∀ (R : RI), R.held.length < k → wholeR (R.feed m) = ((wholeR R).1 ++ (wholeR ((wholeR R).2.feed m)).1, (wholeR ((wholeR R).2.feed m)).2) := by
  induction k with
  | zero => intro R h; omega
  | succ k ih =>
    intro R hk
    by_cases hf : R.fault = []
    · rcases hq : R.next with ⟨x, R'⟩
      obtain ⟨h1, h2, h3⟩ := next_app m hf hq
      cases x with
      | more =>
        rw [wholeR_end hq (fun _ h => by cases h)]
        rw [wholeR_next (h1 rfl).2]; simp
      | fault =>
        obtain ⟨h4, h5⟩ := h2 rfl
        rw [wholeR_end hq (fun _ h => by cases h), wholeR_end h5 (fun _ h => by cases h), RI.feed_stop h4, wholeR_end (next_fault_eq h4) (fun _ h => by cases h)]; simp
      | one ws =>
        obtain ⟨h4, h5⟩ := h3 ws rfl
        have := next_len hq
        rw [wholeR_one hq, wholeR_one h5, ih R' (by omega)]; simp
    · rw [RI.feed_stop hf, wholeR_end (next_fault_eq hf) (fun _ h => by cases h), RI.feed_stop hf, wholeR_end (next_fault_eq hf) (fun _ h => by cases h)]; simp
theorem next_sum {R R' : RI} {x : NX} (h : R.next = (x, R')) : R.used ≤ R'.used ∧ R'.used + R'.held.length ≤ R.used + R.held.length ∧ R'.l = R.l := by
  by_cases hf : R.fault = []
  · rw [next_reqR hf] at h
    have h2 := reqR_rest R.l R.held
    rcases hq2 : reqR R.l R.held with ⟨z, r2⟩
    rw [hq2] at h h2
    dsimp only at h2
    cases z <;> cases h <;> refine ⟨by simp, ?_, rfl⟩ <;> simp <;> omega
  · rw [next_fault_eq hf] at h; cases h; exact ⟨Nat.le_refl _, Nat.le_refl _, rfl⟩
theorem whole_sum (k : Nat) : ∀ (R : RI), R.held.length < k → R.used ≤ (wholeR R).2.used ∧ (wholeR R).2.used + (wholeR R).2.held.length ≤ R.used + R.held.length ∧ (wholeR R).2.l = R.l := by
  induction k with
  | zero => intro R h; omega
  | succ k ih =>
    intro R hk
    rcases hq : R.next with ⟨x, R'⟩
    have := next_sum hq
    cases x with
    | more => rw [wholeR_end hq (fun _ h => by cases h)]; exact this
    | fault => rw [wholeR_end hq (fun _ h => by cases h)]; exact this
    | one ws =>
      have hl := next_len hq
      rw [wholeR_one hq]
      have h2 := ih R' (by omega)
      show R.used ≤ (wholeR R').2.used ∧ (wholeR R').2.used + (wholeR R').2.held.length ≤ R.used + R.held.length ∧ (wholeR R').2.l = R.l
      exact ⟨by omega, by omega, h2.2.2.trans this.2.2⟩
theorem start_feed (l : Lim) (s m : List UInt8) : (start l s).feed m = start l (s ++ m) := rfl
theorem begins_plain (l : Lim) (s m : List UInt8) : ∃ t, (wholeR (start l (s ++ m))).1 = (wholeR (start l s)).1 ++ t ∧ (wholeR (start l s)).2.used ≤ (wholeR (start l (s ++ m))).2.used ∧ (wholeR (start l (s ++ m))).2.used ≤ s.length + m.length ∧
    ((wholeR (start l s)).2.fault ≠ [] → (wholeR (start l (s ++ m))).2 = (wholeR (start l s)).2 ∧ t = []) := by
  have h := wholeR_app m (s.length + 1) (start l s) (by show s.length < _; omega)
  rw [start_feed] at h
  have h2 := whole_sum (s.length + m.length + 1) (start l (s ++ m)) (by show (s ++ m).length < _; simp)
  have h3 := whole_sum (s.length + 1) (start l s) (by show s.length < _; omega)
  refine ⟨_, congrArg Prod.fst h, ?_, ?_, fun hf => ?_⟩
  · rw [h]
    have := whole_sum _ ((wholeR (start l s)).2.feed m) (Nat.lt_succ_self _)
    have h4 : ((wholeR (start l s)).2.feed m).used = (wholeR (start l s)).2.used := by unfold RI.feed; split <;> rfl
    simp only
    omega
  · have h5 := h2.2.1
    have h6 : (start l (s ++ m)).used + (start l (s ++ m)).held.length = s.length + m.length := by show 0 + (s ++ m).length = _; simp
    omega
  · rw [h, RI.feed_stop hf, wholeR_end (next_fault_eq hf) (fun _ h => by cases h)]; exact ⟨rfl, rfl⟩
end Go.Proofs.Ytgdgnpjgemcjgaa
