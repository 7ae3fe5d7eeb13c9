/- Plain law of PipeBegins: what was read is a beginning of what was sent; what was written is what waits and was taken. -/
import Derived.Test.YtlgboamedjoidaaApart
namespace Go.Proofs.Ytlgboamedjoidaa
open Go Go.RowKit

def BegC (x : CI) (rd wr : List UInt8) : Prop := rd = x.up.take x.rd ∧ wr = x.dn ∧ x.rd ≤ x.up.length ∧ x.tk ≤ x.dn.length
theorem begC_step {win : Nat} {x : CI} {rd wr : List UInt8} (op : OpM) (h : BegC x rd wr) : BegC (doneC win x op).1 (rd ++ (doneC win x op).2.1) (wr ++ (doneC win x op).2.2) := by
  obtain ⟨rfl, rfl, h1, h2⟩ := h
  unfold doneC
  split
  · split
    · refine ⟨?_, by simp [CI.put_], by simp [CI.put_]; omega, h2⟩
      simp only [CI.put_, List.append_nil]
      rw [List.take_append_of_le_length h1]
    · exact ⟨by simp, by simp, h1, h2⟩
  split
  · split <;> exact ⟨by simp [CI.end_], by simp [CI.end_], h1, h2⟩
  split
  · split
    · refine ⟨by simp [CI.tk_], by simp [CI.tk_], h1, ?_⟩
      have := howMany_le op.n (x.dn.length - x.tk)
      simp only [CI.tk_]; omega
    · exact ⟨by simp, by simp, h1, h2⟩
  split
  · split <;> exact ⟨by simp [CI.cut_], by simp [CI.cut_], h1, h2⟩
  split
  · split
    · have := howMany_le op.n (x.up.length - x.rd)
      refine ⟨?_, by simp [CI.rd_], by simp only [CI.rd_]; omega, h2⟩
      simp only [CI.rd_]
      rw [List.take_add]
    · exact ⟨by simp, by simp, h1, h2⟩
  split
  · split
    · exact ⟨by simp [CI.wr_], by simp [CI.wr_], h1, by simp only [CI.wr_, List.length_append]; omega⟩
    · exact ⟨by simp, by simp, h1, h2⟩
  split
  · split <;> exact ⟨by simp [CI.close_], by simp [CI.close_], h1, h2⟩
  · exact ⟨by simp, by simp, h1, h2⟩

def BegAt (n : NI) (rl wl : List (List UInt8)) (c : Nat) : Prop :=
  match n.conns[c]? with
  | some x => ∃ a b, rl[c]? = some a ∧ wl[c]? = some b ∧ BegC x a b
  | none => rl[c]? = some [] ∧ wl[c]? = some []
def Beg (n : NI) (rl wl : List (List UInt8)) : Prop := rl.length = 8 ∧ wl.length = 8 ∧ ∀ c, c < 8 → BegAt n rl wl c

theorem BegAt.ofSome {n : NI} {rl wl : List (List UInt8)} {c : Nat} {x : CI} (h : BegAt n rl wl c) (hx : n.conns[c]? = some x) : ∃ a b, rl[c]? = some a ∧ wl[c]? = some b ∧ BegC x a b := by
  unfold BegAt at h; rw [hx] at h; exact h
theorem BegAt.ofNone {n : NI} {rl wl : List (List UInt8)} {c : Nat} (h : BegAt n rl wl c) (hx : n.conns[c]? = none) : rl[c]? = some [] ∧ wl[c]? = some [] := by
  unfold BegAt at h; rw [hx] at h; exact h
theorem BegAt.mk_some {n : NI} {rl wl : List (List UInt8)} {c : Nat} {x : CI} {a b : List UInt8} (hx : n.conns[c]? = some x) (h1 : rl[c]? = some a) (h2 : wl[c]? = some b) (h : BegC x a b) : BegAt n rl wl c := by
  unfold BegAt; rw [hx]; exact ⟨a, b, h1, h2, h⟩
theorem BegAt.mk_none {n : NI} {rl wl : List (List UInt8)} {c : Nat} (hx : n.conns[c]? = none) (h : rl[c]? = some [] ∧ wl[c]? = some []) : BegAt n rl wl c := by
  unfold BegAt; rw [hx]; exact h

theorem Beg.start (w : Nat) : Beg ⟨[], 0, w⟩ (List.replicate 8 []) (List.replicate 8 []) :=
  ⟨by simp, by simp, fun c hc => BegAt.mk_none (by simp) ⟨by rw [List.getElem?_replicate, if_pos hc], by rw [List.getElem?_replicate, if_pos hc]⟩⟩

/-- One call: what is told comes behind what was told of that connection. -/
theorem Beg.step {n : NI} {rl wl : List (List UInt8)} (h : Beg n rl wl) (op : OpM) {c : Nat} (hc : c < 8) (ho : op.conn = c) {a b : List UInt8} (ha : rl[c]? = some a) (hb : wl[c]? = some b) :
    Beg (doneM n op).1 (rl.set c (a ++ (doneM n op).2.1)) (wl.set c (b ++ (doneM n op).2.2)) := by
  obtain ⟨hl1, hl2, h⟩ := h
  refine ⟨by simp [hl1], by simp [hl2], fun d hd => ?_⟩
  have hsame : ∀ (l : List (List UInt8)) (y : List UInt8), l[c]? = some y → l.set c (y ++ []) = l := fun l y hy => by
    obtain ⟨hi, e⟩ := List.getElem?_eq_some_iff.1 hy
    rw [List.append_nil, ← e, List.set_getElem_self]
  by_cases h0 : op.kind = 0
  · have e : doneM n op = (if n.conns.length < 1024 then ⟨n.conns ++ [freshC], n.next, n.win⟩ else n, [], []) := by unfold doneM; rw [if_pos h0]
    rw [e]
    simp only [hsame rl a ha, hsame wl b hb]
    split
    · rcases Nat.lt_trichotomy d n.conns.length with hd1 | hd1 | hd1
      · have hx : n.conns[d]? = some n.conns[d] := List.getElem?_eq_getElem hd1
        obtain ⟨p, q, h1, h2, h3⟩ := (h d hd).ofSome hx
        exact BegAt.mk_some (by rw [List.getElem?_append_left hd1]; exact hx) h1 h2 h3
      · obtain ⟨h1, h2⟩ := (h d hd).ofNone (by rw [hd1]; simp)
        exact BegAt.mk_some (x := freshC) (by rw [hd1]; simp) h1 h2 ⟨rfl, rfl, Nat.le_refl _, Nat.le_refl _⟩
      · exact BegAt.mk_none (by rw [List.getElem?_eq_none]; simp; omega) ((h d hd).ofNone (by rw [List.getElem?_eq_none]; omega))
    · exact h d hd
  by_cases h5 : op.kind = 5
  · have e : doneM n op = ((match n.conns[n.next]? with | none => n | some x => { n.put n.next x.accept_ with next := n.next + 1 }), [], []) := by unfold doneM; rw [if_neg h0, if_pos h5]; rfl
    rw [e]
    simp only [hsame rl a ha, hsame wl b hb]
    cases hx : n.conns[n.next]? with
    | none => exact h d hd
    | some x =>
      by_cases hdn : n.next = d
      · subst hdn
        obtain ⟨p, q, h1, h2, h3⟩ := (h n.next hd).ofSome hx
        have := (List.getElem?_eq_some_iff.1 hx).1
        exact BegAt.mk_some (x := x.accept_) (by simp [NI.put, this]) h1 h2 h3
      · have e2 : ({ n.put n.next x.accept_ with next := n.next + 1 } : NI).conns[d]? = n.conns[d]? := by simp only [NI.put]; rw [List.getElem?_set_ne hdn]
        cases hy : n.conns[d]? with
        | none => exact BegAt.mk_none (by rw [e2, hy]) ((h d hd).ofNone hy)
        | some y => obtain ⟨p, q, h1, h2, h3⟩ := (h d hd).ofSome hy; exact BegAt.mk_some (by rw [e2, hy]) h1 h2 h3
  have hat : n.at op.conn = n.conns[c]? := by unfold NI.at; rw [ho, if_neg (by omega)]; simp
  cases hx : n.conns[c]? with
  | none =>
    have e : doneM n op = (n, [], []) := by unfold doneM; rw [if_neg h0, if_neg h5, hat, hx]
    rw [e]
    simp only [hsame rl a ha, hsame wl b hb]
    exact h d hd
  | some x =>
    have e : doneM n op = (n.put c (doneC n.win x op).1, (doneC n.win x op).2) := by unfold doneM; rw [if_neg h0, if_neg h5, hat, hx, ho]; rfl
    rw [e]
    by_cases hdc : c = d
    · subst hdc
      obtain ⟨p, q, h1, h2, h3⟩ := (h c hd).ofSome hx
      rw [ha] at h1; cases h1
      rw [hb] at h2; cases h2
      have := (List.getElem?_eq_some_iff.1 hx).1
      exact BegAt.mk_some (x := (doneC n.win x op).1) (by simp [NI.put, this]) (by simp [hl1, hc]) (by simp [hl2, hc]) (begC_step op h3)
    · have e2 : (n.put c (doneC n.win x op).1).conns[d]? = n.conns[d]? := by simp only [NI.put]; rw [List.getElem?_set_ne hdc]
      cases hy : n.conns[d]? with
      | none => exact BegAt.mk_none (by rw [e2, hy]) (by rw [List.getElem?_set_ne hdc, List.getElem?_set_ne hdc]; exact (h d hd).ofNone hy)
      | some y =>
        obtain ⟨p, q, h1, h2, h3⟩ := (h d hd).ofSome hy
        exact BegAt.mk_some (by rw [e2, hy]) (by rw [List.getElem?_set_ne hdc]; exact h1) (by rw [List.getElem?_set_ne hdc]; exact h2) h3
end Go.Proofs.Ytlgboamedjoidaa
