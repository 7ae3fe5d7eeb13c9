/- Plain laws: what the calls keep of the connections. -/
import Derived.Test.YtlgboamedjoidaaOpen
namespace Go.Proofs.Ytlgboamedjoidaa
open Go Go.RowKit

def GoodC (win T : Nat) (x : CI) : Prop := x.up.length ≤ T ∧ x.dn.length ≤ T ∧ x.dn.length - x.tk ≤ win
def Good (n : NI) (T : Nat) : Prop := ∀ x ∈ n.conns, GoodC n.win T x

theorem GoodC.mono {win T T' : Nat} {x : CI} (h : GoodC win T x) (hT : T ≤ T') : GoodC win T' x := ⟨Nat.le_trans h.1 hT, Nat.le_trans h.2.1 hT, h.2.2⟩
theorem doneC_good {win T : Nat} {x : CI} (op : OpM) (h : GoodC win T x) : GoodC win (T + op.data.length) (doneC win x op).1 := by
  obtain ⟨h1, h2, h3⟩ := h
  unfold doneC
  repeat' split
  all_goals
    simp only [GoodC, CI.put_, CI.end_, CI.tk_, CI.cut_, CI.rd_, CI.wr_, CI.close_, List.length_append, List.length_take]
    omega

theorem doneM_win (n : NI) (op : OpM) : (doneM n op).1.win = n.win := by
  unfold doneM
  repeat' split
  all_goals (first | rfl | skip)
theorem doneM_good {n : NI} {T : Nat} (op : OpM) (h : Good n T) : Good (doneM n op).1 (T + op.data.length) := by
  intro x hx
  rw [doneM_win]
  unfold doneM at hx
  split at hx
  · split at hx
    · simp only [List.mem_append, List.mem_singleton] at hx
      rcases hx with hx | rfl
      · exact (h x hx).mono (by omega)
      · exact ⟨by simp [freshC], by simp [freshC], by simp [freshC]⟩
    · exact (h x hx).mono (by omega)
  · split at hx
    · split at hx
      · exact (h x hx).mono (by omega)
      · rename_i y hy
        rcases List.mem_or_eq_of_mem_set hx with hx | rfl
        · exact (h x hx).mono (by omega)
        · exact (h y (List.mem_of_getElem? hy)).mono (by omega)
    · split at hx
      · exact (h x hx).mono (by omega)
      · rename_i y hy
        have hy' : y ∈ n.conns := by unfold NI.at at hy; split at hy; cases hy; exact List.mem_of_getElem? hy
        rcases List.mem_or_eq_of_mem_set hx with hx | rfl
        · exact (h x hx).mono (by omega)
        · exact doneC_good op (h y hy')

theorem Good.room {n : NI} {T d : Nat} (h : Good n T) (hT : T + d ≤ 1048576) : ∀ x ∈ n.conns, x.up.length + d ≤ 1099511627776 ∧ x.dn.length + d ≤ 1099511627776 := fun x hx => by
  have := h x hx; unfold GoodC at this; omega
theorem Good.wait {n : NI} {T : Nat} (h : Good n T) : ∀ x ∈ n.conns, x.dn.length - x.tk ≤ n.win := fun x hx => (h x hx).2.2

/-! ### Two networks: the first connection of either is one -/
structure Twin (a b : NI) (win T : Nat) (x : CI) : Prop where
  fst : a.conns[0]? = some x
  snd : b.conns = [x]
  next : 1 ≤ a.next
  wa : a.win = win
  wb : b.win = win
  ga : Good a T
  gb : Good b T

/-- Connect and Accept, on the first alone. -/
theorem Twin.alone {a b : NI} {win T : Nat} {x : CI} (h : Twin a b win T x) (op : OpM) (hk : op.kind = 0 ∨ op.kind = 5) : Twin (doneM a op).1 b win (T + op.data.length) x := by
  refine ⟨?_, h.snd, ?_, by rw [doneM_win]; exact h.wa, h.wb, doneM_good op h.ga, fun y hy => (h.gb y hy).mono (by omega)⟩
  · unfold doneM
    rcases hk with hk | hk
    · rw [if_pos hk]
      split
      · have := (List.getElem?_eq_some_iff.1 h.fst).1
        rw [List.getElem?_append_left this]; exact h.fst
      · exact h.fst
    · rw [if_neg (by omega), if_pos hk]
      split
      · exact h.fst
      · simp only [NI.put]
        rw [List.getElem?_set_ne (by have := h.next; omega)]; exact h.fst
  · unfold doneM
    have hn := h.next
    rcases hk with hk | hk
    · rw [if_pos hk]; split <;> exact hn
    · rw [if_neg (by omega), if_pos hk]
      split
      · exact hn
      · exact Nat.le_add_left _ _

/-- On another connection. -/
theorem Twin.other {a b : NI} {win T : Nat} {x : CI} (h : Twin a b win T x) (op : OpM) (hk : op.kind ≠ 0 ∧ op.kind ≠ 5) (hc : op.conn ≠ 0) : Twin (doneM a op).1 b win (T + op.data.length) x := by
  refine ⟨?_, h.snd, ?_, by rw [doneM_win]; exact h.wa, h.wb, doneM_good op h.ga, fun y hy => (h.gb y hy).mono (by omega)⟩
  · unfold doneM
    rw [if_neg hk.1, if_neg hk.2]
    split
    · exact h.fst
    · rename_i y hy
      have : op.conn.toNat ≠ 0 := by unfold NI.at at hy; split at hy; cases hy; omega
      simp only [NI.put]
      rw [List.getElem?_set_ne this]; exact h.fst
  · unfold doneM
    rw [if_neg hk.1, if_neg hk.2]
    split <;> exact h.next

/-- On the first of both. -/
theorem Twin.both {a b : NI} {win T : Nat} {x : CI} (h : Twin a b win T x) (op : OpM) (hk : op.kind ≠ 0 ∧ op.kind ≠ 5) (hc : op.conn = 0) :
    (doneM a op).2 = (doneC win x op).2 ∧ (doneM b op).2 = (doneC win x op).2 ∧ Twin (doneM a op).1 (doneM b op).1 win (T + op.data.length) (doneC win x op).1 := by
  have ha : a.at op.conn = some x := by unfold NI.at; rw [hc]; simp; exact h.fst
  have hb : b.at op.conn = some x := by unfold NI.at; rw [hc, h.snd]; simp
  have h0 := (List.getElem?_eq_some_iff.1 h.fst).1
  have ea : doneM a op = (a.put 0 (doneC win x op).1, (doneC win x op).2) := by
    unfold doneM; rw [if_neg hk.1, if_neg hk.2, ha, hc, h.wa]; rfl
  have eb : doneM b op = (b.put 0 (doneC win x op).1, (doneC win x op).2) := by
    unfold doneM; rw [if_neg hk.1, if_neg hk.2, hb, hc, h.wb]; rfl
  refine ⟨by rw [ea], by rw [eb], ⟨?_, ?_, ?_, by rw [doneM_win]; exact h.wa, by rw [doneM_win]; exact h.wb, doneM_good op h.ga, doneM_good op h.gb⟩⟩
  · rw [ea]; simp [NI.put, h0]
  · rw [eb]; simp [NI.put, h.snd]
  · rw [ea]; exact h.next
end Go.Proofs.Ytlgboamedjoidaa
