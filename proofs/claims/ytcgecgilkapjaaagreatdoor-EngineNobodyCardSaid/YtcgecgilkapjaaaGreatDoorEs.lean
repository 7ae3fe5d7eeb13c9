/- The evaluator: what a known function does that lays a block, or nothing; a start. -/
import Derived.Test.YtcgecgilkapjaaaGreatDoorEr
namespace Go.Proofs.YtcgecgilkapjaaaGreatDoor
open Go Go.RowKit
variable {S : Rho}

section
variable {G : Nat} {W : World} {ρ : Rho} {st : St} {w w' : World}

theorem Sim.lt (h : Sim S G W ρ st w) {k : Nat} {a : AObj} {e : Spot} (ha : st.heap.get k = some a) (he : ρ k = some e) : e.b < w.heap.size := by
  obtain ⟨o, ho, _⟩ := h.obj k a ha e he
  rcases Nat.lt_or_ge e.b w.heap.size with h' | h'
  · exact h'
  · simp [Array.getElem?_eq_none h'] at ho

/-- Nothing old has turned. -/
theorem Sim.step (h : Sim S G W ρ st w) (hB : Below w.heap.size w w') : Sim S G W ρ st w' :=
  ⟨h.below.trans (hB.mono h.below.size), h.fresh, h.low, h.glob, h.globB, fun k a ha e he => by
    obtain ⟨o, h1, h2, h3⟩ := h.obj k a ha e he
    exact ⟨o, by rw [hB.block _ (h.lt ha he)]; exact h1, h2, h3⟩, h.inj, h.keep⟩

/-- A new block of the world's is seen, to be read only. -/
theorem Sim.see (h : Sim S G W ρ st w) (hB : Below w.heap.size w w') {b sh sz u q : Nat} {c : Tr Value} {o' : Obj} (hb : w.heap.size ≤ b) (ho : w'.heap[b]? = some o')
    (hr : ObjR (ρ.set st.next ⟨b, sh, sz, u⟩) ⟨b, sh, sz, u⟩ (.cells true q c) o') :
    Sim S G W (ρ.set st.next ⟨b, sh, sz, u⟩) (st.new (.cells true q c)) w' ∧ Ext ρ st (ρ.set st.next ⟨b, sh, sz, u⟩) (st.new (.cells true q c)) := by
  have hle : ρ.le (ρ.set st.next ⟨b, sh, sz, u⟩) := by
    intro k e he
    show (if k = st.next then _ else ρ k) = some e
    rw [if_neg (by rintro rfl; rw [h.fresh _ (Nat.le_refl _)] at he; cases he)]
    exact he
  have old : ∀ k e, k ≠ st.next → (ρ.set st.next ⟨b, sh, sz, u⟩) k = some e → ρ k = some e := by
    intro k e hk he
    rw [← he]; show _ = (if k = st.next then _ else ρ k); rw [if_neg hk]
  have new : ∀ e, (ρ.set st.next ⟨b, sh, sz, u⟩) st.next = some e → e = ⟨b, sh, sz, u⟩ := by
    intro e he; rw [Rho.set_same] at he; exact (Option.some.inj he).symm
  have hS := h.step hB
  refine ⟨⟨hS.below, ?_, Nat.le_succ_of_le h.low, ?_, ?_, ?_, ?_, fun k e hk => hle _ _ (h.keep k e hk)⟩, hle, Nat.le_succ _, ?_⟩
  · intro k hk
    simp only [St.new] at hk
    show (if k = st.next then _ else ρ k) = none
    rw [if_neg (by omega)]
    exact h.fresh k (by omega)
  · intro k e hk he
    have := h.low
    exact h.glob k e hk (old k e (by omega) he)
  · intro k a hk ha
    have := h.low
    simp only [St.new, Tr.get_set] at ha
    rw [if_neg (by omega)] at ha
    obtain ⟨e, he⟩ := h.globB k a hk ha
    exact ⟨e, hle _ _ he⟩
  · intro k a ha e he
    simp only [St.new, Tr.get_set] at ha
    by_cases hk : k = st.next
    · subst hk
      rw [if_pos rfl] at ha
      cases (Option.some.inj ha)
      cases new e he
      exact ⟨o', ho, hr, fun hx => by cases hx⟩
    · rw [if_neg hk] at ha
      have he' := old k e hk he
      obtain ⟨o1, h1, h2, h3⟩ := hS.obj k a ha e he'
      exact ⟨o1, h1, h2.mono hle, h3⟩
  · intro k k' a a' e e' ha ha' he he' hbb
    simp only [St.new, Tr.get_set] at ha ha'
    by_cases h1 : k = st.next <;> by_cases h2 : k' = st.next
    · rw [h1, h2]
    · exfalso
      subst h1
      rw [if_neg h2] at ha'
      cases new e he
      have hlt := h.lt ha' (old k' e' h2 he')
      rw [← hbb] at hlt
      exact absurd hlt (Nat.not_lt.2 hb)
    · exfalso
      subst h2
      rw [if_neg h1] at ha
      cases new e' he'
      have hlt := h.lt ha (old k e h1 he)
      rw [hbb] at hlt
      exact absurd hlt (Nat.not_lt.2 hb)
    · rw [if_neg h1] at ha
      rw [if_neg h2] at ha'
      exact h.inj k k' a a' e e' ha ha' (old k e h1 he) (old k' e' h2 he') hbb
  · intro k hk hn
    exact ⟨by show (if k = st.next then _ else ρ k) = none; rw [if_neg (by omega)]; exact hn, by simp only [St.new, Tr.get_set]; rw [if_neg (by omega)]⟩

end
end Go.Proofs.YtcgecgilkapjaaaGreatDoor
