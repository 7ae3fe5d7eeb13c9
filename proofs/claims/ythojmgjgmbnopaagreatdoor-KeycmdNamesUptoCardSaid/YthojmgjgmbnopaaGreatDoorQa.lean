/- The commands' table, and what else is known, in the evaluator's words. -/
import Derived.Test.YthojmgjgmbnopaaGreatDoorQs
import Derived.Test.YthojmgjgmbnopaaGreatDoorQe
namespace Go.Proofs.YthojmgjgmbnopaaGreatDoor
open Go Go.RowKit
theorem all_known {G : Nat} {W : World} {ρ : Rho} {st st' : St} {w : World} {vs vs' : List Value} {v : Value} (h : okAll vs st = some (v, st')) (hS : Sim G W ρ st w) (hv : VRs ρ vs vs') :
    Calls P 174 ⟨vs'⟩ w (Gives G W ρ st v st') := by
  unfold okAll at h
  split at h
  · have h := Option.some.inj h
    injection h with h1 h2
    subst h1
    subst h2
    cases hv
    refine (all_okS w).mono ?_
    rintro e w' ⟨a, L, rfl, ⟨hp, hs⟩, hV, hB⟩
    obtain rfl := sorted_eq hp hs
    rw [sorted_cells] at hV
    obtain ⟨⟨a', cap, he, -, -, hz⟩, hlen⟩ := hV
    injection he with he1 he2 he3
    subst he1
    rcases hz with h0 | ⟨b, off, rfl, hlt, hge, hc⟩
    · exact absurd h0 (by decide)
    · have ho : ∃ cs T fr, w'.heap[b]? = some (.cells cs T fr) ∧ ∀ (k : Nat) u, allCells[k]? = some u → cs[k + off]? = some u := by
        have hl : 0 < allCells.length := by rw [hlen]; decide
        have h0 := hc 0 _ (List.getElem?_eq_getElem hl)
        unfold World.cell? at h0 hc
        simp only at h0 hc
        split at h0
        · rename_i cs T fr hw
          refine ⟨cs, T, fr, hw, fun k u hk => ?_⟩
          have := hc k u hk
          rw [hw] at this
          simpa [Nat.add_comm] using this
        · cases h0
      obtain ⟨cs, T, fr, ho, hcs⟩ := ho
      have hr : ObjR (ρ.set st.next ⟨b, off, cs.size, 7⟩) ⟨b, off, cs.size, 7⟩ (.cells true 7 allTree) (.cells cs T fr) := by
        refine ⟨rfl, rfl, (fun h => by cases h), ?_⟩
        intro i v hv
        unfold allTree at hv
        rw [Tr.get_fill] at hv
        split at hv
        · have hv' : allCells[i]? = some v := by simpa using hv
          refine ⟨v, hcs i v hv', flat_self ?_⟩
          exact List.all_eq_true.1 cells_flat v (List.mem_of_getElem? hv')
        · rw [Tr.get_nil] at hv; exact nn hv
      obtain ⟨k1, k2⟩ := hS.see hB hge ho hr
      refine ⟨_, _, rfl, ?_, k1, k2⟩
      have := VR.slice (ρ := ρ.set st.next ⟨b, off, cs.size, 7⟩) (k := st.next) (e := ⟨b, off, cs.size, 7⟩) 0 118 118 118 (Rho.set_same _ _ _) (Nat.le_refl _) (.inl rfl)
      simpa using this
  · exact nn h
theorem O0_ok (G : Nat) (W : World) : KnownOk G W O0 := by
  intro f o hf vs st v st' h ρ w vs' hS hv
  unfold O0 at hf
  by_cases h1 : f = 174
  · subst h1
    cases (Option.some.inj hf)
    exact all_known h hS hv
  · have e : Nat.beq f 174 = false := by rw [← Bool.not_eq_true]; exact fun h' => h1 (Nat.eq_of_beq_eq_true h')
    rw [e] at hf
    by_cases h2 : f = 301
    · subst h2
      cases (Option.some.inj hf)
      exact clone_known h hS hv
    · have e : Nat.beq f 301 = false := by rw [← Bool.not_eq_true]; exact fun h' => h2 (Nat.eq_of_beq_eq_true h')
      rw [e] at hf
      cases hf
end Go.Proofs.YthojmgjgmbnopaaGreatDoor
