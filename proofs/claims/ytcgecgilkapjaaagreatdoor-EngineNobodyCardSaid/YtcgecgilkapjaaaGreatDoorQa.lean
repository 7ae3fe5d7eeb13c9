/- The commands' table, a table of sums, and a configuration, in the evaluator's words: all that is known. -/
import Derived.Test.YtcgecgilkapjaaaGreatDoorQs
import Derived.Test.YtcgecgilkapjaaaGreatDoorQe
namespace Go.Proofs.YtcgecgilkapjaaaGreatDoor
open Go Go.RowKit
variable {S : Rho} {G : Nat} {W : World} {ρ : Rho} {st st' : St} {w : World} {vs vs' : List Value} {v : Value}
theorem all_known (h : okAll vs st = some (v, st')) (hS : Sim S G W ρ st w) (hv : VRs ρ vs vs') :
    Calls P 49 ⟨vs'⟩ w (Gives S G W ρ st v st') := by
  unfold okAll at h
  split at h
  · have h := Option.some.inj h
    injection h with h1 h2
    subst h1
    subst h2
    cases hv
    refine (all_okS w).mono ?_
    rintro e w' ⟨a, L, rfl, ⟨hp, hs⟩, hV, hB⟩
    obtain rfl := sorted_eq hp hs
    rw [sorted_cells] at hV
    obtain ⟨⟨a', cap, he, -, -, hz⟩, hlen⟩ := hV
    injection he with he1 he2 he3
    subst he1
    rcases hz with h0 | ⟨b, off, rfl, hlt, hge, hc⟩
    · exact absurd h0 (by decide)
    · have ho : ∃ (cs : Array Value) (T : TypeId) (fr : Nat × Nat), w'.heap[b]? = some (.cells cs T fr) ∧ ∀ (k : Nat) u, allCells[k]? = some u → cs[k + off]? = some u := by
        have hl : 0 < allCells.length := by rw [hlen]; decide
        have h0 := hc 0 _ (List.getElem?_eq_getElem hl)
        unfold World.cell? at h0 hc
        simp only at h0 hc
        split at h0
        · rename_i cs T fr hw
          refine ⟨cs, T, fr, hw, fun k u hk => ?_⟩
          have := hc k u hk
          rw [hw] at this
          simpa [Nat.add_comm] using this
        · cases h0
      obtain ⟨cs, T, fr, ho, hcs⟩ := ho
      have hr : ObjR (ρ.set st.next ⟨b, off, cs.size, 7⟩) ⟨b, off, cs.size, 7⟩ (.cells true 7 allTree) (.cells cs T fr) := by
        refine ⟨rfl, rfl, (fun h => by cases h), ?_⟩
        intro i v hv
        unfold allTree at hv
        rw [Tr.get_fill] at hv
        split at hv
        · have hv' : allCells[i]? = some v := by simpa using hv
          refine ⟨v, hcs i v hv', flat_self ?_⟩
          exact List.all_eq_true.1 cells_flat v (List.mem_of_getElem? hv')
        · rw [Tr.get_nil] at hv; exact nn hv
      obtain ⟨k1, k2⟩ := hS.see hB hge ho hr
      refine ⟨_, _, rfl, ?_, k1, k2⟩
      have := VR.slice (ρ := ρ.set st.next ⟨b, off, cs.size, 7⟩) (k := st.next) (e := ⟨b, off, cs.size, 7⟩) 0 118 118 118 (Rho.set_same _ _ _) (Nat.le_refl _) (.inl rfl)
      simpa using this
  · exact nn h
theorem beqN {a b : Nat} (h : a ≠ b) : Nat.beq a b = false := by rw [← Bool.not_eq_true]; exact fun h' => h (Nat.eq_of_beq_eq_true h')
theorem O0_ok (S : Rho) (G : Nat) (W : World) : KnownOk S G W O0 := by
  intro f o hf vs st v st' h ρ w vs' hS hv
  unfold O0 at hf
  by_cases h1 : f = 49
  · subst h1
    cases (Option.some.inj hf)
    exact all_known h hS hv
  rw [beqN h1, cond_false] at hf
  by_cases h2 : f = 436
  · subst h2
    cases (Option.some.inj hf)
    exact clone_known h hS hv
  rw [beqN h2, cond_false] at hf
  by_cases h3 : f = 153
  · subst h3
    cases (Option.some.inj hf)
    exact sorted_known h hS hv
  rw [beqN h3, cond_false] at hf
  cases hf
theorem isT_spec {r : Option (Value × St)} (h : isT r = true) : ∃ st, r = some (.bool true, st) := by
  unfold isT at h
  split at h
  · exact ⟨_, rfl⟩
  · cases h
/-- What is reckoned to be true is true, whatever O is known. -/
theorem law_of {O : Known} {S : Rho} {W : World} {ρ : Rho} (hO : KnownOk S 9 W O) {f : FuncId} {us us' : List Value} (hr : isT (evCall X0 9 O 1000 40 f us st0) = true)
    (h1 : ∀ k, 20 ≤ k → ρ k = none) (h2 : ∀ k, k < 9 → ρ k = none) (h3 : ∀ k e, S k = some e → ρ k = some e) (hv : VRs ρ us us') :
    Calls P f ⟨us'⟩ W fun e W' => e = .returned (.bool true) ∧ Below W.heap.size W W' := by
  obtain ⟨st, h⟩ := isT_spec hr
  refine (evCall_sound X0_ok hO 1000 40 f _ _ _ _ h ρ W us' (Sim.start S 9 W ρ 20 (by decide) h1 h2 h3) hv).mono ?_
  rintro e w' ⟨v', ρ', rfl, hvr, hS', -⟩
  cases hvr
  exact ⟨rfl, hS'.below⟩
def noRho : Rho := fun _ => none
end Go.Proofs.YtcgecgilkapjaaaGreatDoor
