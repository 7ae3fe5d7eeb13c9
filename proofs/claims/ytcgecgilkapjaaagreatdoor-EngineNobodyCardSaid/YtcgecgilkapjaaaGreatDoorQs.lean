/- The commands' table, sorted: one list alone. -/
import Derived.Test.YtcgecgilkapjaaaGreatDoorXO
import Derived.Test.YtcgecgilkapjaaaGreatDoorQd
import Derived.ProofKit
namespace Go.Proofs.YtcgecgilkapjaaaGreatDoor
open Go Go.RowKit
set_option maxRecDepth 100000
def sortedL : List SpecM := [
  ⟨[97,112,112,101,110,100], 3, true, false, 1, 1, 1⟩,
  ⟨[98,105,116,99,111,117,110,116], -2, false, false, 1, 1, 1⟩,
  ⟨[98,105,116,111,112], -4, true, false, 2, -1, 1⟩,
  ⟨[98,105,116,112,111,115], -3, false, false, 1, 1, 1⟩,
  ⟨[99,111,112,121], -3, true, false, 1, 2, 1⟩,
  ⟨[100,98,115,105,122,101], 1, false, false, 0, 0, 0⟩,
  ⟨[100,101,99,114], 2, true, false, 1, 1, 1⟩,
  ⟨[100,101,99,114,98,121], 3, true, false, 1, 1, 1⟩,
  ⟨[100,101,108], -2, true, false, 1, -1, 1⟩,
  ⟨[100,105,115,99,97,114,100], 1, false, true, 0, 0, 0⟩,
  ⟨[100,117,109,112], 2, false, false, 1, 1, 1⟩,
  ⟨[101,99,104,111], 2, false, false, 0, 0, 0⟩,
  ⟨[101,120,101,99], 1, false, true, 0, 0, 0⟩,
  ⟨[101,120,105,115,116,115], -2, false, false, 1, -1, 1⟩,
  ⟨[101,120,112,105,114,101], -3, true, false, 1, 1, 1⟩,
  ⟨[101,120,112,105,114,101,97,116], -3, true, false, 1, 1, 1⟩,
  ⟨[101,120,112,105,114,101,116,105,109,101], 2, false, false, 1, 1, 1⟩,
  ⟨[102,108,117,115,104,97,108,108], 1, true, false, 0, 0, 0⟩,
  ⟨[102,108,117,115,104,100,98], 1, true, false, 0, 0, 0⟩,
  ⟨[103,101,116], 2, false, false, 1, 1, 1⟩,
  ⟨[103,101,116,98,105,116], 3, false, false, 1, 1, 1⟩,
  ⟨[103,101,116,100,101,108], 2, true, false, 1, 1, 1⟩,
  ⟨[103,101,116,101,120], -2, true, false, 1, 1, 1⟩,
  ⟨[103,101,116,114,97,110,103,101], 4, false, false, 1, 1, 1⟩,
  ⟨[103,101,116,115,101,116], 3, true, false, 1, 1, 1⟩,
  ⟨[104,100,101,108], -3, true, false, 1, 1, 1⟩,
  ⟨[104,101,120,105,115,116,115], 3, false, false, 1, 1, 1⟩,
  ⟨[104,103,101,116], 3, false, false, 1, 1, 1⟩,
  ⟨[104,103,101,116,97,108,108], 2, false, false, 1, 1, 1⟩,
  ⟨[104,105,110,99,114,98,121], 4, true, false, 1, 1, 1⟩,
  ⟨[104,107,101,121,115], 2, false, false, 1, 1, 1⟩,
  ⟨[104,108,101,110], 2, false, false, 1, 1, 1⟩,
  ⟨[104,109,103,101,116], -3, false, false, 1, 1, 1⟩,
  ⟨[104,109,115,101,116], -4, true, false, 1, 1, 1⟩,
  ⟨[104,115,99,97,110], -3, false, false, 1, 1, 1⟩,
  ⟨[104,115,101,116], -4, true, false, 1, 1, 1⟩,
  ⟨[104,115,101,116,110,120], 4, true, false, 1, 1, 1⟩,
  ⟨[104,115,116,114,108,101,110], 3, false, false, 1, 1, 1⟩,
  ⟨[104,118,97,108,115], 2, false, false, 1, 1, 1⟩,
  ⟨[105,110,99,114], 2, true, false, 1, 1, 1⟩,
  ⟨[105,110,99,114,98,121], 3, true, false, 1, 1, 1⟩,
  ⟨[107,101,121,115], 2, false, false, 0, 0, 0⟩,
  ⟨[108,105,110,100,101,120], 3, false, false, 1, 1, 1⟩,
  ⟨[108,105,110,115,101,114,116], 5, true, false, 1, 1, 1⟩,
  ⟨[108,108,101,110], 2, false, false, 1, 1, 1⟩,
  ⟨[108,109,111,118,101], 5, true, false, 1, 2, 1⟩,
  ⟨[108,112,111,112], -2, true, false, 1, 1, 1⟩,
  ⟨[108,112,111,115], -3, false, false, 1, 1, 1⟩,
  ⟨[108,112,117,115,104], -3, true, false, 1, 1, 1⟩,
  ⟨[108,112,117,115,104,120], -3, true, false, 1, 1, 1⟩,
  ⟨[108,114,97,110,103,101], 4, false, false, 1, 1, 1⟩,
  ⟨[108,114,101,109], 4, true, false, 1, 1, 1⟩,
  ⟨[108,115,101,116], 4, true, false, 1, 1, 1⟩,
  ⟨[108,116,114,105,109], 4, true, false, 1, 1, 1⟩,
  ⟨[109,103,101,116], -2, false, false, 1, -1, 1⟩,
  ⟨[109,115,101,116], -3, true, false, 1, -1, 2⟩,
  ⟨[109,115,101,116,110,120], -3, true, false, 1, -1, 2⟩,
  ⟨[109,117,108,116,105], 1, false, true, 0, 0, 0⟩,
  ⟨[112,101,114,115,105,115,116], 2, true, false, 1, 1, 1⟩,
  ⟨[112,101,120,112,105,114,101], -3, true, false, 1, 1, 1⟩,
  ⟨[112,101,120,112,105,114,101,97,116], -3, true, false, 1, 1, 1⟩,
  ⟨[112,101,120,112,105,114,101,116,105,109,101], 2, false, false, 1, 1, 1⟩,
  ⟨[112,105,110,103], -1, false, false, 0, 0, 0⟩,
  ⟨[112,115,101,116,101,120], 4, true, false, 1, 1, 1⟩,
  ⟨[112,116,116,108], 2, false, false, 1, 1, 1⟩,
  ⟨[113,117,105,116], 1, false, true, 0, 0, 0⟩,
  ⟨[114,101,110,97,109,101], 3, true, false, 1, 2, 1⟩,
  ⟨[114,101,110,97,109,101,110,120], 3, true, false, 1, 2, 1⟩,
  ⟨[114,101,115,101,116], 1, false, true, 0, 0, 0⟩,
  ⟨[114,101,115,116,111,114,101], -4, true, false, 1, 1, 1⟩,
  ⟨[114,112,111,112], -2, true, false, 1, 1, 1⟩,
  ⟨[114,112,111,112,108,112,117,115,104], 3, true, false, 1, 2, 1⟩,
  ⟨[114,112,117,115,104], -3, true, false, 1, 1, 1⟩,
  ⟨[114,112,117,115,104,120], -3, true, false, 1, 1, 1⟩,
  ⟨[115,97,100,100], -3, true, false, 1, 1, 1⟩,
  ⟨[115,99,97,110], -2, false, false, 0, 0, 0⟩,
  ⟨[115,99,97,114,100], 2, false, false, 1, 1, 1⟩,
  ⟨[115,100,105,102,102], -2, false, false, 1, -1, 1⟩,
  ⟨[115,100,105,102,102,115,116,111,114,101], -3, true, false, 1, -1, 1⟩,
  ⟨[115,101,116], -3, true, false, 1, 1, 1⟩,
  ⟨[115,101,116,98,105,116], 4, true, false, 1, 1, 1⟩,
  ⟨[115,101,116,101,120], 4, true, false, 1, 1, 1⟩,
  ⟨[115,101,116,110,120], 3, true, false, 1, 1, 1⟩,
  ⟨[115,101,116,114,97,110,103,101], 4, true, false, 1, 1, 1⟩,
  ⟨[115,105,110,116,101,114], -2, false, false, 1, -1, 1⟩,
  ⟨[115,105,110,116,101,114,115,116,111,114,101], -3, true, false, 1, -1, 1⟩,
  ⟨[115,105,115,109,101,109,98,101,114], 3, false, false, 1, 1, 1⟩,
  ⟨[115,109,101,109,98,101,114,115], 2, false, false, 1, 1, 1⟩,
  ⟨[115,109,105,115,109,101,109,98,101,114], -3, false, false, 1, 1, 1⟩,
  ⟨[115,109,111,118,101], 4, true, false, 1, 2, 1⟩,
  ⟨[115,112,111,112], -2, true, false, 1, 1, 1⟩,
  ⟨[115,114,101,109], -3, true, false, 1, 1, 1⟩,
  ⟨[115,115,99,97,110], -3, false, false, 1, 1, 1⟩,
  ⟨[115,116,114,108,101,110], 2, false, false, 1, 1, 1⟩,
  ⟨[115,117,110,105,111,110], -2, false, false, 1, -1, 1⟩,
  ⟨[115,117,110,105,111,110,115,116,111,114,101], -3, true, false, 1, -1, 1⟩,
  ⟨[116,116,108], 2, false, false, 1, 1, 1⟩,
  ⟨[116,121,112,101], 2, false, false, 1, 1, 1⟩,
  ⟨[117,110,108,105,110,107], -2, true, false, 1, -1, 1⟩,
  ⟨[117,110,119,97,116,99,104], 1, false, true, 0, 0, 0⟩,
  ⟨[119,97,116,99,104], -2, false, true, 1, -1, 1⟩,
  ⟨[122,97,100,100], -4, true, false, 1, 1, 1⟩,
  ⟨[122,99,97,114,100], 2, false, false, 1, 1, 1⟩,
  ⟨[122,99,111,117,110,116], 4, false, false, 1, 1, 1⟩,
  ⟨[122,105,110,99,114,98,121], 4, true, false, 1, 1, 1⟩,
  ⟨[122,108,101,120,99,111,117,110,116], 4, false, false, 1, 1, 1⟩,
  ⟨[122,109,115,99,111,114,101], -3, false, false, 1, 1, 1⟩,
  ⟨[122,112,111,112,109,97,120], -2, true, false, 1, 1, 1⟩,
  ⟨[122,112,111,112,109,105,110], -2, true, false, 1, 1, 1⟩,
  ⟨[122,114,97,110,103,101], -4, false, false, 1, 1, 1⟩,
  ⟨[122,114,97,110,107], 3, false, false, 1, 1, 1⟩,
  ⟨[122,114,101,109], -3, true, false, 1, 1, 1⟩,
  ⟨[122,114,101,109,114,97,110,103,101,98,121,108,101,120], 4, true, false, 1, 1, 1⟩,
  ⟨[122,114,101,109,114,97,110,103,101,98,121,114,97,110,107], 4, true, false, 1, 1, 1⟩,
  ⟨[122,114,101,109,114,97,110,103,101,98,121,115,99,111,114,101], 4, true, false, 1, 1, 1⟩,
  ⟨[122,114,101,118,114,97,110,107], 3, false, false, 1, 1, 1⟩,
  ⟨[122,115,99,97,110], -3, false, false, 1, 1, 1⟩,
  ⟨[122,115,99,111,114,101], 3, false, false, 1, 1, 1⟩]
def chainB : List SpecM → Bool
  | a :: b :: l => ltOf cfS a b && chainB (b :: l)
  | _ => true
theorem chain_head : ∀ (l : List SpecM) (a : SpecM), chainB (a :: l) = true → ∀ x ∈ l, ltOf cfS a x = true
  | [], _, _, x, hx => by cases hx
  | b :: l, a, h, x, hx => by
    simp only [chainB, Bool.and_eq_true] at h
    rcases List.mem_cons.1 hx with rfl | hx
    · exact h.1
    · exact cf_swo.trans _ _ _ h.1 (chain_head l b h.2 x hx)
theorem chain_pw : ∀ (l : List SpecM), chainB l = true → l.Pairwise fun a b => ltOf cfS a b = true
  | [], _ => .nil
  | [a], _ => .cons (fun _ h => by cases h) .nil
  | a :: b :: l, h => by
    have h2 := h
    simp only [chainB, Bool.and_eq_true] at h2
    exact .cons (chain_head (b :: l) a h) (chain_pw (b :: l) h2.2)
theorem pw_mem {α : Type} {R : α → α → Prop} : ∀ {l : List α}, l.Pairwise R → ∀ {a b : α}, a ∈ l → b ∈ l → a = b ∨ R a b ∨ R b a
  | _, .nil, _, _, ha, _ => by cases ha
  | _, .cons h t, a, b, ha, hb => by
    rcases List.mem_cons.1 ha with h1 | h1 <;> rcases List.mem_cons.1 hb with h2 | h2
    · exact .inl (h1.trans h2.symm)
    · subst h1; exact .inr (.inl (h _ h2))
    · subst h2; exact .inr (.inr (h _ h1))
    · exact pw_mem t h1 h2
theorem sorted_chain : chainB sortedL = true := by kernel_rfl
theorem sorted_isPerm : sortedL.isPerm allL = true := by kernel_rfl
theorem sorted_cells : specsC sortedL = allCells := by kernel_rfl
theorem cells_flat : allCells.all flat = true := by kernel_rfl
theorem sorted_eq {L : List SpecM} (hp : L.Perm allL) (hs : Sort.SortedIn (ltOf cfS) 0 118 L.toArray) : L = sortedL := by
  have hS : sortedL.Perm allL := List.isPerm_iff.1 sorted_isPerm
  have hpw := chain_pw _ sorted_chain
  have hq := hp.trans hS.symm
  have hlen : L.length = 118 := by rw [hq.length_eq]; rfl
  refine List.Perm.eq_of_pairwise (le := fun a b => ltOf cfS b a = false) ?_ ?_ ?_ hq
  · intro a b ha hb h1 h2
    rcases pw_mem hpw (hq.mem_iff.1 ha) hb with h | h | h
    · exact h
    · rw [h] at h2; cases h2
    · rw [h] at h1; cases h1
  · rw [List.pairwise_iff_getElem]
    intro i j hi hj hij
    have h := hs i j (Nat.zero_le _) hij (by omega)
    rw [getElem!_pos L.toArray j (by simpa using hj), getElem!_pos L.toArray i (by simpa using hi)] at h
    simpa using h
  · refine hpw.imp fun {a b} h => ?_
    cases h2 : ltOf cfS b a with
    | false => rfl
    | true => have := cf_swo.trans _ _ _ h h2; rw [cf_swo.irrefl] at this; cases this
end Go.Proofs.YtcgecgilkapjaaaGreatDoor
