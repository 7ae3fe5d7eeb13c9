/- KEYCMD: a law's start for the evaluator; KeycmdNames. -/
import Derived.Test.YthojmgjgmbnopaaGreatDoorQa
import Derived.Test.YthojmgjgmbnopaaGreatDoorQb
import Derived.Test.YthojmgjgmbnopaaGreatDoorLdk
namespace Go.Proofs.YthojmgjgmbnopaaGreatDoor
open Go Go.RowKit
/-- Where the start's blocks lie. -/
def rho0 (e6 e7 e8 : Spot) : Rho := fun k => if k = 1 then some ⟨1, 0, 1, 1⟩ else if k = 2 then some ⟨2, 0, 1, 1⟩ else if k = 6 then some e6 else if k = 7 then some e7 else if k = 8 then some e8 else none
theorem st0_get (k : Nat) : st0.heap.get k = if k = 2 then some (.cells true 1 (Tr.fill .nil 0 [.iface 319 (.pointer (some ⟨7, 0, none⟩))])) else if k = 1 then some (.cells true 1 (Tr.fill .nil 0 [.iface 319 (.pointer (some ⟨6, 0, none⟩))])) else none := by
  unfold st0
  simp only [Tr.get_set, Tr.get_nil]
theorem fill_one {x v : Value} {i : Nat} (h : (Tr.fill .nil 0 [x]).get i = some v) : i = 0 ∧ v = x := by
  rw [Tr.get_fill] at h
  split at h
  · rename_i hi
    have : i = 0 := by have := hi.2; simp at this; exact this
    subst this
    simp at h
    exact ⟨rfl, h.symm⟩
  · rw [Tr.get_nil] at h; cases h
theorem start_sim {W : World} (hT : Two W) (e8 : Spot) : ∃ e6 e7, Sim 5 W (rho0 e6 e7 e8) st0 W := by
  obtain ⟨⟨b1, o1, T1, f1, h1⟩, ⟨b2, o2, T2, f2, h2⟩⟩ := hT
  refine ⟨⟨b1, o1, 0, 0⟩, ⟨b2, o2, 0, 0⟩, ⟨Below.refl _ _, ?_, by decide, ?_, ?_, ?_, ?_⟩⟩
  · intro k hk
    have hk : 9 ≤ k := hk
    unfold rho0
    rw [if_neg (by omega), if_neg (by omega), if_neg (by omega), if_neg (by omega), if_neg (by omega)]
  · intro k e hk he
    unfold rho0 at he
    by_cases k1 : k = 1
    · rw [if_pos k1] at he; cases he; exact ⟨k1.symm, rfl⟩
    rw [if_neg k1] at he
    by_cases k2 : k = 2
    · rw [if_pos k2] at he; cases he; exact ⟨k2.symm, rfl⟩
    rw [if_neg k2, if_neg (by omega), if_neg (by omega), if_neg (by omega)] at he
    cases he
  · intro k a hk ha
    rw [st0_get] at ha
    unfold rho0
    by_cases k2 : k = 2
    · subst k2; exact ⟨_, rfl⟩
    rw [if_neg k2] at ha
    by_cases k1 : k = 1
    · subst k1; exact ⟨_, rfl⟩
    rw [if_neg k1] at ha
    cases ha
  · intro k a ha e he
    rw [st0_get] at ha
    by_cases k2 : k = 2
    · subst k2
      cases (Option.some.inj ha)
      cases (Option.some.inj (show some (⟨2, 0, 1, 1⟩ : Spot) = some e from he))
      refine ⟨_, h2, ⟨rfl, rfl, (fun h => by cases h), ?_⟩, (fun h => by cases h)⟩
      intro i v hv
      obtain ⟨rfl, rfl⟩ := fill_one hv
      refine ⟨_, rfl, .iface _ ?_⟩
      have := VR.ptr (ρ := rho0 ⟨b1, o1, 0, 0⟩ ⟨b2, o2, 0, 0⟩ e8) (k := 7) (e := ⟨b2, o2, 0, 0⟩) 0 rfl
      simpa using this
    rw [if_neg k2] at ha
    by_cases k1 : k = 1
    · subst k1
      cases (Option.some.inj ha)
      cases (Option.some.inj (show some (⟨1, 0, 1, 1⟩ : Spot) = some e from he))
      refine ⟨_, h1, ⟨rfl, rfl, (fun h => by cases h), ?_⟩, (fun h => by cases h)⟩
      intro i v hv
      obtain ⟨rfl, rfl⟩ := fill_one hv
      refine ⟨_, rfl, .iface _ ?_⟩
      have := VR.ptr (ρ := rho0 ⟨b1, o1, 0, 0⟩ ⟨b2, o2, 0, 0⟩ e8) (k := 6) (e := ⟨b1, o1, 0, 0⟩) 0 rfl
      simpa using this
    rw [if_neg k1] at ha
    cases ha
  · intro k k' a a' e e' ha ha' he he' hbb
    have two : ∀ j c f, st0.heap.get j = some c → rho0 ⟨b1, o1, 0, 0⟩ ⟨b2, o2, 0, 0⟩ e8 j = some f → f.b = j := by
      intro j c f hc hf
      rw [st0_get] at hc
      by_cases k2 : j = 2
      · subst k2; cases (Option.some.inj (show some (⟨2, 0, 1, 1⟩ : Spot) = some f from hf)); rfl
      rw [if_neg k2] at hc
      by_cases k1 : j = 1
      · subst k1; cases (Option.some.inj (show some (⟨1, 0, 1, 1⟩ : Spot) = some f from hf)); rfl
      rw [if_neg k1] at hc
      cases hc
    rw [← two k a e ha he, ← two k' a' e' ha' he', hbb]
theorem rho0_arg (e6 e7 e8 : Spot) : rho0 e6 e7 e8 8 = some e8 := rfl
theorem isT_spec {r : Option (Value × St)} (h : isT r = true) : ∃ st, r = some (.bool true, st) := by
  unfold isT at h
  split at h
  · exact ⟨_, rfl⟩
  · cases h
/-- A law of a number and a slice that the kernel has reckoned to be true. -/
theorem law_of {f : FuncId} {W : World} (hT : Two W) (n : Int) (v : Value) (hv : v = .slice none 0 0 ∨ ∃ b off m c, v = .slice (some ⟨b, off, none⟩) m c)
    (hr : ∀ v, isT (evCall X0 5 O0 1000 30 f [.int .i64 n, v] st0) = true) :
    Calls P f ⟨[.int .i64 n, v]⟩ W fun e W' => e = .returned (.bool true) ∧ Below W.heap.size W W' := by
  have fin : ∀ (u : Value) (e8 : Spot), (∀ e6 e7, VR (rho0 e6 e7 e8) u v) → Calls P f ⟨[.int .i64 n, v]⟩ W fun e W' => e = .returned (.bool true) ∧ Below W.heap.size W W' := by
    intro u e8 hu
    obtain ⟨e6, e7, hS⟩ := start_sim hT e8
    obtain ⟨st, h⟩ := isT_spec (hr u)
    refine (evCall_sound X0_ok (O0_ok 5 W) 1000 30 f _ _ _ _ h _ W [.int .i64 n, v] hS (.cons (.int _ _) (.cons (hu e6 e7) .nil))).mono ?_
    rintro e w' ⟨v', ρ', rfl, hvr, hS', -⟩
    cases hvr
    exact ⟨rfl, hS'.below⟩
  rcases hv with rfl | ⟨b, off, m, c, rfl⟩
  · exact fin (.slice none 0 0) ⟨0, 0, 0, 0⟩ fun _ _ => .nilSlice 0 0
  · refine fin (.slice (some ⟨8, 0, none⟩) m c) ⟨b, off, 0, 0⟩ fun e6 e7 => ?_
    have := VR.slice (ρ := rho0 e6 e7 ⟨b, off, 0, 0⟩) (k := 8) (e := ⟨b, off, 0, 0⟩) 0 m c c (rho0_arg _ _ _) (Nat.le_refl _) (.inl rfl)
    simpa using this
theorem kNames_con (W : World) (hT : Two W) (n : Int) (v : Value) (hv : v = .slice none 0 0 ∨ ∃ b off m c, v = .slice (some ⟨b, off, none⟩) m c) :
    Calls Tryz.prog 6 #[.int .i64 n, v] W fun e w' => e = .returned (.bool true) ∧ Below W.heap.size W w' := law_of hT n v hv (names_reckoned n)
end Go.Proofs.YthojmgjgmbnopaaGreatDoor
