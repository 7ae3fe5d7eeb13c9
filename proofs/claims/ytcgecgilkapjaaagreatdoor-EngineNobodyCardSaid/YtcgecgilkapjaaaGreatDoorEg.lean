/- The evaluator is sound: slice expressions, comparisons, maps. No program is named. -/
import Derived.Test.YtcgecgilkapjaaaGreatDoorEf
import Derived.Laws.Strings
namespace Go.Proofs.YtcgecgilkapjaaaGreatDoor
open Go Go.RowKit
variable {S : Rho}

theorem intEq_eq (a b : Int) : intEq a b = (a == b) := by
  cases a <;> cases b <;> simp only [intEq]
  · rename_i m n
    rw [Bool.eq_iff_iff, Nat.beq_eq, beq_iff_eq]
    exact ⟨fun h => by rw [h], fun h => Int.ofNat.inj h⟩
  · rename_i m n
    exact (beq_eq_false_iff_ne.2 (by intro h; cases h)).symm
  · exact (beq_eq_false_iff_ne.2 (by intro h; cases h)).symm
  · rename_i m n
    rw [Bool.eq_iff_iff, Nat.beq_eq, beq_iff_eq]
    exact ⟨fun h => by rw [h], fun h => Int.negSucc.inj h⟩

theorem intLt_eq (a b : Int) : intLt a b = decide (a < b) := by
  cases a <;> cases b <;> simp only [intLt]
  · rename_i m n
    rw [Bool.eq_iff_iff, decide_eq_true_iff, Int.ofNat_eq_natCast, Int.ofNat_eq_natCast]
    show Nat.ble (m + 1) n = true ↔ _
    rw [Nat.ble_eq]; omega
  · rename_i m n
    exact (decide_eq_false (by rw [Int.ofNat_eq_natCast]; have := Int.negSucc_lt_zero n; omega)).symm
  · rename_i m n
    exact (decide_eq_true (by rw [Int.ofNat_eq_natCast]; have := Int.negSucc_lt_zero m; omega)).symm
  · rename_i m n
    rw [Bool.eq_iff_iff, decide_eq_true_iff, Int.negSucc_eq, Int.negSucc_eq]
    show Nat.ble (n + 1) m = true ↔ _
    rw [Nat.ble_eq]; omega

theorem bytesEq_eq : ∀ (a b : List UInt8), bytesEq a b = (a == b)
  | [], [] => rfl
  | [], _ :: _ => rfl
  | _ :: _, [] => rfl
  | a :: x, b :: y => by
    simp only [bytesEq]
    rw [bytesEq_eq x y, List.cons_beq_cons]
    congr 1
    rw [Bool.eq_iff_iff, Nat.beq_eq, beq_iff_eq]
    exact ⟨fun h => UInt8.toNat_inj.1 h, fun h => by rw [h]⟩

theorem bytesLt_eq : ∀ (a b : List UInt8), bytesLt a b = Op.bytesLess a b
  | [], [] => rfl
  | [], _ :: _ => rfl
  | _ :: _, [] => rfl
  | a :: x, b :: y => by
    simp only [bytesLt, Op.bytesLess]
    rw [bytesLt_eq x y]
    cases h : Nat.beq a.toNat b.toNat with
    | true =>
      have : a = b := UInt8.toNat_inj.1 (Nat.eq_of_beq_eq_true h)
      subst this
      simp
    | false =>
      have hne : a ≠ b := fun e => Nat.ne_of_beq_eq_false h (by rw [e])
      have : (a == b) = false := beq_eq_false_iff_ne.2 hne
      simp only [cond_false, this, Bool.false_and, Bool.or_false]
      rw [Bool.eq_iff_iff, decide_eq_true_iff, UInt8.lt_iff_toNat_lt]
      show Nat.ble (a.toNat + 1) b.toNat = true ↔ _
      rw [Nat.ble_eq]; omega

theorem bytes_beq (a b : List UInt8) : ((⟨⟨a⟩⟩ : ByteArray) == ⟨⟨b⟩⟩) = bytesEq a b := by
  rw [bytesEq_eq]
  show ((⟨a⟩ : Array UInt8) == ⟨b⟩) = (a == b)
  simp

theorem bytes_toList (a : List UInt8) : (⟨⟨a⟩⟩ : ByteArray).toList = a := by
  rw [ByteArray.toList_eq]

inductive OptR (ρ : Rho) : Option Value → Option Value → Prop
  | none : OptR ρ none none
  | some {v v' : Value} (h : VR ρ v v') : OptR ρ (some v) (some v')

section
variable {G : Nat} {W : World} {ρ : Rho} {st : St} {w : World}

theorem aBound_run {x x' : Value} {most most' dflt m : Nat} {code : BoundsCode} (hx : VR ρ x x') (h : aBound (some x) most dflt = some m) (hm : most ≤ most') :
    (Instr.sliceBound x' most' code).run P w = .ok m w ∧ m ≤ most := by
  unfold aBound at h
  split at h
  · rename_i hx; cases hx
  · rename_i k n hx
    injection hx with hx
    subst hx
    cases ‹VR ρ _ _›
    cases hb : Nat.ble n most with
    | false => simp [hb] at h
    | true =>
      simp only [hb, cond_true, Option.some.injEq] at h
      subst h
      have := Nat.le_of_ble_eq_true hb
      refine ⟨?_, this⟩
      simp only [Instr.sliceBound, Sem.run_bind, run_asIntOf, Result.andThen_ok]
      rw [if_pos ⟨Int.natCast_nonneg _, by show (n : Int) ≤ most'; omega⟩]
      rfl
  · simp at h

theorem low_run {lo lo' : Option Value} {l h m : Nat} {code : BoundsCode} (h1 : OptR ρ lo lo') (hlo : aBound lo h 0 = some l) :
    Sem.run P (match lo' with
      | some v => do let l ← Instr.sliceBound v h code; pure (l, h, m)
      | none => do let l ← pure 0; pure (l, h, m)) w = .ok (l, h, m) w := by
  cases h1 with
  | none => simp only [aBound, Option.some.injEq] at hlo; subst hlo; rfl
  | some hv =>
    have := aBound_run (w := w) (code := code) hv hlo (Nat.le_refl _)
    simp only [Sem.run_bind, this.1, Result.andThen_ok, Sem.run_pure]

theorem aBounds_run {isSlice : Bool} {len c c' : Nat} {lo hi mx lo' hi' mx' : Option Value} {l h m : Nat} (h1 : OptR ρ lo lo') (h2 : OptR ρ hi hi') (h3 : OptR ρ mx mx')
    (hr : aBounds len c lo hi mx = some (l, h, m)) (hc : c ≤ c') (hl : len ≤ c) :
    ∃ m', (Instr.sliceBounds isSlice len c' lo' hi' mx').run P w = .ok (l, h, m') w ∧ l ≤ h ∧ h ≤ m ∧ m ≤ c ∧ (m' = m ∨ (m = c ∧ m' = c')) ∧ m ≤ m' := by
  unfold aBounds at hr
  split at hr
  · simp at hr
  · rename_i hne
    cases hm : aBound mx c c with
    | none => simp [hm] at hr
    | some m1 =>
      simp only [hm] at hr
      cases hh : aBound hi m1 len with
      | none => simp [hh] at hr
      | some h1' =>
        simp only [hh] at hr
        cases hlo : aBound lo h1' 0 with
        | none => simp [hlo] at hr
        | some l1 =>
          simp only [hlo, Option.some.injEq, Prod.mk.injEq] at hr
          obtain ⟨rfl, rfl, rfl⟩ := hr
          have low : ∀ code, (match lo' with | some v => Instr.sliceBound v h1' code | none => pure 0 : Sem Nat).run P w = .ok l1 w ∧ l1 ≤ h1' := by
            intro code
            cases h1 with
            | none => simp only [aBound, Option.some.injEq] at hlo; subst hlo; exact ⟨rfl, Nat.zero_le _⟩
            | some hv => exact aBound_run hv hlo (Nat.le_refl _)
          cases h3 with
          | none =>
            simp only [aBound, Option.some.injEq] at hm
            subst hm
            cases h2 with
            | none =>
              simp only [aBound, Option.some.injEq] at hh
              subst hh
              refine ⟨c', ?_, (low .sliceB).2, hl, Nat.le_refl _, .inr ⟨rfl, rfl⟩, hc⟩
              simp only [Instr.sliceBounds, Sem.run_bind, Sem.run_pure, Result.andThen_ok, Option.isSome_none, Bool.false_eq_true, if_false]
              exact low_run h1 hlo
            | some hv =>
              have := fun code => aBound_run (w := w) (code := code) hv hh hc
              refine ⟨c', ?_, (low .sliceB).2, (this .sliceAcap).2, Nat.le_refl _, .inr ⟨rfl, rfl⟩, hc⟩
              simp only [Instr.sliceBounds, Sem.run_bind, Result.andThen_ok, Option.isSome_none, Bool.false_eq_true, if_false, (this _).1, Sem.run_pure]
              exact low_run h1 hlo
          | some hx =>
            have hmx := fun code => aBound_run (w := w) (code := code) hx hm hc
            cases h2 with
            | none => exact absurd rfl (hne _ rfl)
            | some hv =>
              have := fun code => aBound_run (w := w) (code := code) hv hh (Nat.le_refl _)
              refine ⟨m1, ?_, (low .slice3C).2, (this .sliceAcap).2, (hmx .sliceAcap).2, .inl rfl, Nat.le_refl _⟩
              simp only [Instr.sliceBounds, Sem.run_bind, Result.andThen_ok, Option.isSome_some, if_true, (hmx _).1, (this _).1]
              exact low_run h1 hlo

end
end Go.Proofs.YtcgecgilkapjaaaGreatDoor
