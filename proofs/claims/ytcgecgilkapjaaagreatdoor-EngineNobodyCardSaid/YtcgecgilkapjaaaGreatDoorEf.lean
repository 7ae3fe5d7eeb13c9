/- The evaluator is sound: the operations that only look, one by one. No program is named. -/
import Derived.Test.YtcgecgilkapjaaaGreatDoorEe
namespace Go.Proofs.YtcgecgilkapjaaaGreatDoor
open Go Go.RowKit
variable {S : Rho}

section
variable {G : Nat} {W : World} {ρ : Rho} {st : St} {w : World}

theorem run_places (fs : List Field) : ∀ (ps : List (Nat × Nat)), fs.mapM (fun f => (sizeIn f.type).map fun n => (f.offset, n)) = some ps →
    (fs.mapM (fun f => do pure (f.offset, ← sizeOf f.type)) : Sem (List (Nat × Nat))).run P w = .ok ps w := by
  induction fs with
  | nil =>
    intro ps h
    simp only [List.mapM_nil] at h ⊢
    cases h
    exact Sem.run_pure P w []
  | cons f fs ih =>
    intro ps h
    rw [List.mapM_cons] at h ⊢
    cases hs : sizeIn f.type with
    | none => simp [hs] at h
    | some n =>
      simp only [hs, Option.map_some] at h
      cases hr : fs.mapM (fun f => (sizeIn f.type).map fun n => (f.offset, n)) with
      | none => rw [hr] at h; simp at h
      | some r =>
        rw [hr] at h
        have hp : ps = (f.offset, n) :: r := by simpa using h.symm
        subst hp
        simp only [Sem.run_bind, run_sizeOf (w := w) hs, Result.andThen_ok, Sem.run_pure, ih r hr]

theorem run_places' {fs : Array Field} {ps : List (Nat × Nat)} (h : fs.toList.mapM (fun f => (sizeIn f.type).map fun n => (f.offset, n)) = some ps) :
    (fs.mapM (fun f => do pure (f.offset, ← sizeOf f.type)) : Sem (Array (Nat × Nat))).run P w = .ok ps.toArray w := by
  rw [Array.mapM_eq_mapM_toList, Sem.run_map, run_places fs.toList ps h]
  rfl

theorem aBuild_sound {t : TypeId} {ps ps' : List (Nat × Value)} {v : Value} (hp : PartsR ρ ps ps') (h : aBuild t ps = some v) :
    ∃ v', (Instr.build t ps'.toArray).run P w = .ok v' w ∧ VR ρ v v' := by
  unfold aBuild at h
  cases hi : P.info? t with
  | none => simp [hi] at h
  | some i =>
    simp only [hi] at h
    cases hz : i.zero with
    | none => simp [hz] at h
    | some z =>
      have hrun : (zeroValue t).run P w = .ok z w := by simp only [zeroValue, Sem.run_bind, run_typeInfo hi, Result.andThen_ok, hz, Sem.run_pure]
      simp only [hz] at h
      split at h
      · rename_i fields hu
        split at h
        · rename_i places hpl
          split at h
          · rename_i cs hf
            cases hfl : flat z with
            | false => simp [hfl] at h
            | true =>
              simp only [hfl, cond_true, Option.some.injEq] at h
              subst h
              obtain ⟨r', h1, h2⟩ := fill_rel (ρ := ρ) hp (flat_self hfl).cells hf
              refine ⟨.agg r', ?_, .agg h2⟩
              simp only [Instr.build, Sem.run_bind, hrun, Result.andThen_ok, run_underlying hu, run_places' hpl]
              have : (fun x => places.toArray[x]?) = fun (i : Nat) => places[i]? := by funext i; simp
              rw [this, h1]
              rfl
          · simp at h
        · simp at h
      · rename_i n elem hu
        split at h
        · rename_i size hs
          split at h
          · rename_i cs hf
            cases hfl : flat z with
            | false => simp [hfl] at h
            | true =>
              simp only [hfl, cond_true, Option.some.injEq] at h
              subst h
              obtain ⟨r', h1, h2⟩ := fill_rel (ρ := ρ) hp (flat_self hfl).cells hf
              refine ⟨.agg r', ?_, .agg h2⟩
              simp only [Instr.build, Sem.run_bind, hrun, Result.andThen_ok, run_underlying hu, run_sizeOf hs]
              rw [h1]
              rfl
          · simp at h
        · simp at h
      · simp at h

theorem aFieldAddr_sound {s : TypeId} {x x' v : Value} {f : Nat} (hx : VR ρ x x') (h : aFieldAddr s x f = some v) :
    ∃ v', (Instr.fieldAt s x' f).run P w = .ok v' w ∧ VR ρ v v' := by
  unfold aFieldAddr at h
  split at h
  · rename_i k o
    cases hx with
    | @ptr _ e _ he =>
      split at h
      · rename_i fields hu
        split at h
        · rename_i fd hf
          split at h
          · rename_i n hs
            simp only [Option.some.injEq] at h
            subst h
            refine ⟨.pointer (some ⟨e.b, o + fd.offset + e.sh, none⟩), ?_, .ptr _ he⟩
            simp only [Instr.fieldAt, Sem.run_bind, run_underlying hu, Result.andThen_ok, hf, Instr.sureAddr, Sem.run_pure, fieldPlace, run_sizeOf hs]
            rw [if_neg (by omega), add_none, show o + e.sh + fd.offset = o + fd.offset + e.sh by omega]
            rfl
          · simp at h
        · simp at h
      · simp at h
  · simp at h

theorem aField_sound {s : TypeId} {x x' v : Value} {f : Nat} (hx : VR ρ x x') (h : aField s x f = some v) :
    ∃ v', (Instr.field s x' f).run P w = .ok v' w ∧ VR ρ v v' := by
  unfold aField at h
  split at h
  · rename_i cs
    cases hx with
    | agg hc =>
      split at h
      · rename_i fields hu
        split at h
        · rename_i fd hf
          obtain ⟨v', h1, h2⟩ := aPart_sound (w := w) hc h
          refine ⟨v', ?_, h2⟩
          simp only [Instr.field, Sem.run_bind, run_underlying hu, Result.andThen_ok, hf, asAgg, Sem.run_pure, h1]
        · simp at h
      · simp at h
  · simp at h

theorem inRange_spec {i : Int} {n : Nat} (h : inRange i n = true) : 0 ≤ i ∧ i < n := by
  cases i with
  | ofNat m =>
    simp only [inRange] at h
    have := Nat.le_of_ble_eq_true h
    exact ⟨Int.natCast_nonneg _, by show (m : Int) < n; omega⟩
  | negSucc m => simp [inRange] at h

theorem run_asIntOf {k : IntKind} {i : Int} : (asIntOf (.int k i)).run P w = .ok (k, i) w := rfl

theorem aIndexAddr_sound {t : TypeId} {x x' ix ix' v : Value} (hx : VR ρ x x') (hi : VR ρ ix ix') (h : aIndexAddr t x ix = some v) :
    ∃ v', (Instr.indexAt t x' ix').run P w = .ok v' w ∧ VR ρ v v' := by
  unfold aIndexAddr at h
  split at h
  · rename_i kk i
    cases hi
    split at h
    · rename_i len elem k o hu
      cases hx with
      | @ptr _ e _ he =>
        split at h
        · rename_i u hs
          cases hr : inRange i len with
          | false => simp [hr] at h
          | true =>
            simp only [hr, cond_true, Option.some.injEq] at h
            subst h
            obtain ⟨h1, h2⟩ := inRange_spec hr
            refine ⟨.pointer (some ⟨e.b, o + i.toNat * u + e.sh, none⟩), ?_, .ptr _ he⟩
            simp only [Instr.indexAt, Sem.run_bind, run_asIntOf, run_underlying hu, Result.andThen_ok, Instr.sureAddr, Sem.run_pure]
            simp only [h1, h2, and_self, Sem.run_bind, run_sizeOf hs, Result.andThen_ok, Sem.run_pure, add_none, if_pos]
            rw [show o + e.sh + i.toNat * u = o + i.toNat * u + e.sh by omega]
        · simp at h
    · rename_i elem k o len c hu
      cases hx with
      | @slice _ e _ _ _ c' he _ _ =>
        split at h
        · rename_i u hs
          cases hr : inRange i len with
          | false => simp [hr] at h
          | true =>
            simp only [hr, cond_true, Option.some.injEq] at h
            subst h
            obtain ⟨h1, h2⟩ := inRange_spec hr
            refine ⟨.pointer (some ⟨e.b, o + i.toNat * u + e.sh, none⟩), ?_, .ptr _ he⟩
            simp only [Instr.indexAt, Sem.run_bind, run_asIntOf, run_underlying hu, Result.andThen_ok, Sem.run_pure]
            simp only [h1, h2, and_self, Sem.run_bind, run_sizeOf hs, Result.andThen_ok, Sem.run_pure, add_none, if_pos]
            rw [show o + e.sh + i.toNat * u = o + i.toNat * u + e.sh by omega]
        · simp at h
      | slice0 _ _ _ he _ =>
        split at h
        · rename_i u hs
          cases hr : inRange i 0 with
          | false => simp [hr] at h
          | true => have := inRange_spec hr; omega
        · simp at h
    · simp at h
  · simp at h

theorem aIndex_sound {t : TypeId} {x x' ix ix' v : Value} (hx : VR ρ x x') (hi : VR ρ ix ix') (h : aIndex t x ix = some v) :
    ∃ v', (Instr.index t x' ix').run P w = .ok v' w ∧ VR ρ v v' := by
  unfold aIndex at h
  split at h
  · rename_i kk i
    cases hi
    split at h
    · rename_i len elem cs hu
      cases hx with
      | agg hc =>
        split at h
        · rename_i u hs
          cases hr : inRange i len with
          | false => simp [hr] at h
          | true =>
            simp only [hr, cond_true] at h
            obtain ⟨h1, h2⟩ := inRange_spec hr
            obtain ⟨v', h3, h4⟩ := aPart_sound (w := w) hc h
            refine ⟨v', ?_, h4⟩
            simp only [Instr.index, Sem.run_bind, run_asIntOf, run_underlying hu, Result.andThen_ok]
            simp only [h1, h2, and_self, if_true, Sem.run_bind, run_sizeOf hs, Result.andThen_ok, h3]
        · simp at h
    · rename_i s hu
      cases hx
      split at h
      · rename_i m
        split at h
        · rename_i b hb
          simp only [Option.some.injEq] at h
          subst h
          refine ⟨_, ?_, .int _ _⟩
          simp only [Instr.index, Sem.run_bind, run_asIntOf, run_underlying hu, Result.andThen_ok]
          have hlt : m < s.length := by
            rcases Nat.lt_or_ge m s.length with h' | h'
            · exact h'
            · simp [List.getElem?_eq_none h'] at hb
          have e1 : ((⟨⟨s⟩⟩ : ByteArray)[(Int.ofNat m).toNat]?) = some b := by
            show (⟨⟨s⟩⟩ : ByteArray)[m]? = some b
            have hsz : m < (⟨⟨s⟩⟩ : ByteArray).size := hlt
            rw [getElem?_pos (⟨⟨s⟩⟩ : ByteArray) m hsz]
            rw [List.getElem?_eq_getElem hlt] at hb
            exact hb
          have e2 : (0 : Int) ≤ Int.ofNat m := Int.natCast_nonneg _
          rw [if_pos e2, e1]
          rfl
        · simp at h
      · simp at h
    · simp at h
  · simp at h

end
end Go.Proofs.YtcgecgilkapjaaaGreatDoor
