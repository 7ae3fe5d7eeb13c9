/- The evaluator is sound: all operations that only look. -/
import Derived.Test.YtcgecgilkapjaaaGreatDoorEi
namespace Go.Proofs.YtcgecgilkapjaaaGreatDoor
open Go Go.RowKit
variable {S : Rho}

section
variable {G : Nat} {W : World} {ρ : Rho} {st : St} {w : World}

theorem aOther_run {op : BinOp} {t : TypeId} {a b : Operand} {x x' y y' v : Value} (hx : VR ρ x x') (hy : VR ρ y y') (h : aOther op t a b x y = some v) :
    (do eqGuard op t a b x' y'; binOp op t x' y' : Sem Value).run P w = .ok v w ∧ VR ρ v v := by
  unfold aOther at h
  cases hf : (flat x && flat y) with
  | false => rw [hf] at h; exact nn h
  | true =>
    rw [hf] at h
    simp only [cond_true] at h
    rw [Bool.and_eq_true] at hf
    rw [flat_eq hf.1 hx, flat_eq hf.2 hy]
    split at h
    · rename_i r hq
      cases hr : flat r with
      | false => rw [hr] at h; exact nn h
      | true =>
        rw [hr] at h
        simp only [cond_true, Option.some.injEq] at h
        subst h
        exact ⟨quick_run hq w, flat_self hr⟩
    · exact nn h

theorem aBin_run {op : BinOp} {t : TypeId} {a b : Operand} {x x' y y' v : Value} (hx : VR ρ x x') (hy : VR ρ y y') (h : aBin op t a b x y = some v) :
    (do eqGuard op t a b x' y'; binOp op t x' y' : Sem Value).run P w = .ok v w ∧ VR ρ v v := by
  have key : aBinOr (aArith x y op) op t a b x y = some v := h
  cases ha : aArith x y op with
  | some u =>
    rw [ha] at key
    have : some u = some v := key
    cases (Option.some.inj this)
    exact aArith_run hx hy ha
  | none =>
    rw [ha] at key
    have eqs : ∀ (eq : Bool) (r : Option Bool), aEqOr r eq op t a b x y = some v → aEq t x y = r → ((op = .eql ∧ eq = true) ∨ (op = .neq ∧ eq = false)) →
        (do eqGuard op t a b x' y'; binOp op t x' y' : Sem Value).run P w = .ok v w ∧ VR ρ v v := by
      intro eq r hr hq hop
      cases r with
      | none => exact aOther_run hx hy hr
      | some r =>
        have : some (Value.bool (bif eq then r else !r)) = some v := hr
        cases (Option.some.inj this)
        obtain ⟨h1, h2, h3, h4, h5⟩ := aEq_run (w := w) hx hy hq
        refine ⟨?_, .bool _⟩
        rw [Sem.run_bind, guard_free h2 h3, Result.andThen_ok]
        rcases hop with ⟨rfl, rfl⟩ | ⟨rfl, rfl⟩
        · rw [binOp_eql h4 h5, Sem.run_bind, h1, Result.andThen_ok, Sem.run_pure]
          rfl
        · rw [binOp_neq h4 h5, Sem.run_bind, h1, Result.andThen_ok, Sem.run_pure]
          rfl
    cases op
    case eql => exact eqs true (aEq t x y) key rfl (.inl ⟨rfl, rfl⟩)
    case neq => exact eqs false (aEq t x y) key rfl (.inr ⟨rfl, rfl⟩)
    all_goals exact aOther_run hx hy key

theorem aUn_run {op : UnOp} {x x' v : Value} (hx : VR ρ x x') (h : aUn op x = some v) : (Op.unary op x').run P w = .ok v w ∧ VR ρ v v := by
  unfold aUn at h
  split at h
  · cases hx
    cases (Option.some.inj h)
    exact ⟨Sem.run_pure P w _, .bool _⟩
  · cases hf : flat x with
    | false => rw [hf] at h; exact nn h
    | true =>
      rw [hf] at h
      simp only [cond_true] at h
      rw [flat_eq hf hx]
      cases hq : quick P (Op.unary op x) with
      | none => rw [hq] at h; exact nn h
      | some r =>
        rw [hq] at h
        simp only [Option.bind_some] at h
        cases hr : flat r with
        | false => rw [hr] at h; exact nn h
        | true =>
          rw [hr] at h
          simp only [cond_true, Option.some.injEq] at h
          subst h
          exact ⟨quick_run hq w, flat_self hr⟩

theorem plain_check {d : TypeDesc} {t : TypeId} {k : Value} {e : Bool} (hu : P.underlying t = some d) (h : plainKey d k = true) : (Instr.checkKey e 10000 t k).run P w = .ok () w := by
  rw [show (10000 : Nat) = 9999 + 1 from rfl, Instr.checkKey]
  simp only [Sem.run_bind, run_underlying hu, Result.andThen_ok]
  unfold plainKey at h
  split at h <;> first | exact Sem.run_pure P w () | (cases h)

theorem keyEq_same {d : TypeDesc} {k a : Value} {r : Bool} (h : keyEq d k a = some r) : Instr.sameNow d k a = some r := by
  unfold keyEq at h
  split at h
  · split at h
    · rename_i hk; simp only [Instr.sameNow, if_pos hk]; rw [← h, intEq_eq]
    · exact nn h
  · simp only [Instr.sameNow]; rw [← h, bytes_beq]
  · simp only [Instr.sameNow]; exact h
  · exact nn h

theorem keyEq_true {d : TypeDesc} {k a : Value} (h : keyEq d k a = some true) : k = a := by
  unfold keyEq at h
  split at h
  · split at h
    · rename_i hk
      subst hk
      rw [intEq_eq, Option.some.injEq, beq_iff_eq] at h
      rw [h]
    · exact nn h
  · rw [bytesEq_eq, Option.some.injEq, beq_iff_eq] at h
    rw [h]
  · simp only [Option.some.injEq, beq_iff_eq] at h
    rw [h]
  · exact nn h

/-- What is found, and where. -/
theorem aFind_run {d : TypeDesc} {k : Value} : ∀ {es es' : List MapEntry}, EntsR ρ es es' → ∀ {i : Nat} {r : Option (Nat × Value)}, aFind d k es i = some r →
    (r = none ∧ Instr.findNow d k es' i = some none) ∨
    ∃ j e e', r = some (i + j, e.val) ∧ es[j]? = some e ∧ es'[j]? = some e' ∧ EntR ρ e e' ∧ e.key = k ∧ Instr.findNow d k es' i = some (some (i + j, e'.val))
  | _, _, .nil, i, r, h => .inl ⟨(Option.some.inj h).symm, rfl⟩
  | _, _, @EntsR.cons _ e e' l l' he hl, i, r, h => by
    have h : (match keyEq d k e.key with | some true => some (some (i, e.val)) | some false => aFind d k l (i + 1) | none => none) = some r := h
    have hf : Instr.findNow d k (e' :: l') i = (match Instr.sameNow d k e'.key with | some true => some (some (i, e'.val)) | some false => Instr.findNow d k l' (i + 1) | none => none) := rfl
    cases hk : keyEq d k e.key with
    | none => rw [hk] at h; exact nn h
    | some b =>
      rw [hk] at h
      have hs := keyEq_same hk
      rw [← he.key] at hs
      rw [hs] at hf
      cases b with
      | true =>
        right
        refine ⟨0, e, e', (Option.some.inj h).symm, by simp, by simp, he, (keyEq_true hk).symm, hf⟩
      | false =>
        rcases aFind_run hl h with ⟨h1, h2⟩ | ⟨j, f, f', h1, h2, h3, h4, h5, h6⟩
        · exact .inl ⟨h1, hf.trans h2⟩
        · right
          exact ⟨j + 1, f, f', by rw [h1, show i + 1 + j = i + (j + 1) by omega], by simpa using h2, by simpa using h3, h4, h5, by rw [hf, show i + (j + 1) = i + 1 + j by omega]; exact h6⟩

theorem findKey_run {t : TypeId} {d : TypeDesc} {k : Value} {es : List MapEntry} {r : Option (Nat × Value)} (hu : P.underlying t = some d) (h : Instr.findNow d k es 0 = some r) :
    (Instr.findKey t k es).run P w = .ok r w := by
  simp only [Instr.findKey, Sem.run_bind, run_underlying hu, Result.andThen_ok, h, Sem.run_pure]

/-- A map's entries in the world. -/
theorem aEntries_run (hS : Sim S G W ρ st w) {x x' : Value} {es : List MapEntry} (hx : VR ρ x x') (h : aEntries x st = some es) :
    (x' = .map none ∧ es = []) ∨ ∃ r e es' clock, x = .map (some r) ∧ x' = .map (some e.b) ∧ ρ r = some e ∧ st.heap.get r = some (.map es clock) ∧ w.heap[e.b]? = some (.map es' clock) ∧ EntsR ρ es es'.toList := by
  unfold aEntries at h
  split at h
  · cases hx
    exact .inl ⟨rfl, (Option.some.inj h).symm⟩
  · rename_i r
    cases hx with
    | @map _ e he =>
      split at h
      · rename_i es0 clock hk
        cases (Option.some.inj h)
        obtain ⟨o, h1, h2, _⟩ := hS.obj r _ hk e he
        cases o <;> simp only [ObjR] at h2
        rename_i es' clock'
        obtain ⟨h3, rfl⟩ := h2
        exact .inr ⟨r, e, es', clock', rfl, rfl, he, hk, h1, h3⟩
      · exact nn h
  · exact nn h

theorem run_getMap {b : Nat} {es : Array MapEntry} {clock : Nat} (h : w.heap[b]? = some (.map es clock)) : (getObj b).run P w = .ok (.map es clock) w := by
  simp only [getObj, Sem.run, h]

theorem aLookup_run (hS : Sim S G W ρ st w) {t : TypeId} {x x' ix ix' v : Value} {ok : Bool} (hx : VR ρ x x') (hi : VR ρ ix ix') (h : aLookup t x ix ok st = some v) :
    ∃ v', (Instr.lookup t x' ix' ok).run P w = .ok v' w ∧ VR ρ v v' := by
  unfold aLookup at h
  split at h
  · rename_i key elem hu
    split at h
    · rename_i d hd
      cases hp : plainKey d ix with
      | false => rw [hp] at h; exact nn h
      | true =>
        rw [hp] at h
        simp only [cond_true] at h
        have hix : ix' = ix := flat_eq (by unfold plainKey at hp; split at hp <;> first | rfl | cases hp) hi
        subst hix
        cases hes : aEntries x st with
        | none => rw [hes] at h; exact nn h
        | some es =>
          rw [hes] at h
          simp only at h
          have main : ∀ (es' : Array MapEntry), EntsR ρ es es'.toList →
              (∀ p, Instr.findNow d ix' es'.toList 0 = some (some p) → (Instr.lookup t x' ix' ok).run P w = .ok (if ok then .tuple #[p.2, .bool true] else p.2) w) →
              (Instr.findNow d ix' es'.toList 0 = some none → ∀ z, (zeroValue elem).run P w = .ok z w → (Instr.lookup t x' ix' ok).run P w = .ok (if ok then .tuple #[z, .bool false] else z) w) →
              ∃ v', (Instr.lookup t x' ix' ok).run P w = .ok v' w ∧ VR ρ v v' := by
            intro es' her run1 run2
            cases hf : aFind d ix' es 0 with
            | none => rw [hf] at h; exact nn h
            | some r =>
              rw [hf] at h
              rcases aFind_run her hf with ⟨rfl, h2⟩ | ⟨j, e, e', rfl, h2, h3, h4, h5, h6⟩
              · simp only at h
                cases hz : aZero elem with
                | none => rw [hz] at h; exact nn h
                | some z =>
                  rw [hz] at h
                  cases (Option.some.inj h)
                  have hz := run_zero (w := w) hz
                  exact ⟨_, run2 h2 z hz.1, okTuple (flat_self hz.2) false⟩
              · cases (Option.some.inj h)
                exact ⟨_, run1 (0 + j, e'.val) h6, okTuple h4.val true⟩
          rcases aEntries_run hS hx hes with ⟨rfl, rfl⟩ | ⟨r, e, es', clock, rfl, rfl, h1, h2, h3, h4⟩
          · refine main #[] .nil (fun p hr => ?_) (fun hr z hz => ?_)
            · simp only [Instr.lookup, Sem.run_bind, run_underlying hu, Result.andThen_ok, Sem.run_pure, plain_check hd hp, findKey_run hd hr]
            · simp only [Instr.lookup, Sem.run_bind, run_underlying hu, Result.andThen_ok, Sem.run_pure, plain_check hd hp, findKey_run hd hr, hz]
          · refine main es' h4 (fun p hr => ?_) (fun hr z hz => ?_)
            · simp only [Instr.lookup, Sem.run_bind, run_underlying hu, Result.andThen_ok, Sem.run_pure, run_getMap h3, plain_check hd hp, findKey_run hd hr]
            · simp only [Instr.lookup, Sem.run_bind, run_underlying hu, Result.andThen_ok, Sem.run_pure, run_getMap h3, plain_check hd hp, findKey_run hd hr, hz]
    · exact nn h
  · exact nn h

end
end Go.Proofs.YtcgecgilkapjaaaGreatDoor
