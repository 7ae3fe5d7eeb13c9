/- The evaluator is sound: slice expressions, type assertions, what is asked of maps. -/
import Derived.Test.YtcgecgilkapjaaaGreatDoorEg
namespace Go.Proofs.YtcgecgilkapjaaaGreatDoor
open Go Go.RowKit
variable {S : Rho}

section
variable {G : Nat} {W : World} {ρ : Rho} {st : St} {w : World}

theorem extract_mk (s : List UInt8) (l h : Nat) : (⟨⟨s⟩⟩ : ByteArray).extract l h = ⟨⟨(s.take h).drop l⟩⟩ := by
  have : ((⟨⟨s⟩⟩ : ByteArray).extract l h).data = ⟨(s.take h).drop l⟩ := by
    simp [List.extract_eq_take_drop, List.drop_take]
  cases hx : (⟨⟨s⟩⟩ : ByteArray).extract l h
  rw [hx] at this
  simp only at this
  rw [this]

theorem ble_le {a b : Nat} (h : Nat.ble a b = true) : a ≤ b := Nat.le_of_ble_eq_true h

theorem sliceAt_slice {t e : TypeId} {x : Value} {lo hi mx : Option Value} (h : P.underlying t = some (.slice e)) : (Instr.sliceAt t x lo hi mx).run P w = (Instr.slice t x lo hi mx).run P w := by
  simp only [Instr.sliceAt, Sem.run_bind, run_underlying h, Result.andThen_ok]
theorem sliceAt_string {t : TypeId} {x : Value} {lo hi mx : Option Value} (h : P.underlying t = some .string) : (Instr.sliceAt t x lo hi mx).run P w = (Instr.slice t x lo hi mx).run P w := by
  simp only [Instr.sliceAt, Sem.run_bind, run_underlying h, Result.andThen_ok]

theorem aSlice_sound (hS : Sim S G W ρ st w) {t : TypeId} {x x' v : Value} {lo hi mx lo' hi' mx' : Option Value} (hx : VR ρ x x') (h1 : OptR ρ lo lo') (h2 : OptR ρ hi hi') (h3 : OptR ρ mx mx')
    (h : aSlice t x lo hi mx st = some v) : ∃ v', (Instr.sliceAt t x' lo' hi' mx').run P w = .ok v' w ∧ VR ρ v v' := by
  unfold aSlice at h
  split at h
  · rename_i s hu
    cases hx
    cases h3 with
    | some => exact nn h
    | none =>
      simp only at h
      split at h
      · rename_i l hh m hb
        cases hle : Nat.ble hh s.length with
        | false => rw [hle] at h; exact nn h
        | true =>
          rw [hle] at h
          simp only [cond_true, Option.some.injEq] at h
          subst h
          obtain ⟨m', hr, _⟩ := aBounds_run (w := w) (isSlice := false) h1 h2 .none hb (Nat.le_refl _) (Nat.le_refl _)
          refine ⟨_, ?_, .string _⟩
          rw [sliceAt_string hu]
          simp only [Instr.slice, Sem.run_bind, run_underlying hu, Result.andThen_ok, Option.isSome_none, Bool.false_eq_true, if_false]
          show ((Instr.sliceBounds false s.length s.length lo' hi' none).run P w).andThen _ = _
          rw [hr]
          simp only [Result.andThen_ok, Sem.run_pure]
          rw [extract_mk]
      · exact nn h
  · rename_i elem hu
    cases hx
    split at h
    · rename_i b n hb hs
      obtain ⟨l, hh, m⟩ := b
      simp only [Option.some.injEq] at h
      subst h
      obtain ⟨m', hr, a1, a2, a3, a4, a5⟩ := aBounds_run (w := w) (isSlice := true) h1 h2 h3 hb (Nat.le_refl _) (Nat.le_refl _)
      refine ⟨_, ?_, .nilSlice 0 0⟩
      rw [sliceAt_slice hu]
      simp only [Instr.slice, Sem.run_bind, run_underlying hu, Result.andThen_ok, hr, run_sizeOf hs, Sem.run_pure]
      obtain rfl : m = 0 := by omega
      obtain rfl : hh = 0 := by omega
      obtain rfl : l = 0 := by omega
      obtain rfl : m' = 0 := by omega
      rfl
    · exact nn h
  · rename_i elem k o len cap hu
    split at h
    · rename_i ro u c hk
      split at h
      · rename_i size hs
        cases hg : (Nat.beq size (Nat.mod u 65536) && Nat.ble len cap) with
        | false => rw [hg] at h; exact nn h
        | true =>
          rw [hg] at h
          simp only [cond_true] at h
          rw [Bool.and_eq_true] at hg
          have hsu := Nat.eq_of_beq_eq_true hg.1
          have hlc := ble_le hg.2
          split at h
          · rename_i l hh m hb
            have fin : ∀ (e : Spot) (c' : Nat) (ad : Nat), ρ k = some e → cap ≤ c' → (c' = cap ∨ ad + c' * e.u = e.sz) → (ad = o + e.sh ∨ (len = 0 ∧ cap = 0)) → size = e.u →
                ∃ v', (Instr.sliceAt t (.slice (some ⟨e.b, ad, none⟩) len c') lo' hi' mx').run P w = .ok v' w ∧ VR ρ v v' := by
              intro e c' ad he hc hz had heu
              obtain ⟨m', hr, a1, a2, a3, a4, a5⟩ := aBounds_run (w := w) (isSlice := true) h1 h2 h3 hb hc hlc
              have run : (Instr.sliceAt t (.slice (some ⟨e.b, ad, none⟩) len c') lo' hi' mx').run P w =
                  .ok (.slice (if m' = l then some ⟨e.b, ad, none⟩ else some ⟨e.b, ad + l * size, none⟩) (hh - l) (m' - l)) w := by
                rw [sliceAt_slice hu]
                simp only [Instr.slice, Sem.run_bind, run_underlying hu, Result.andThen_ok, hr, run_sizeOf hs, Sem.run_pure, Option.map_some, add_none]
              refine ⟨_, run, ?_⟩
              have hmul : (c' - l) * e.u = c' * e.u - l * e.u := Nat.sub_mul _ _ _
              have hle : l * e.u ≤ c' * e.u := Nat.mul_le_mul_right _ (by omega)
              subst heu
              cases hm : Nat.beq m l with
              | true =>
                rw [hm] at h
                simp only [cond_true, Option.some.injEq] at h
                subst h
                have := Nat.eq_of_beq_eq_true hm
                obtain rfl : hh = l := by omega
                rw [Nat.sub_self]
                split
                · rename_i hml
                  rw [hml, Nat.sub_self]
                  exact .slice0 _ _ _ he (.inl rfl)
                · rename_i hml
                  refine .slice0 _ _ _ he ?_
                  rcases a4 with rfl | ⟨rfl, rfl⟩
                  · omega
                  · rcases hz with hz | hz
                    · omega
                    · right; rw [hmul]; omega
              | false =>
                rw [hm] at h
                simp only [cond_false, Option.some.injEq] at h
                subst h
                have := Nat.ne_of_beq_eq_false hm
                rw [if_neg (by omega)]
                rcases had with rfl | ⟨rfl, rfl⟩
                · rw [show o + e.sh + l * e.u = o + l * e.u + e.sh by omega]
                  refine .slice _ _ _ _ he (by omega) ?_
                  rcases a4 with rfl | ⟨rfl, rfl⟩
                  · exact .inl rfl
                  · rcases hz with rfl | hz
                    · exact .inl rfl
                    · right; rw [hmul]; omega
                · omega
            cases hx with
            | @slice _ e _ _ _ c' he hc hz =>
              obtain ⟨ob, ho, hr, _⟩ := hS.obj k _ hk e he
              cases ob <;> simp only [ObjR] at hr
              exact fin e c' _ he hc hz (.inl rfl) (hsu.trans hr.1.symm)
            | @slice0 _ e _ o' c' he hz =>
              obtain ⟨ob, ho, hr, _⟩ := hS.obj k _ hk e he
              cases ob <;> simp only [ObjR] at hr
              exact fin e c' o' he (Nat.zero_le _) (by rcases hz with rfl | hz; exact .inl rfl; exact .inr hz) (.inr ⟨rfl, rfl⟩) (hsu.trans hr.1.symm)
          · exact nn h
      · exact nn h
    · exact nn h
  · rename_i n elem k o hu
    split at h
    · rename_i size hs
      split at h
      · rename_i l hh m hb
        cases hx with
        | @ptr _ e _ he =>
          obtain ⟨m', hr, a1, a2, a3, a4, a5⟩ := aBounds_run (w := w) (isSlice := false) h1 h2 h3 hb (Nat.le_refl _) (Nat.le_refl _)
          obtain rfl : m' = m := by omega
          have run : (Instr.sliceAt t (.pointer (some ⟨e.b, o + e.sh, none⟩)) lo' hi' mx').run P w =
              .ok (.slice (some (if m' = l then ⟨e.b, o + e.sh, none⟩ else ⟨e.b, o + e.sh + l * size, none⟩)) (hh - l) (m' - l)) w := by
            simp only [Instr.sliceAt, Sem.run_bind, run_underlying hu, Result.andThen_ok, Instr.sureAddr, Sem.run_pure, hr, run_sizeOf hs, add_none]
          refine ⟨_, run, ?_⟩
          cases hm : Nat.beq m' l with
          | true =>
            rw [hm] at h
            simp only [cond_true, Option.some.injEq] at h
            subst h
            rw [if_pos (Nat.eq_of_beq_eq_true hm)]
            exact .slice _ _ _ _ he (Nat.le_refl _) (.inl rfl)
          | false =>
            rw [hm] at h
            simp only [cond_false, Option.some.injEq] at h
            subst h
            rw [if_neg (Nat.ne_of_beq_eq_false hm), show o + e.sh + l * size = o + l * size + e.sh by omega]
            exact .slice _ _ _ _ he (Nat.le_refl _) (.inl rfl)
      · exact nn h
    · exact nn h
  · exact nn h

theorem isFace_true {t : TypeId} (h : isFace t = some true) : ∃ ms, P.underlying t = some (.interface ms) := by
  unfold isFace at h
  split at h
  · rename_i ms hu; exact ⟨ms, hu⟩
  · simp at h
  · exact nn h
theorem isFace_false {t : TypeId} (h : isFace t = some false) : ∃ d, P.underlying t = some d ∧ ∀ ms, d ≠ .interface ms := by
  unfold isFace at h
  split at h
  · simp at h
  · rename_i d hne hu; exact ⟨d, hu, fun ms hm => hne ms (by first | (rw [← hm]; done) | (rw [← hm]; exact hu))⟩
  · exact nn h

theorem okTuple {v v' : Value} {ok : Bool} (h : VR ρ v v') (b : Bool) : VR ρ (bif ok then .tuple ⟨[v, .bool b]⟩ else v) (if ok then .tuple #[v', .bool b] else v') := by
  cases ok
  · exact h
  · exact .tuple (.cons h (.cons (.bool b) .nil))

theorem aTypeAssert_sound {x x' v : Value} {xt t : TypeId} {ok : Bool} (hx : VR ρ x x') (h : aTypeAssert x t ok = some v) :
    ∃ v', (Instr.typeAssert x' xt t ok).run P w = .ok v' w ∧ VR ρ v v' := by
  have fails : ∀ (z : Value) (s d : Option TypeId) (m : String), aZero t = some z → ok = true → v = .tuple ⟨[z, .bool false]⟩ →
      (∃ v', ((do if ok then pure (.tuple #[← zeroValue t, .bool false]) else runtimePanic (.typeAssertion s d t m)) : Sem Value).run P w = .ok v' w ∧ VR ρ v v') := by
    intro z s d m hz hok hv
    subst hok hv
    have := run_zero (w := w) hz
    exact ⟨.tuple #[z, .bool false], by simp only [if_true, Sem.run_bind, this.1, Result.andThen_ok, Sem.run_pure], .tuple (.cons (flat_self this.2) (.cons (.bool false) .nil))⟩
  unfold aTypeAssert at h
  split at h
  · rename_i hf
    obtain ⟨ms, hu⟩ := isFace_true hf
    split at h
    · rename_i d y
      cases hx with
      | iface _ hy =>
        split at h
        · rename_i want i hw hi
          rw [hu] at hw
          have hw := TypeDesc.interface.inj (Option.some.inj hw)
          subst hw
          split at h
          · rename_i hm
            simp only [Option.some.injEq] at h
            subst h
            refine ⟨_, ?_, okTuple (.iface d hy) true⟩
            simp only [Instr.typeAssert, Sem.run_bind, run_underlying hu, run_typeInfo hi, Result.andThen_ok, hm, Sem.run_pure]
          · rename_i m hm
            cases ok with
            | false => exact nn h
            | true =>
              simp only [cond_true] at h
              cases hz : aZero t with
              | none => rw [hz] at h; exact nn h
              | some z =>
                rw [hz] at h
                simp only [Option.some.injEq] at h
                obtain ⟨v', h1, h2⟩ := fails z none (some d) m hz rfl h.symm
                refine ⟨v', ?_, h2⟩
                rw [← h1]
                simp only [Instr.typeAssert, Sem.run_bind, run_underlying hu, run_typeInfo hi, Result.andThen_ok, hm]
        · exact nn h
    · cases hx
      cases ok with
      | false => exact nn h
      | true =>
        simp only [cond_true] at h
        cases hz : aZero t with
        | none => rw [hz] at h; exact nn h
        | some z =>
          rw [hz] at h
          simp only [Option.some.injEq] at h
          obtain ⟨v', h1, h2⟩ := fails z none none "" hz rfl h.symm
          refine ⟨v', ?_, h2⟩
          rw [← h1]
          simp only [Instr.typeAssert, Sem.run_bind, run_underlying hu, Result.andThen_ok]
    · exact nn h
  · rename_i hf
    obtain ⟨d, hu, hd⟩ := isFace_false hf
    split at h
    · rename_i tx y
      cases hx with
      | @iface _ _ y' hy =>
        have run : (Instr.typeAssert (.iface tx y') xt t ok).run P w = (if tx = t then (pure (if ok then .tuple #[y', .bool true] else y') : Sem Value)
            else do if ok then pure (.tuple #[← zeroValue t, .bool false]) else runtimePanic (.typeAssertion (some xt) (some tx) t "") : Sem Value).run P w := by
          simp only [Instr.typeAssert, Sem.run_bind, run_underlying hu, Result.andThen_ok]
        cases hb : Nat.beq tx t with
        | true =>
          rw [hb] at h
          simp only [cond_true, Option.some.injEq] at h
          subst h
          have := Nat.eq_of_beq_eq_true hb
          refine ⟨_, ?_, okTuple hy true⟩
          rw [run, if_pos this, Sem.run_pure]
        | false =>
          rw [hb] at h
          simp only [cond_false] at h
          have := Nat.ne_of_beq_eq_false hb
          rw [run, if_neg this]
          cases ok with
          | false => exact nn h
          | true =>
            simp only [cond_true] at h
            cases hz : aZero t with
            | none => rw [hz] at h; exact nn h
            | some z =>
              rw [hz] at h
              simp only [Option.some.injEq] at h
              exact fails z _ _ _ hz rfl h.symm
    · cases hx
      cases ok with
      | false => exact nn h
      | true =>
        simp only [cond_true] at h
        cases hz : aZero t with
        | none => rw [hz] at h; exact nn h
        | some z =>
          rw [hz] at h
          simp only [Option.some.injEq] at h
          obtain ⟨v', h1, h2⟩ := fails z (some xt) none "" hz rfl h.symm
          refine ⟨v', ?_, h2⟩
          rw [← h1]
          simp only [Instr.typeAssert, Sem.run_bind, run_underlying hu, Result.andThen_ok]
    · exact nn h
  · exact nn h

end
end Go.Proofs.YtcgecgilkapjaaaGreatDoor
