/- The evaluator is sound: copy, clear, append. -/
import Derived.Test.YtcgecgilkapjaaaGreatDoorEm
namespace Go.Proofs.YtcgecgilkapjaaaGreatDoor
open Go Go.RowKit
variable {S : Rho}

section
variable {G : Nat} {W : World} {ρ : Rho} {st : St} {w : World}

theorem aLenOf_run {x x' : Value} {n : Nat} (hx : VR ρ x x') (h : aLenOf x = some n) (w : World) : (Builtin.lenOf x').run P w = .ok n w := by
  unfold aLenOf at h
  split at h
  · cases (Option.some.inj h)
    cases hx <;> exact Sem.run_pure P w _
  · cases (Option.some.inj h)
    cases hx
    exact Sem.run_pure P w _
  · exact nn h

theorem aSource_run (hS : Sim S G W ρ st w) {x x' : Value} {size n m : Nat} {l : List Value} (hx : VR ρ x x') (hm : aLenOf x = some m) (hn : n ≤ m) (h : aSource size n x st = some l) :
    ∃ l', (Builtin.firstCells size n x').run P w = .ok ⟨l'⟩ w ∧ VRs ρ l l' := by
  unfold aSource at h
  split at h
  · cases hx
    cases hb : Nat.beq n 0 with
    | false => rw [hb] at h; exact nn h
    | true =>
      rw [hb] at h
      cases (Option.some.inj h)
      exact ⟨[], Sem.run_pure P w _, .nil⟩
  · rename_i k o len cap
    cases hb : Nat.beq n 0 with
    | true =>
      rw [hb] at h
      cases (Option.some.inj h)
      cases Nat.eq_of_beq_eq_true hb
      refine ⟨[], ?_, .nil⟩
      cases hx <;> simp [Builtin.firstCells, loadCells, loadCellsFrom]
    | false =>
      rw [hb] at h
      have hb := Nat.ne_of_beq_eq_false hb
      simp only [cond_false] at h
      split at h
      · rename_i ro u c hk
        cases hx with
        | @slice _ e _ _ _ c' he _ _ =>
          obtain ⟨l', h1, h2⟩ := hS.loadCells (P := P) hk he h
          exact ⟨l', h1, h2⟩
        | slice0 _ _ _ he _ =>
          exfalso
          have : (0 : Nat) = m := Option.some.inj hm
          omega
      · exact nn h
  · rename_i s
    cases hx
    cases (Option.some.inj h)
    refine ⟨(s.take n).map fun b => .int .u8 b.toNat, ?_, ?_⟩
    · simp only [Builtin.firstCells, extract_mk, List.drop_zero]
      simp
    · generalize s.take n = r
      induction r with
      | nil => exact .nil
      | cons b r ih => exact .cons (.int _ _) ih
  · exact nn h

theorem putCells_nil {c : Tr Value} {o : Nat} : putCells c o [] = some c := rfl

theorem aCopy_run (hS : Sim S G W ρ st w) {t : TypeId} {ts : List TypeId} {ty : TypeId} {d d' s s' v : Value} {st' : St} (hd : VR ρ d d') (hs : VR ρ s s') (h : aCopy t d s st = some (v, st')) :
    ∃ w', (Builtin.copy_ ⟨t :: ts⟩ ty ⟨[d', s']⟩).run P w = .ok v w' ∧ VR ρ v v ∧ Sim S G W ρ st' w' ∧ Ext ρ st ρ st' := by
  have e0 : (⟨t :: ts⟩ : Array TypeId)[0]? = some t := rfl
  have e1 : (⟨[d', s']⟩ : Array Value)[0]? = some d' := rfl
  have e2 : (⟨[d', s']⟩ : Array Value)[1]? = some s' := rfl
  unfold aCopy at h
  split at h
  · rename_i elem hu
    split at h
    · rename_i size m base dl dcap hsz hm
      cases hl : aSource size (Nat.min m dl) s st with
      | none => rw [hl] at h; exact nn h
      | some l =>
        rw [hl] at h
        obtain ⟨l', h1, h2⟩ := aSource_run hS hs hm (Nat.min_le_left _ _) hl
        have run : ∀ (b : Option Addr) (c : Nat), d' = .slice b dl c → (Builtin.copy_ ⟨t :: ts⟩ ty ⟨[d', s']⟩).run P w =
            Sem.run P (do
              if let some a := b then storeCells a l'
              pure (goInt ((Nat.min m dl : Nat) : Int))) w := by
          rintro b c rfl
          simp only [Builtin.copy_, e0, e1, e2, Sem.run_bind, run_underlying hu, Result.andThen_ok, aLenOf_run hs hm, run_sizeOf hsz, h1]
          rfl
        have hnil : l = [] → v = .int .i64 ((Nat.min m dl : Nat) : Int) → st' = st → ∃ w', (Builtin.copy_ ⟨t :: ts⟩ ty ⟨[d', s']⟩).run P w = .ok v w' ∧ VR ρ v v ∧ Sim S G W ρ st' w' ∧ Ext ρ st ρ st' := by
          rintro rfl rfl rfl
          cases h2
          refine ⟨w, ?_, .int _ _, hS, .refl _ _⟩
          have : ∃ b c, d' = .slice b dl c := by cases hd <;> exact ⟨_, _, rfl⟩
          obtain ⟨b, c, hd'⟩ := this
          rw [run b c hd']
          cases b with
          | none => simp only [Sem.run_pure]; rfl
          | some a => simp only [Sem.run_bind, Go.storeCells, Sem.run_pure, Result.andThen_ok]; rfl
        rcases l with _ | ⟨y, l⟩
        · rcases base with _ | ⟨k, o, _ | sp⟩
          · cases (Option.some.inj h); exact hnil rfl rfl rfl
          · cases (Option.some.inj h); exact hnil rfl rfl rfl
          · exact nn h
        · rcases base with _ | ⟨k, o, _ | sp⟩
          · exact nn h
          · simp only at h
            split at h
            · rename_i u c hk
              cases hp : putCells c o (y :: l) with
              | none => rw [hp] at h; exact nn h
              | some c' =>
                rw [hp] at h
                cases (Option.some.inj h)
                cases hd with
                | @slice _ e _ _ _ cc he _ _ =>
                  obtain ⟨w', g1, g2⟩ := Sim.storeCells (P := P) he o (y :: l) l' 0 c c' st w hS hk (by simpa using hp) h2
                  refine ⟨w', ?_, .int _ _, g2, .put he _⟩
                  rw [run _ _ rfl]
                  simp only [Sem.run_bind, g1, Result.andThen_ok, Sem.run_pure]
                  rfl
                | slice0 =>
                  exfalso
                  have : Nat.min m 0 = 0 := Nat.min_zero m
                  rw [this] at hl
                  unfold aSource at hl
                  split at hl
                  · simp at hl
                  · simp at hl
                  · simp at hl
                  · exact nn hl
            · exact nn h
          · exact nn h
    · exact nn h
  · exact nn h

theorem zeroCells_rel {z : Array Value} (hz : VRs ρ z.toList z.toList) (n : Nat) : VRs ρ (repl z.toList n) (Builtin.zeroCells z n).toList := by
  refine VRs.of_get ?_ fun i v hv => ?_
  · rw [repl_length]; simp [Builtin.zeroCells]
  · obtain ⟨v', h1, h2⟩ := zeros_rel (m := n * z.size) hz rfl hv
    exact ⟨v', by rw [Builtin.zeroCells, Array.getElem?_toList]; exact h1, h2⟩

theorem aClear_run (hS : Sim S G W ρ st w) {t : TypeId} {ts : List TypeId} {ty : TypeId} {x x' : Value} {st' : St} {d : TypeDesc} (hu : P.underlying t = some d) (hx : VR ρ x x') (h : aClear t x st = some st') :
    ∃ w', (Builtin.clear_ ⟨t :: ts⟩ ty ⟨[x']⟩).run P w = .ok (.tuple #[]) w' ∧ Sim S G W ρ st' w' ∧ Ext ρ st ρ st' := by
  have e0 : (⟨t :: ts⟩ : Array TypeId)[0]? = some t := rfl
  have e1 : (⟨[x']⟩ : Array Value)[0]? = some x' := rfl
  unfold aClear at h
  split at h
  · cases hx
    cases (Option.some.inj h)
    exact ⟨w, by simp only [Builtin.clear_, e0, e1, Sem.run_bind, run_underlying hu, Result.andThen_ok, Sem.run_pure], hS, .refl _ _⟩
  · cases hx
    cases (Option.some.inj h)
    exact ⟨w, by simp only [Builtin.clear_, e0, e1, Sem.run_bind, run_underlying hu, Result.andThen_ok, Sem.run_pure], hS, .refl _ _⟩
  · rename_i k o n cp
    cases hb : Nat.beq n 0 with
    | true =>
      rw [hb] at h
      cases (Option.some.inj h)
      cases Nat.eq_of_beq_eq_true hb
      refine ⟨w, ?_, hS, .refl _ _⟩
      cases hx <;> simp only [Builtin.clear_, e0, e1, Sem.run_bind, run_underlying hu, Result.andThen_ok, Sem.run_pure]
    | false =>
      rw [hb] at h
      simp only [cond_false] at h
      have hb := Nat.ne_of_beq_eq_false hb
      split at h
      · rename_i elem u c hu' hk
        cases hz : aZero elem with
        | none => rw [hz] at h; exact nn h
        | some z =>
          rw [hz] at h
          have hz := run_zero (w := w) hz
          simp only at h
          cases hp : putCells c o (repl z.cells.toList n) with
          | none => rw [hp] at h; exact nn h
          | some c' =>
            rw [hp] at h
            cases (Option.some.inj h)
            rw [hu] at hu'
            have hd : d = .slice elem := Option.some.inj hu'
            subst hd
            cases hx with
            | slice0 => exact absurd rfl hb
            | @slice _ e _ _ _ cc he _ _ =>
              obtain ⟨w', g1, g2⟩ := Sim.storeCells (P := P) he o _ _ 0 c c' st w hS hk (by simpa using hp) (zeroCells_rel (flat_self (ρ := ρ) hz.2).cells n)
              refine ⟨w', ?_, g2, .put he _⟩
              cases n with
              | zero => exact absurd rfl hb
              | succ n => simp only [Builtin.clear_, e0, e1, Sem.run_bind, run_underlying hu, Result.andThen_ok, hz.1, g1, Sem.run_pure]
      · exact nn h
  · rename_i r
    cases hx with
    | @map _ e he =>
      split at h
      · rename_i es clock hr
        cases (Option.some.inj h)
        obtain ⟨o, h1, h2, _⟩ := hS.obj r _ hr e he
        cases o <;> try exact h2.elim
        rename_i es' clock'
        obtain ⟨h3, rfl⟩ := h2
        refine ⟨_, ?_, hS.setObj (o := .map #[] clock') hr he rfl ⟨.nil, rfl⟩, .put he _⟩
        simp only [Builtin.clear_, e0, e1, Sem.run_bind, run_underlying hu, Result.andThen_ok, run_getMap h1, run_setObj h1 (by intro _ _ _ h; cases h), Sem.run_pure]
      · exact nn h
  · exact nn h


theorem growBy_le (n : Nat) : ∀ (r c : Nat), c ≤ n → Builtin.growBy n r c ≤ 2 * n + 192
  | 0, c, h => by simp only [Builtin.growBy]; omega
  | r + 1, c, h => by
    simp only [Builtin.growBy]
    split
    · omega
    · rename_i hc
      by_cases h2 : c + (c + 768) / 4 ≤ n
      · exact growBy_le n r _ h2
      · cases r with
        | zero => simp only [Builtin.growBy]; omega
        | succ r => simp only [Builtin.growBy]; rw [if_pos (by omega)]; omega

theorem nextcap_le {need cap : Nat} (h : cap < need) : Builtin.nextslicecap need cap ≤ 2 * need + 192 := by
  unfold Builtin.nextslicecap
  split
  · omega
  · split
    · omega
    · exact growBy_le _ _ _ (by omega)

/-- What is appended: how many elements, which cells; in every world with this heap. -/
structure Appends (elem : TypeId) (i : TypeInfo) (d : TypeDesc) (x' : Value) (ρ : Rho) (n : Nat) (new : List Value) (w : World) : Prop where
  shape : (∃ k k', d = .int k' ∧ x' = .int k (Int.ofNat n) ∧ n ≤ 16777216) ∨ ((∀ k, d ≠ .int k) ∧ (Builtin.lenOf x').run P w = .ok n w)
  cells : ∃ new', VRs ρ new new' ∧ (∀ k, d = .int k → (if n * i.size = 0 then pure #[] else do pure (Builtin.zeroCells (← zeroValue elem).cells n) : Sem (Array Value)).run P w = .ok ⟨new'⟩ w) ∧
    ((∀ k, d ≠ .int k) → (Builtin.firstCells i.size n x').run P w = .ok ⟨new'⟩ w)

theorem aNew_run (hS : Sim S G W ρ st w) {elem : TypeId} {i : TypeInfo} {d : TypeDesc} {x x' : Value} {n : Nat} {new : List Value} (hx : VR ρ x x') (h : aNew elem i d x st = some (n, new)) :
    Appends elem i d x' ρ n new w := by
  unfold aNew at h
  split at h
  · rename_i kd k m
    cases hx
    cases hb : Nat.ble m 16777216 with
    | false => rw [hb] at h; exact nn h
    | true =>
      rw [hb] at h
      simp only [cond_true] at h
      cases hzs : aZeros elem i.size m with
      | none => rw [hzs] at h; exact nn h
      | some zs =>
        rw [hzs] at h
        cases (Option.some.inj h)
        refine ⟨.inl ⟨k, kd, rfl, rfl, ble_le hb⟩, ?_⟩
        rcases aZeros_run (ρ := ρ) (w := w) hzs with ⟨h0, rfl⟩ | ⟨h0, z, hz, hq, hv, rfl⟩
        · exact ⟨[], .nil, fun _ _ => by rw [if_pos h0]; exact Sem.run_pure P w _, fun hn => absurd rfl (hn _)⟩
        · refine ⟨(Builtin.zeroCells z.cells n).toList, zeroCells_rel hv n, fun _ _ => ?_, fun hn => absurd rfl (hn _)⟩
          rw [if_neg h0, Sem.run_bind, hz]
          exact Sem.run_pure P w _
  · exact nn h
  · rename_i hne1 hne2
    cases hl : aLenOf x with
    | none => rw [hl] at h; exact nn h
    | some m =>
      rw [hl] at h
      simp only at h
      cases hs : aSource i.size m x st with
      | none => rw [hs] at h; exact nn h
      | some l =>
        rw [hs] at h
        cases (Option.some.inj h)
        obtain ⟨l', h1, h2⟩ := aSource_run hS hx hl (Nat.le_refl _) hs
        have hd : ∀ k, d ≠ .int k := fun k hk => hne1 k hk
        exact ⟨.inr ⟨hd, aLenOf_run hx hl w⟩, l', h2, fun k hk => absurd hk (hd k), fun _ => h1⟩


section
variable {t t' elem ty : TypeId} {d : TypeDesc} {i : TypeInfo} {z : Value} {x' : Value} {n : Nat} {new : List Value} {base : Option Addr} {sl sc : Nat}
  (hu : P.underlying t = some (.slice elem)) (hu' : P.underlying t' = some d) (hi : P.info? elem = some i) (hb : i.bytes ≤ 65536)
include hu hu' hi hb

theorem append_room (ha : Appends elem i d x' ρ n new w) (h : sl + n ≤ sc) : ∃ new', VRs ρ new new' ∧
    (Builtin.append_ ⟨[t, t']⟩ ty ⟨[.slice base sl sc, x']⟩).run P w = Sem.run P (do
      if let some a := base then storeCells (a.add (sl * i.size)) new'
      pure (.slice base (sl + n) sc)) w := by
  have e0 : (⟨[t, t']⟩ : Array TypeId)[0]? = some t := rfl
  have e1 : (⟨[t, t']⟩ : Array TypeId)[1]? = some t' := rfl
  have e2 : (⟨[.slice base sl sc, x']⟩ : Array Value)[0]? = some (.slice base sl sc) := rfl
  have e3 : (⟨[.slice base sl sc, x']⟩ : Array Value)[1]? = some x' := rfl
  have hsz : sizeIn elem = some i.size := by simp [sizeIn, hi]
  obtain ⟨new', hv, hc1, hc2⟩ := ha.cells
  refine ⟨new', hv, ?_⟩
  rcases ha.shape with ⟨k, k', rfl, rfl, hn⟩ | ⟨hd, hlen⟩
  · have hc1 := hc1 _ rfl
    simp only [Builtin.append_, e0, e1, e2, e3, Sem.run_bind, run_underlying hu, run_underlying hu', Result.andThen_ok, run_sizeOf hsz, Sem.run_pure, asInt, run_asIntOf, if_true, wrap_small n hn]
    rw [if_neg (by rw [Int.ofNat_eq_natCast]; omega)]
    simp only [Sem.run_bind, run_typeInfo hi, Result.andThen_ok]
    have hm := Nat.mul_le_mul hn hb
    rw [if_neg (by rw [Int.ofNat_eq_natCast, ← Int.natCast_mul]; omega)]
    simp only [Sem.run_bind, Sem.run_pure, Result.andThen_ok]
    have e4 : (Int.ofNat n).toNat = n := rfl
    rw [e4, if_pos h]
    simp only [Bool.not_true, Bool.false_eq_true, if_false, Sem.run_bind]
    rw [hc1]
    simp only [Result.andThen_ok]
    cases base <;> rfl
  · have hc2 := hc2 hd
    simp only [Builtin.append_, e0, e1, e2, e3, Sem.run_bind, run_underlying hu, run_underlying hu', Result.andThen_ok, run_sizeOf hsz, Sem.run_pure, Bool.false_eq_true, if_false, hlen]
    rw [if_pos h]
    simp only [Bool.not_false, if_true, Sem.run_bind, hc2, Result.andThen_ok]
    cases base <;> rfl

theorem append_grow {old' : List Value} (ha : Appends elem i d x' ρ n new w) (hd : Appends elem i d x' ρ n new { w with drawn := w.drawn + 1 }) (h : ¬ sl + n ≤ sc) (hs : sl + n ≤ 16777216)
    (hz : ∀ w, (zeroValue elem).run P w = .ok z w)
    (hold : (Builtin.firstCells i.size sl (.slice base sl sc)).run P { w with drawn := w.drawn + 1 } = .ok ⟨old'⟩ { w with drawn := w.drawn + 1 }) :
    ∃ new' cap, VRs ρ new new' ∧ sl + n ≤ cap ∧
    (Builtin.append_ ⟨[t, t']⟩ ty ⟨[.slice base sl sc, x']⟩).run P w =
      ((Go.newRow elem (⟨old'⟩ ++ ⟨new'⟩ ++ Builtin.zeroCells z.cells (cap - (sl + n)))).run P { w with drawn := w.drawn + 1 }).andThen fun a w => .ok (.slice (some a) (sl + n) cap) w := by
  have e0 : (⟨[t, t']⟩ : Array TypeId)[0]? = some t := rfl
  have e1 : (⟨[t, t']⟩ : Array TypeId)[1]? = some t' := rfl
  have e2 : (⟨[.slice base sl sc, x']⟩ : Array Value)[0]? = some (.slice base sl sc) := rfl
  have e3 : (⟨[.slice base sl sc, x']⟩ : Array Value)[1]? = some x' := rfl
  have hsz : sizeIn elem = some i.size := by simp [sizeIn, hi]
  obtain ⟨new', hv, hc1, hc2⟩ := hd.cells
  have hcap : Builtin.nextslicecap (sl + n) sc * i.bytes ≤ 2 ^ 48 := by
    have h1 := nextcap_le (need := sl + n) (cap := sc) (by omega)
    have h2 := Nat.mul_le_mul (show Builtin.nextslicecap (sl + n) sc ≤ 67108864 by omega) hb
    omega
  have hbig : ¬ (((sl + n : Nat) : Int) > IntKind.i64.max) := by
    have e : IntKind.i64.max = 9223372036854775807 := by decide
    rw [e]; omega
  refine ⟨new', (Question.appendCap (sl + n) sc elem).cut (w.tape w.drawn (.appendCap (sl + n) sc elem)), hv, Nat.le_add_right _ _, ?_⟩
  have hforced : ¬ ((Question.appendCap (sl + n) sc elem).forced = true) := by simp [Question.forced]
  rcases ha.shape with ⟨k, k', rfl, rfl, hn⟩ | ⟨hne, hlen⟩
  · have hc1 := hc1 _ rfl
    simp only [Builtin.append_, e0, e1, e2, e3, Sem.run_bind, run_underlying hu, run_underlying hu', Result.andThen_ok, run_sizeOf hsz, Sem.run_pure, asInt, run_asIntOf, if_true, wrap_small n hn]
    rw [if_neg (by rw [Int.ofNat_eq_natCast]; omega)]
    simp only [Sem.run_bind, run_typeInfo hi, Result.andThen_ok]
    have hm := Nat.mul_le_mul hn hb
    rw [if_neg (by rw [Int.ofNat_eq_natCast, ← Int.natCast_mul]; omega)]
    simp only [Sem.run_bind, Sem.run_pure, Result.andThen_ok]
    have e4 : (Int.ofNat n).toNat = n := rfl
    rw [e4, if_neg h]
    simp only [Sem.run_bind, run_typeInfo hi, Result.andThen_ok]
    rw [if_neg (fun hh => hbig hh.1)]
    simp only [Sem.run_bind, run_typeInfo hi, Result.andThen_ok]
    rw [if_neg (by omega)]
    simp only [Sem.run_bind, run_choose, run_typeInfo hi, Result.andThen_ok]
    rw [if_neg hforced]
    simp only [Bool.not_true, Bool.false_eq_true, if_false, run_askRoom, hold, hc1, hz, Result.andThen_ok, Sem.run_pure]
  · have hc2 := hc2 hne
    simp only [Builtin.append_, e0, e1, e2, e3, Sem.run_bind, run_underlying hu, run_underlying hu', Result.andThen_ok, run_sizeOf hsz, Sem.run_pure, Bool.false_eq_true, if_false, hlen]
    rw [if_neg h]
    simp only [Sem.run_bind, run_typeInfo hi, Result.andThen_ok]
    rw [if_neg (fun hh => hbig hh.1)]
    simp only [Sem.run_bind, run_typeInfo hi, Result.andThen_ok]
    rw [if_neg (by omega)]
    simp only [Sem.run_bind, run_choose, run_typeInfo hi, Result.andThen_ok]
    rw [if_neg hforced]
    simp only [Bool.not_false, if_true, run_askRoom, hold, hc2, hz, Result.andThen_ok, Sem.run_pure]
end


theorem storeCells_block {b off : Nat} {el : TypeId} {fr : Nat × Nat} : ∀ (vs : List Value) (i : Nat) (cs : Array Value) (w : World), w.heap[b]? = some (.cells cs el fr) → off + i + vs.length ≤ cs.size →
    (∀ j, j < cs.size → ¬ (fr.1 ≤ j ∧ j < fr.2)) → (∀ v ∈ vs, v.oneCell' = true) →
    (Go.storeCells ⟨b, off, none⟩ vs i).run P w = .ok () { w with heap := w.heap.setIfInBounds b (.cells ((vs.zipIdx i).foldl (fun (cs : Array Value) (p : Value × Nat) => cs.setIfInBounds (off + p.2) p.1) cs) el fr) } := by
  intro vs
  induction vs with
  | nil =>
    intro i cs w hb _ _ _
    have : w.heap.setIfInBounds b (.cells cs el fr) = w.heap := by
      apply Array.ext_getElem?
      intro j
      rw [Array.getElem?_setIfInBounds]
      by_cases hj : b = j
      · subst hj
        rw [if_pos rfl]
        split
        · exact hb.symm
        · rename_i hlt; rw [Array.getElem?_eq_none (by omega)] at hb; exact nn hb
      · rw [if_neg hj]
    simp only [Go.storeCells, List.zipIdx_nil, List.foldl_nil, this]
    exact Sem.run_pure P w ()
  | cons v vs ih =>
    intro i cs w hb hle hfr hone
    simp only [List.length_cons] at hle
    have hlt : off + i < cs.size := by omega
    have hbl : b < w.heap.size := by
      rcases Nat.lt_or_ge b w.heap.size with h' | h'
      · exact h'
      · rw [Array.getElem?_eq_none h'] at hb; exact nn hb
    have hc : w.cell? ⟨b, off + i, none⟩ = some cs[off + i] := by simp [World.cell?, hb, hlt]
    have hf : w.frozen? ⟨b, off + i, none⟩ = false := by
      simp only [World.frozen?, hb]
      have := hfr (off + i) hlt
      simpa using this
    have hset : w.setCell ⟨b, off + i, none⟩ v = { w with heap := w.heap.setIfInBounds b (.cells (cs.setIfInBounds (off + i) v) el fr) } := by
      simp only [World.setCell]
      rw [modify_eq _ hb]
      rfl
    rw [Go.storeCells, add_none, Sem.run_bind, run_store P w _ v .plain (hone v (by simp)), hc]
    simp only [hf, Bool.false_eq_true, if_false, Result.andThen_ok]
    rw [hset, ih (i + 1) (cs.setIfInBounds (off + i) v) _ (by simp [hbl]) (by simp only [Array.size_setIfInBounds]; omega) (by simpa using hfr) (fun x hx => hone x (by simp [hx]))]
    simp [List.zipIdx_cons]

/-- A block of the world's that no block of the evaluator's holds any more is taken by a new one. -/
theorem Sim.adopt (h : Sim S G W ρ st w) {b sh sz u q : Nat} {c : Tr Value} {o o' : Obj} (hfree : ∀ k a e, st.heap.get k = some a → ρ k = some e → e.b ≠ b) (hb : w.heap[b]? = some o) (hB : W.heap.size ≤ b)
    (hr : ObjR (ρ.set st.next ⟨b, sh, sz, u⟩) ⟨b, sh, sz, u⟩ (.cells false q c) o') :
    Sim S G W (ρ.set st.next ⟨b, sh, sz, u⟩) (st.new (.cells false q c)) { w with heap := w.heap.setIfInBounds b o' } ∧ Ext ρ st (ρ.set st.next ⟨b, sh, sz, u⟩) (st.new (.cells false q c)) := by
  have hle : ρ.le (ρ.set st.next ⟨b, sh, sz, u⟩) := by
    intro k e he
    show (if k = st.next then _ else ρ k) = some e
    rw [if_neg (by rintro rfl; rw [h.fresh _ (Nat.le_refl _)] at he; cases he)]
    exact he
  have old : ∀ k e, k ≠ st.next → (ρ.set st.next ⟨b, sh, sz, u⟩) k = some e → ρ k = some e := by
    intro k e hk he
    rw [← he]; show _ = (if k = st.next then _ else ρ k); rw [if_neg hk]
  have new : ∀ e, (ρ.set st.next ⟨b, sh, sz, u⟩) st.next = some e → e = ⟨b, sh, sz, u⟩ := by
    intro e he; rw [Rho.set_same] at he; exact (Option.some.inj he).symm
  have hbl : b < w.heap.size := by
    rcases Nat.lt_or_ge b w.heap.size with h' | h'
    · exact h'
    · rw [Array.getElem?_eq_none h'] at hb; exact nn hb
  refine ⟨⟨h.below.trans ⟨rfl, rfl, rfl, by simp, fun i hi => by rw [Array.getElem?_setIfInBounds_ne (by omega)]⟩, ?_, Nat.le_succ_of_le h.low, ?_, ?_, ?_, ?_, fun k e hk => hle _ _ (h.keep k e hk)⟩, hle, Nat.le_succ _, ?_⟩
  · intro k hk
    simp only [St.new] at hk
    show (if k = st.next then _ else ρ k) = none
    rw [if_neg (by omega)]
    exact h.fresh k (by omega)
  · intro k e hk he
    have := h.low
    exact h.glob k e hk (old k e (by omega) he)
  · intro k a hk ha
    have := h.low
    simp only [St.new, Tr.get_set] at ha
    rw [if_neg (by omega)] at ha
    obtain ⟨e, he⟩ := h.globB k a hk ha
    exact ⟨e, hle _ _ he⟩
  · intro k a ha e he
    simp only [St.new, Tr.get_set] at ha
    by_cases hk : k = st.next
    · subst hk
      rw [if_pos rfl] at ha
      cases (Option.some.inj ha)
      cases new e he
      exact ⟨o', by simp [hbl], hr, fun _ => hB⟩
    · rw [if_neg hk] at ha
      have he' := old k e hk he
      obtain ⟨o1, h1, h2, h3⟩ := h.obj k a ha e he'
      exact ⟨o1, by rw [Array.getElem?_setIfInBounds_ne (Ne.symm (hfree k a e ha he'))]; exact h1, h2.mono hle, h3⟩
  · intro k k' a a' e e' ha ha' he he' hbb
    simp only [St.new, Tr.get_set] at ha ha'
    by_cases h1 : k = st.next <;> by_cases h2 : k' = st.next
    · rw [h1, h2]
    · exfalso
      subst h1
      rw [if_neg h2] at ha'
      cases new e he
      exact hfree k' a' e' ha' (old k' e' h2 he') hbb.symm
    · exfalso
      subst h2
      rw [if_neg h1] at ha
      cases new e' he'
      exact hfree k a e ha (old k e h1 he) hbb
    · rw [if_neg h1] at ha
      rw [if_neg h2] at ha'
      exact h.inj k k' a a' e e' ha ha' (old k e h1 he) (old k' e' h2 he') hbb
  · intro k hk hn
    exact ⟨by show (if k = st.next then _ else ρ k) = none; rw [if_neg (by omega)]; exact hn, by simp only [St.new, Tr.get_set]; rw [if_neg (by omega)]⟩

theorem oneCells_all : ∀ {l l' : List Value}, VRs ρ l l' → oneCells l = true → ∀ v ∈ l', v.oneCell' = true
  | _, _, .nil, _, v, hv => by cases hv
  | _, _, @VRs.cons _ x x' _ _ hx k, h, v, hv => by
    simp only [oneCells, Bool.and_eq_true] at h
    rcases List.mem_cons.1 hv with rfl | hv
    · exact hx.one (by cases x <;> first | rfl | exact h.1)
    · exact oneCells_all k h.2 v hv

theorem cellsFrom_length : ∀ {c : Tr Value} {n o : Nat} {l : List Value}, cellsFrom c o n = some l → l.length = n
  | c, 0, o, l, h => by cases (Option.some.inj h); rfl
  | c, n + 1, o, l, h => by
    simp only [cellsFrom] at h
    cases hv : c.get o with
    | none => rw [hv] at h; exact nn h
    | some v =>
      rw [hv] at h
      simp only at h
      cases hr : cellsFrom c (o + 1) n with
      | none => rw [hr] at h; exact nn h
      | some r =>
        rw [hr] at h
        cases (Option.some.inj h)
        simp [cellsFrom_length hr]

theorem cellsFrom_get : ∀ {c : Tr Value} {n o : Nat} {l : List Value}, cellsFrom c o n = some l → ∀ {i : Nat} {v : Value}, l[i]? = some v → c.get (o + i) = some v
  | c, 0, o, l, h, i, v, hv => by cases (Option.some.inj h); simp at hv
  | c, n + 1, o, l, h, i, v, hv => by
    simp only [cellsFrom] at h
    cases hx : c.get o with
    | none => rw [hx] at h; exact nn h
    | some x =>
      rw [hx] at h
      simp only at h
      cases hr : cellsFrom c (o + 1) n with
      | none => rw [hr] at h; exact nn h
      | some r =>
        rw [hr] at h
        cases (Option.some.inj h)
        cases i with
        | zero => simp at hv; rw [← hv]; exact hx
        | succ i =>
          have := cellsFrom_get hr (i := i) (v := v) (by simpa using hv)
          rw [← this]; congr 1; omega

theorem aAppend_run (hS : Sim S G W ρ st w) {t t' ty : TypeId} {s s' x x' v : Value} {st' : St} (hs : VR ρ s s') (hx : VR ρ x x') (h : aAppend [t, t'] s x st = some (v, st')) :
    ∃ v' w' ρ', (Builtin.append_ ⟨[t, t']⟩ ty ⟨[s', x']⟩).run P w = .ok v' w' ∧ VR ρ' v v' ∧ Sim S G W ρ' st' w' ∧ Ext ρ st ρ' st' := by
  unfold aAppend at h
  simp only at h
  split at h
  · rename_i elem d hu hu'
    split at h
    · rename_i i z hi hz
      cases hg : (Nat.ble i.bytes 65536 && (Nat.blt 0 i.size && Nat.ble i.size 65534) && Nat.blt 0 i.bytes && Nat.beq z.cells.toList.length i.size) with
      | false => rw [hg] at h; exact nn h
      | true =>
        rw [hg] at h
        simp only [cond_true] at h
        simp only [Bool.and_eq_true] at hg
        obtain ⟨⟨⟨hb, hsz, hsz2⟩, -⟩, hzl⟩ := hg
        have hsz3 : i.size < 65536 := Nat.lt_of_le_of_lt (ble_le hsz2) (by decide)
        have hsz4 : i.size ≠ 65535 := Nat.ne_of_lt (Nat.lt_of_le_of_lt (ble_le hsz2) (by decide))
        have hb := ble_le hb
        have hsz : 0 < i.size := Nat.le_of_ble_eq_true hsz
        have hzl := Nat.eq_of_beq_eq_true hzl
        rw [Array.length_toList] at hzl
        have hzr : ∀ w, (zeroValue elem).run P w = .ok z w := fun w => (run_zero hz).1
        cases hn : aNew elem i d x st with
        | none => rw [hn] at h; exact nn h
        | some nn' =>
          obtain ⟨n, new⟩ := nn'
          rw [hn] at h
          simp only at h
          cases hlen : Nat.beq new.length (Nat.mul n i.size) with
          | false => rw [hlen] at h; exact nn h
          | true =>
            rw [hlen] at h
            simp only [cond_true] at h
            have hlen : new.length = n * i.size := Nat.eq_of_beq_eq_true hlen
            have ha := aNew_run hS hx hn
            have hd := aNew_run hS.drew hx hn
            -- a new block with all in it
            have grow : ∀ (st1 : St) (hS1 : Sim S G W ρ st1 { w with drawn := w.drawn + 1 }) (old old' : List Value) (base : Option Addr) (sl sc : Nat), VRs ρ old old' → old.length = sl * i.size → ¬ sl + n ≤ sc → sl + n ≤ 16777216 →
                s' = .slice base sl sc → (Builtin.firstCells i.size sl (.slice base sl sc)).run P { w with drawn := w.drawn + 1 } = .ok ⟨old'⟩ { w with drawn := w.drawn + 1 } →
                v = .slice (some ⟨st1.next, 0, none⟩) (sl + n) (sl + n) → st' = st1.new (.cells false (mark elem i.size) (Tr.fill .nil 0 (old ++ new))) →
                ∃ v' w' ρ', (Builtin.append_ ⟨[t, t']⟩ ty ⟨[s', x']⟩).run P w = .ok v' w' ∧ VR ρ' v v' ∧ Sim S G W ρ' st' w' ∧ Ext ρ st1 ρ' st' := by
              rintro st1 hS1 old old' base sl sc ho hol hgt hsm rfl hold rfl rfl
              obtain ⟨new', cap, hv, hcap, run⟩ := append_grow (ty := ty) hu hu' hi hb ha hd hgt hsm hzr hold
              have l1 := ho.length
              have l2 := hv.length
              have hzc : (Builtin.zeroCells z.cells (cap - (sl + n))).size = (cap - (sl + n)) * i.size := by simp [Builtin.zeroCells, hzl]
              have hsize : ((⟨old'⟩ : Array Value) ++ ⟨new'⟩ ++ Builtin.zeroCells z.cells (cap - (sl + n))).size = cap * i.size := by
                simp only [Array.size_append, hzc]
                show old'.length + new'.length + _ = _
                have e : sl * i.size + n * i.size + (cap - (sl + n)) * i.size = cap * i.size := by
                  rw [← Nat.add_mul, ← Nat.add_mul, Nat.add_sub_of_le hcap]
                rw [← l1, ← l2, hol, hlen]
                exact e
              have hr : TrR ρ (Tr.fill .nil 0 (old ++ new)) ((⟨old'⟩ : Array Value) ++ ⟨new'⟩ ++ Builtin.zeroCells z.cells (cap - (sl + n))) := .ofList fun j u hj => by
                obtain ⟨u', g1, g2⟩ := (ho.append hv).get hj
                refine ⟨u', ?_, g2⟩
                have hjl : j < (old' ++ new').length := by
                  rcases Nat.lt_or_ge j (old' ++ new').length with h' | h'
                  · exact h'
                  · rw [List.getElem?_eq_none h'] at g1; exact nn g1
                rw [Array.getElem?_append_left (by simpa using hjl)]
                simpa using g1
              obtain ⟨g1, g2, g3⟩ := hS1.newRow (u := i.size) (elem := elem) hr hsz3
              refine ⟨_, _, _, ?_, VR.slice (e := ⟨w.heap.size, 0, _, i.size⟩) 0 (sl + n) (sl + n) cap (Rho.set_same _ _ _) hcap (.inr (by simp only [Nat.zero_add]; exact hsize.symm)), g2, g3⟩
              rw [run, g1]
              simp only [Result.andThen_ok, Nat.add_zero]
            unfold aLay at h
            split at h
            · cases hs
              cases h0 : Nat.beq n 0 with
              | true =>
                rw [h0] at h
                cases (Option.some.inj h)
                cases Nat.eq_of_beq_eq_true h0
                obtain ⟨new', hv, run⟩ := append_room (ty := ty) (base := none) (sl := 0) (sc := 0) hu hu' hi hb ha (Nat.le_refl _)
                exact ⟨.slice none 0 0, w, ρ, by rw [run]; exact Sem.run_pure P w _, .nilSlice 0 0, hS, .refl _ _⟩
              | false =>
                rw [h0] at h
                simp only [cond_false] at h
                have h0 := Nat.ne_of_beq_eq_false h0
                cases hsm : Nat.ble n 16777216 with
                | false => rw [hsm] at h; exact nn h
                | true =>
                  rw [hsm] at h
                  have h : some (Value.slice (some ⟨st.next, 0, none⟩) n n, st.new (.cells false (mark elem i.size) (Tr.fill .nil 0 new))) = some (v, st') := h
                  injection h with h
                  injection h with h1 h2
                  exact grow st hS.drew [] [] none 0 0 .nil (by simp) (by omega) (by rw [Nat.zero_add]; exact ble_le hsm) rfl (Sem.run_pure P _ _) (by rw [Nat.zero_add]; exact h1.symm) (by rw [List.nil_append]; exact h2.symm)
            · rename_i k o len cap
              obtain ⟨e, ad, c', he, rfl, hcc, hz', had⟩ : ∃ e ad c', ρ k = some e ∧ s' = .slice (some ⟨e.b, ad, none⟩) len c' ∧ cap ≤ c' ∧ (c' = cap ∨ ad + c' * e.u = e.sz) ∧ (ad = o + e.sh ∨ (len = 0 ∧ cap = 0)) := by
                cases hs with
                | @slice _ e _ _ _ c' he hc hz => exact ⟨e, _, c', he, rfl, hc, hz, .inl rfl⟩
                | @slice0 _ e _ o' c' he hz => exact ⟨e, o', c', he, rfl, Nat.zero_le _, hz.imp id id, .inr ⟨rfl, rfl⟩⟩
              cases hroom : Nat.ble (len + n) cap with
              | true =>
                rw [hroom] at h
                simp only [cond_true] at h
                have hroom := ble_le hroom
                obtain ⟨new', hv, run⟩ := append_room (ty := ty) (base := some ⟨e.b, ad, none⟩) (sl := len) (sc := c') hu hu' hi hb ha (Nat.le_trans hroom hcc)
                cases h0 : Nat.beq n 0 with
                | true =>
                  rw [h0] at h
                  cases (Option.some.inj h)
                  cases Nat.eq_of_beq_eq_true h0
                  have hnil : new = [] := List.length_eq_zero_iff.1 (by rw [hlen, Nat.zero_mul])
                  subst hnil
                  cases hv
                  exact ⟨.slice (some ⟨e.b, ad, none⟩) len c', w, ρ, by rw [run]; exact Sem.run_pure P w _, hs, hS, .refl _ _⟩
                | false =>
                  rw [h0] at h
                  simp only [cond_false] at h
                  have h0 := Nat.ne_of_beq_eq_false h0
                  have had : ad = o + e.sh := by omega
                  subst had
                  split at h
                  · rename_i u c hk
                    cases hp : putCells c (o + len * i.size) new with
                    | none => rw [hp] at h; exact nn h
                    | some c2 =>
                      rw [hp] at h
                      cases (Option.some.inj h)
                      obtain ⟨w', g1, g2⟩ := Sim.storeCells (P := P) he (o + len * i.size) new new' 0 c c2 st w hS hk (by simpa using hp) hv
                      refine ⟨.slice (some ⟨e.b, o + e.sh, none⟩) (len + n) c', w', ρ, ?_, .slice _ _ _ _ he hcc hz', g2, .put he _⟩
                      rw [run]
                      simp only [add_none, Sem.run_bind]
                      rw [show o + e.sh + len * i.size = o + len * i.size + e.sh by omega, g1]
                      exact Sem.run_pure P w' _
                  · exact nn h
              | false =>
                rw [hroom] at h
                simp only [cond_false] at h
                have hroom : ¬ len + n ≤ cap := fun hh => by rw [Nat.ble_eq_true_of_le hh] at hroom; cases hroom
                cases hsm : (Nat.ble (len + n) 16777216 && oneCells new) with
                | false => rw [hsm] at h; exact nn h
                | true =>
                  rw [hsm] at h
                  simp only [cond_true] at h
                  rw [Bool.and_eq_true] at hsm
                  have hone := hsm.2
                  have hsm := ble_le hsm.1
                  split at h
                  · rename_i u c hk
                    cases hus : Nat.beq u (mark elem i.size) with
                    | false => rw [hus] at h; exact nn h
                    | true =>
                      rw [hus] at h
                      simp only [cond_true] at h
                      cases Nat.eq_of_beq_eq_true hus
                      cases hold : cellsFrom c o (len * i.size) with
                      | none => rw [hold] at h; exact nn h
                      | some old =>
                        rw [hold] at h
                        have h : some (Value.slice (some ⟨st.next, 0, none⟩) (len + n) (len + n), (St.mk (st.heap.set k none) st.next).new (.cells false (mark elem i.size) (Tr.fill .nil 0 (old ++ new)))) = some (v, st') := h
                        injection h with h
                        injection h with h1 h2
                        subst h1
                        subst h2
                        by_cases hin : len + n ≤ c'
                        · obtain ⟨new', hv, run⟩ := append_room (ty := ty) (base := some ⟨e.b, ad, none⟩) (sl := len) (sc := c') hu hu' hi hb ha hin
                          obtain ⟨ob, ho, hr, hB⟩ := hS.obj k _ hk e he
                          cases ob <;> try exact hr.elim
                          rename_i cs el fr
                          obtain ⟨r1, r2, r3, r4⟩ := hr
                          have r5 := (r3 rfl).1
                          have r3 := (r3 rfl).2
                          rw [mark_mod hsz3] at r1
                          have hzz : ad + c' * i.size = e.sz := by
                            rcases hz' with hz' | hz'
                            · omega
                            · rw [← r1]; exact hz'
                          have l2 := hv.length
                          have hmul : len * i.size + n * i.size ≤ c' * i.size := by rw [← Nat.add_mul]; exact Nat.mul_le_mul_right _ hin
                          have hbound : ad + len * i.size + 0 + new'.length ≤ cs.size := by rw [r2, ← hzz, ← l2, hlen]; omega
                          have hst := storeCells_block (off := ad + len * i.size) new' 0 cs w ho hbound r3 (oneCells_all hv hone)
                          have lay := lay_get new' cs (ad + len * i.size) 0 hbound
                          generalize hcs : (new'.zipIdx 0).foldl (fun (cs : Array Value) (p : Value × Nat) => cs.setIfInBounds (ad + len * i.size + p.2) p.1) cs = cs2 at lay hst
                          have hle : ρ.le (ρ.set st.next ⟨e.b, ad, e.sz, i.size⟩) := by
                            intro q f hf
                            show (if q = st.next then _ else ρ q) = some f
                            rw [if_neg (by rintro rfl; rw [hS.fresh _ (Nat.le_refl _)] at hf; cases hf)]
                            exact hf
                          have hol := cellsFrom_length hold
                          obtain ⟨g1, g2⟩ := (hS.kill k).adopt (b := e.b) (sh := ad) (sz := e.sz) (u := i.size) (q := mark elem i.size) (c := Tr.fill .nil 0 (old ++ new)) (o' := .cells cs2 el fr)
                            (fun q a f hq hf hbb => by
                              rw [Tr.get_set] at hq
                              split at hq
                              · exact nn hq
                              · rename_i hne
                                exact hne (hS.inj q k a _ f e hq hk hf he hbb)) ho (hB rfl)
                            ⟨(mark_mod hsz3).symm, by rw [lay.1]; exact r2, fun _ => ⟨⟨r5.1, fun h0 => absurd ((mark_mod hsz3).symm.trans h0) hsz4⟩, fun j hj => r3 j (by rw [lay.1] at hj; exact hj)⟩, fun j y hy => by
                              rw [Tr.get_fill] at hy
                              split at hy
                              · rename_i hj
                                rw [Nat.sub_zero, List.getElem?_append] at hy
                                show ∃ v', cs2[j + ad]? = some v' ∧ _
                                rw [lay.2]
                                split at hy
                                · rename_i hjo
                                  rw [hol] at hjo
                                  rw [if_neg (by omega)]
                                  rcases had with rfl | ⟨rfl, rfl⟩
                                  · obtain ⟨y', k1, k2⟩ := r4 (o + j) y (cellsFrom_get hold hy)
                                    exact ⟨y', by rw [show j + (o + e.sh) = o + j + e.sh by omega]; exact k1, k2.mono hle⟩
                                  · rw [Nat.zero_mul] at hjo; omega
                                · rename_i hjo
                                  rw [hol] at hjo hy
                                  obtain ⟨y', k1, k2⟩ := hv.get hy
                                  have hjl : j - len * i.size < new'.length := by
                                    rcases Nat.lt_or_ge (j - len * i.size) new'.length with h' | h'
                                    · exact h'
                                    · rw [List.getElem?_eq_none h'] at k1; exact nn k1
                                  rw [if_pos (by omega)]
                                  exact ⟨y', by rw [show j + ad - (ad + len * i.size) - 0 = j - len * i.size by omega]; exact k1, k2.mono hle⟩
                              · rw [Tr.get_nil] at hy; exact nn hy⟩
                          refine ⟨.slice (some ⟨e.b, ad, none⟩) (len + n) c', _, _, ?_, ?_, g1, (Ext.kill he).trans g2⟩
                          · rw [run]
                            simp only [add_none, Sem.run_bind]
                            rw [hst]
                            exact Sem.run_pure P _ _
                          · have := VR.slice (ρ := ρ.set st.next ⟨e.b, ad, e.sz, i.size⟩) (e := ⟨e.b, ad, e.sz, i.size⟩) 0 (len + n) (len + n) c' (Rho.set_same _ _ _) hin (.inr (by simp only [Nat.zero_add]; exact hzz))
                            simpa using this
                        · obtain ⟨old', g1, g2⟩ : ∃ old', (Builtin.firstCells i.size len (.slice (some ⟨e.b, ad, none⟩) len c')).run P { w with drawn := w.drawn + 1 } = .ok ⟨old'⟩ { w with drawn := w.drawn + 1 } ∧ VRs ρ old old' := by
                            rcases had with rfl | ⟨rfl, rfl⟩
                            · exact hS.drew.loadCells (P := P) hk he hold
                            · rw [Nat.zero_mul] at hold
                              cases (Option.some.inj hold)
                              exact ⟨[], by simp [Builtin.firstCells, loadCells, loadCellsFrom], .nil⟩
                          obtain ⟨v', w', ρ', a1, a2, a3, a4⟩ := grow ⟨st.heap.set k none, st.next⟩ (hS.drew.kill k) old old' _ len c' g2 (cellsFrom_length hold) hin hsm rfl g1 rfl rfl
                          exact ⟨v', w', ρ', a1, a2, a3, (Ext.kill he).trans a4⟩
                  · exact nn h
            · exact nn h
    · exact nn h
  · exact nn h

end
end Go.Proofs.YtcgecgilkapjaaaGreatDoor
