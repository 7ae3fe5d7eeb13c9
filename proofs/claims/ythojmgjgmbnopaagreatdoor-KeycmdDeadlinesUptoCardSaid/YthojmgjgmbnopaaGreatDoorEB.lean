/- The evaluator is sound: the operations that only look. No program is named. -/
import Derived.Test.YthojmgjgmbnopaaGreatDoorEA
import Derived.Laws.Strings
import Derived.IntWalk
import Derived.Laws.BytesString
namespace Go.Proofs.YthojmgjgmbnopaaGreatDoor
open Go Go.RowKit

section
variable {G : Nat} {W : World} {ρ : Rho} {st : St} {w : World}

theorem run_underlying {t : TypeId} {d : TypeDesc} (h : P.underlying t = some d) : (underlying t).run P w = .ok d w := by
  simp only [underlying, Sem.run_bind, run_program, Result.andThen_ok, h, Sem.run_pure]
theorem run_typeInfo {t : TypeId} {i : TypeInfo} (h : P.info? t = some i) : (typeInfo t).run P w = .ok i w := by
  simp only [typeInfo, Sem.run_bind, run_program, Result.andThen_ok, h, Sem.run_pure]
theorem run_sizeOf {t : TypeId} {n : Nat} (h : sizeIn t = some n) : (sizeOf t).run P w = .ok n w := by
  cases hi : P.info? t with
  | none => simp [sizeIn, hi] at h
  | some i =>
    simp only [sizeIn, hi, Option.map_some, Option.some.injEq] at h
    subst h
    simp only [sizeOf, Sem.run_bind, run_typeInfo hi, Result.andThen_ok, Sem.run_pure]
theorem run_zero {t : TypeId} {z : Value} (h : aZero t = some z) : (zeroValue t).run P w = .ok z w ∧ flat z = true := by
  unfold aZero at h
  cases hi : P.info? t with
  | none => simp [hi] at h
  | some i =>
    simp only [hi] at h
    cases hz : i.zero with
    | none => simp [hz] at h
    | some z' =>
      simp only [hz] at h
      cases hf : flat z' with
      | false => simp [hf] at h
      | true =>
        simp only [hf, cond_true, Option.some.injEq] at h
        subst h
        exact ⟨by simp only [zeroValue, Sem.run_bind, run_typeInfo hi, Result.andThen_ok, hz, Sem.run_pure], hf⟩

theorem tyAgg_some {t : TypeId} {n : Nat} (h : tyAgg t = some (some n)) : (isAgg t).run P w = .ok true w ∧ (sizeOf t).run P w = .ok n w := by
  unfold tyAgg at h
  split at h
  · rename_i fs hu
    cases hi : P.info? t with
    | none => simp [hi] at h
    | some i =>
      simp only [hi, Option.some.injEq] at h
      exact ⟨by simp only [isAgg, Sem.run_bind, run_underlying hu, Result.andThen_ok, Sem.run_pure], run_sizeOf (by simp [sizeIn, hi, h])⟩
  · rename_i k e hu
    cases hi : P.info? t with
    | none => simp [hi] at h
    | some i =>
      simp only [hi, Option.some.injEq] at h
      exact ⟨by simp only [isAgg, Sem.run_bind, run_underlying hu, Result.andThen_ok, Sem.run_pure], run_sizeOf (by simp [sizeIn, hi, h])⟩
  · simp at h
  · simp at h

theorem tyAgg_none {t : TypeId} (h : tyAgg t = some none) : (isAgg t).run P w = .ok false w := by
  unfold tyAgg at h
  split at h
  · cases hi : P.info? t <;> simp [hi] at h
  · cases hi : P.info? t <;> simp [hi] at h
  · rename_i d h1 h2 hu
    simp only [isAgg, Sem.run_bind, run_underlying hu, Result.andThen_ok]
    cases d <;> first | rfl | (exact absurd rfl (h1 _)) | (exact absurd rfl (h2 _ _))
  · simp at h

theorem nn {α : Type} {v : α} {p : Prop} (h : (none : Option α) = some v) : p := by cases h

theorem aLoad_inv {x : Value} {t : TypeId} {v : Value} (h : aLoad x t st = some v) : ∃ k o, x = .pointer (some ⟨k, o, none⟩) ∧ aLoadIn (st.heap.get k) o (tyAgg t) = some v := by
  rcases x with _ | _ | _ | _ | _ | (_ | ⟨k, o, _ | s⟩) | _ | _ | _ | _ | _ | _ | _ | _ | _ <;> first | exact ⟨k, o, rfl, h⟩ | exact nn h

theorem aLoadIn_inv {b : Option AObj} {o : Nat} {a : Option (Option Nat)} {v : Value} (h : aLoadIn b o a = some v) :
    ∃ ro u c, b = some (.cells ro u c) ∧ ((a = some none ∧ c.get o = some v) ∨ ∃ n l, a = some (some n) ∧ cellsFrom c o n = some l ∧ v = .agg ⟨l⟩) := by
  rcases b with _ | ⟨ro, u, c⟩ | _ | _ | _
  · exact nn h
  · refine ⟨ro, u, c, rfl, ?_⟩
    rcases a with _ | _ | n
    · exact nn h
    · exact .inl ⟨rfl, h⟩
    · right
      have h : (match cellsFrom c o n with | some l => some (.agg ⟨l⟩) | none => none) = some v := h
      cases hl : cellsFrom c o n with
      | none => rw [hl] at h; exact nn h
      | some l => rw [hl] at h; exact ⟨n, l, rfl, hl, (Option.some.inj h).symm⟩
  · exact nn h
  · exact nn h
  · exact nn h

theorem aLoad_sound (hS : Sim G W ρ st w) {t : TypeId} {x x' v : Value} (hx : VR ρ x x') (h : aLoad x t st = some v) :
    ∃ v', (Instr.loadAt t x').run P w = .ok v' w ∧ VR ρ v v' := by
  obtain ⟨k, o, rfl, h⟩ := aLoad_inv h
  cases hx with
  | @ptr _ e _ he =>
    obtain ⟨ro, u, c, hk, ⟨ha, hv⟩ | ⟨n, l, ha, hl, rfl⟩⟩ := aLoadIn_inv h
    · obtain ⟨v', h1, h2⟩ := hS.load hk he hv
      exact ⟨v', by simp [Instr.loadAt, Instr.sureAddr, loadVar, tyAgg_none (w := w) ha, h1], h2⟩
    · obtain ⟨l', h1, h2⟩ := hS.loadCells (P := P) hk he hl
      have := tyAgg_some (w := w) ha
      exact ⟨.agg ⟨l'⟩, by simp [Instr.loadAt, Instr.sureAddr, loadVar, this.1, this.2, h1], .agg h2⟩

theorem aPart_sound {t : TypeId} {cs cs' : List Value} {off : Nat} {v : Value} (hc : VRs ρ cs cs') (h : aPart t cs off = some v) :
    ∃ v', (part t ⟨cs'⟩ off).run P w = .ok v' w ∧ VR ρ v v' := by
  unfold aPart at h
  split at h
  · rename_i n ha
    simp only [Option.some.injEq] at h
    subst h
    have := tyAgg_some (w := w) ha
    refine ⟨.agg ⟨(cs'.drop off).take n⟩, ?_, .agg ((hc.drop off).take n)⟩
    simp only [part, Sem.run_bind, this.1, this.2, Result.andThen_ok, if_true, Sem.run_pure]
    simp [List.extract_eq_take_drop]
  · rename_i ha
    obtain ⟨v', h1, h2⟩ := hc.get h
    exact ⟨v', by simp [part, tyAgg_none (w := w) ha, h1], h2⟩
  · simp at h

/-- Cells laid one behind the other into a row. -/
theorem lay_get : ∀ (l : List Value) (cells : Array Value) (off i : Nat), off + i + l.length ≤ cells.size →
    ((l.zipIdx i).foldl (fun (cs : Array Value) (p : Value × Nat) => cs.setIfInBounds (off + p.2) p.1) cells).size = cells.size ∧
    ∀ k, ((l.zipIdx i).foldl (fun (cs : Array Value) (p : Value × Nat) => cs.setIfInBounds (off + p.2) p.1) cells)[k]? = if off + i ≤ k ∧ k < off + i + l.length then l[k - off - i]? else cells[k]?
  | [], cells, off, i, _ => ⟨rfl, fun k => by rw [if_neg (by simp only [List.length_nil]; omega)]; rfl⟩
  | x :: l, cells, off, i, h => by
    simp only [List.length_cons] at h
    obtain ⟨h1, h2⟩ := lay_get l (cells.setIfInBounds (off + i) x) off (i + 1) (by simp only [Array.size_setIfInBounds]; omega)
    simp only [List.zipIdx_cons, List.foldl_cons]
    refine ⟨by rw [h1]; simp, fun k => ?_⟩
    rw [h2 k]
    by_cases hk : k = off + i
    · subst hk
      rw [if_neg (by omega), if_pos (by simp only [List.length_cons]; omega)]
      rw [show off + i - off - i = 0 by omega, Array.getElem?_setIfInBounds_self_of_lt (by omega)]
      rfl
    · by_cases hr : off + (i + 1) ≤ k ∧ k < off + (i + 1) + l.length
      · rw [if_pos hr, if_pos (by simp only [List.length_cons]; omega)]
        obtain ⟨j, rfl⟩ : ∃ j, k = off + (i + 1) + j := ⟨k - (off + (i + 1)), by omega⟩
        rw [show off + (i + 1) + j - off - (i + 1) = j by omega, show off + (i + 1) + j - off - i = j + 1 by omega]
        simp
      · rw [if_neg hr, if_neg (by simp only [List.length_cons]; omega), Array.getElem?_setIfInBounds_ne (by omega)]

inductive PartsR (ρ : Rho) : List (Nat × Value) → List (Nat × Value) → Prop
  | nil : PartsR ρ [] []
  | cons {i : Nat} {v v' : Value} {l l' : List (Nat × Value)} (h : VR ρ v v') (k : PartsR ρ l l') : PartsR ρ ((i, v) :: l) ((i, v') :: l')

theorem VR.cells {v v' : Value} (h : VR ρ v v') : VRs ρ v.cells.toList v'.cells.toList := by
  cases h <;> first
    | assumption
    | exact .cons (by constructor <;> assumption) .nil

theorem VRs.of_get : ∀ {a b : List Value}, a.length = b.length → (∀ (i : Nat) (v : Value), a[i]? = some v → ∃ v', b[i]? = some v' ∧ VR ρ v v') → VRs ρ a b
  | [], [], _, _ => .nil
  | x :: a, y :: b, hl, h => by
    obtain ⟨v', h1, h2⟩ := h 0 x (by simp)
    simp at h1
    subst h1
    exact .cons h2 (VRs.of_get (by simpa using hl) fun i v hi => by
      have := h (i + 1) v (by simpa using hi)
      simpa using this)
  | [], _ :: _, hl, _ => by simp at hl
  | _ :: _, [], hl, _ => by simp at hl

/-- Parts laid into rows that are alike leave rows that are alike. -/
theorem fill_rel {place : Nat → Option (Nat × Nat)} : ∀ {ps ps' : List (Nat × Value)}, PartsR ρ ps ps' → ∀ {cs cs' r : Array Value}, VRs ρ cs.toList cs'.toList →
    Instr.fill place cs ps = some r → ∃ r', Instr.fill place cs' ps' = some r' ∧ VRs ρ r.toList r'.toList
  | _, _, .nil, cs, cs', r, hc, h => by
    simp only [Instr.fill, Option.some.injEq] at h
    subst h
    exact ⟨cs', rfl, hc⟩
  | _, _, @PartsR.cons _ i v v' l l' hv k, cs, cs', r, hc, h => by
    simp only [Instr.fill] at h ⊢
    cases hp : place i with
    | none => simp [hp] at h
    | some x =>
      obtain ⟨off, size⟩ := x
      simp only [hp] at h ⊢
      have hcell := hv.cells
      have hlen : v'.cells.size = v.cells.size := by simpa using hcell.length.symm
      have hsz : cs'.size = cs.size := by simpa using hc.length.symm
      rw [hlen, hsz]
      split at h
      · simp at h
      · rename_i hn
        rw [if_neg hn]
        simp only [not_or, Bool.or_eq_true, decide_eq_true_eq, ne_eq, Decidable.not_not, gt_iff_lt, Nat.not_lt] at hn
        rw [← Array.foldl_toList] at h ⊢
        have a1 := lay_get v.cells.toList cs off 0 (by simp; omega)
        have a2 := lay_get v'.cells.toList cs' off 0 (by simp; omega)
        refine fill_rel k ?_ h
        simp only [Array.toList_zipIdx]
        refine VRs.of_get (by rw [Array.length_toList, Array.length_toList, a1.1, a2.1, hsz]) fun j x hx => ?_
        rw [Array.getElem?_toList] at hx ⊢
        rw [a1.2] at hx
        rw [a2.2]
        have hlen' : v'.cells.toList.length = v.cells.toList.length := by simpa using hlen
        rw [hlen']
        split at hx
        · rename_i hj; rw [if_pos hj]; exact hcell.get hx
        · rename_i hj; rw [if_neg hj]
          have := hc.get (i := j) (v := x) (by rw [Array.getElem?_toList]; exact hx)
          simpa using this

end
end Go.Proofs.YthojmgjgmbnopaaGreatDoor
/- The evaluator is sound: the operations that only look, one by one. No program is named. -/
namespace Go.Proofs.YthojmgjgmbnopaaGreatDoor
open Go Go.RowKit

section
variable {G : Nat} {W : World} {ρ : Rho} {st : St} {w : World}

theorem run_places (fs : List Field) : ∀ (ps : List (Nat × Nat)), fs.mapM (fun f => (sizeIn f.type).map fun n => (f.offset, n)) = some ps →
    (fs.mapM (fun f => do pure (f.offset, ← sizeOf f.type)) : Sem (List (Nat × Nat))).run P w = .ok ps w := by
  induction fs with
  | nil =>
    intro ps h
    simp only [List.mapM_nil] at h ⊢
    cases h
    exact Sem.run_pure P w []
  | cons f fs ih =>
    intro ps h
    rw [List.mapM_cons] at h ⊢
    cases hs : sizeIn f.type with
    | none => simp [hs] at h
    | some n =>
      simp only [hs, Option.map_some] at h
      cases hr : fs.mapM (fun f => (sizeIn f.type).map fun n => (f.offset, n)) with
      | none => rw [hr] at h; simp at h
      | some r =>
        rw [hr] at h
        have hp : ps = (f.offset, n) :: r := by simpa using h.symm
        subst hp
        simp only [Sem.run_bind, run_sizeOf (w := w) hs, Result.andThen_ok, Sem.run_pure, ih r hr]

theorem run_places' {fs : Array Field} {ps : List (Nat × Nat)} (h : fs.toList.mapM (fun f => (sizeIn f.type).map fun n => (f.offset, n)) = some ps) :
    (fs.mapM (fun f => do pure (f.offset, ← sizeOf f.type)) : Sem (Array (Nat × Nat))).run P w = .ok ps.toArray w := by
  rw [Array.mapM_eq_mapM_toList, Sem.run_map, run_places fs.toList ps h]
  rfl

theorem aBuild_sound {t : TypeId} {ps ps' : List (Nat × Value)} {v : Value} (hp : PartsR ρ ps ps') (h : aBuild t ps = some v) :
    ∃ v', (Instr.build t ps'.toArray).run P w = .ok v' w ∧ VR ρ v v' := by
  unfold aBuild at h
  cases hi : P.info? t with
  | none => simp [hi] at h
  | some i =>
    simp only [hi] at h
    cases hz : i.zero with
    | none => simp [hz] at h
    | some z =>
      have hrun : (zeroValue t).run P w = .ok z w := by simp only [zeroValue, Sem.run_bind, run_typeInfo hi, Result.andThen_ok, hz, Sem.run_pure]
      simp only [hz] at h
      split at h
      · rename_i fields hu
        split at h
        · rename_i places hpl
          split at h
          · rename_i cs hf
            cases hfl : flat z with
            | false => simp [hfl] at h
            | true =>
              simp only [hfl, cond_true, Option.some.injEq] at h
              subst h
              obtain ⟨r', h1, h2⟩ := fill_rel (ρ := ρ) hp (flat_self hfl).cells hf
              refine ⟨.agg r', ?_, .agg h2⟩
              simp only [Instr.build, Sem.run_bind, hrun, Result.andThen_ok, run_underlying hu, run_places' hpl]
              have : (fun x => places.toArray[x]?) = fun (i : Nat) => places[i]? := by funext i; simp
              rw [this, h1]
              rfl
          · simp at h
        · simp at h
      · rename_i n elem hu
        split at h
        · rename_i size hs
          split at h
          · rename_i cs hf
            cases hfl : flat z with
            | false => simp [hfl] at h
            | true =>
              simp only [hfl, cond_true, Option.some.injEq] at h
              subst h
              obtain ⟨r', h1, h2⟩ := fill_rel (ρ := ρ) hp (flat_self hfl).cells hf
              refine ⟨.agg r', ?_, .agg h2⟩
              simp only [Instr.build, Sem.run_bind, hrun, Result.andThen_ok, run_underlying hu, run_sizeOf hs]
              rw [h1]
              rfl
          · simp at h
        · simp at h
      · simp at h

theorem aFieldAddr_sound {s : TypeId} {x x' v : Value} {f : Nat} (hx : VR ρ x x') (h : aFieldAddr s x f = some v) :
    ∃ v', (Instr.fieldAt s x' f).run P w = .ok v' w ∧ VR ρ v v' := by
  unfold aFieldAddr at h
  split at h
  · rename_i k o
    cases hx with
    | @ptr _ e _ he =>
      split at h
      · rename_i fields hu
        split at h
        · rename_i fd hf
          split at h
          · rename_i n hs
            simp only [Option.some.injEq] at h
            subst h
            refine ⟨.pointer (some ⟨e.b, o + fd.offset + e.sh, none⟩), ?_, .ptr _ he⟩
            simp only [Instr.fieldAt, Sem.run_bind, run_underlying hu, Result.andThen_ok, hf, Instr.sureAddr, Sem.run_pure, fieldPlace, run_sizeOf hs]
            rw [if_neg (by omega), add_none, show o + e.sh + fd.offset = o + fd.offset + e.sh by omega]
            rfl
          · simp at h
        · simp at h
      · simp at h
  · simp at h

theorem aField_sound {s : TypeId} {x x' v : Value} {f : Nat} (hx : VR ρ x x') (h : aField s x f = some v) :
    ∃ v', (Instr.field s x' f).run P w = .ok v' w ∧ VR ρ v v' := by
  unfold aField at h
  split at h
  · rename_i cs
    cases hx with
    | agg hc =>
      split at h
      · rename_i fields hu
        split at h
        · rename_i fd hf
          obtain ⟨v', h1, h2⟩ := aPart_sound (w := w) hc h
          refine ⟨v', ?_, h2⟩
          simp only [Instr.field, Sem.run_bind, run_underlying hu, Result.andThen_ok, hf, asAgg, Sem.run_pure, h1]
        · simp at h
      · simp at h
  · simp at h

theorem inRange_spec {i : Int} {n : Nat} (h : inRange i n = true) : 0 ≤ i ∧ i < n := by
  cases i with
  | ofNat m =>
    simp only [inRange] at h
    have := Nat.le_of_ble_eq_true h
    exact ⟨Int.natCast_nonneg _, by show (m : Int) < n; omega⟩
  | negSucc m => simp [inRange] at h

theorem run_asIntOf {k : IntKind} {i : Int} : (asIntOf (.int k i)).run P w = .ok (k, i) w := rfl

theorem aIndexAddr_sound {t : TypeId} {x x' ix ix' v : Value} (hx : VR ρ x x') (hi : VR ρ ix ix') (h : aIndexAddr t x ix = some v) :
    ∃ v', (Instr.indexAt t x' ix').run P w = .ok v' w ∧ VR ρ v v' := by
  unfold aIndexAddr at h
  split at h
  · rename_i kk i
    cases hi
    split at h
    · rename_i len elem k o hu
      cases hx with
      | @ptr _ e _ he =>
        split at h
        · rename_i u hs
          cases hr : inRange i len with
          | false => simp [hr] at h
          | true =>
            simp only [hr, cond_true, Option.some.injEq] at h
            subst h
            obtain ⟨h1, h2⟩ := inRange_spec hr
            refine ⟨.pointer (some ⟨e.b, o + i.toNat * u + e.sh, none⟩), ?_, .ptr _ he⟩
            simp only [Instr.indexAt, Sem.run_bind, run_asIntOf, run_underlying hu, Result.andThen_ok, Instr.sureAddr, Sem.run_pure]
            simp only [h1, h2, and_self, Sem.run_bind, run_sizeOf hs, Result.andThen_ok, Sem.run_pure, add_none, if_pos]
            rw [show o + e.sh + i.toNat * u = o + i.toNat * u + e.sh by omega]
        · simp at h
    · rename_i elem k o len c hu
      cases hx with
      | @slice _ e _ _ _ c' he _ _ =>
        split at h
        · rename_i u hs
          cases hr : inRange i len with
          | false => simp [hr] at h
          | true =>
            simp only [hr, cond_true, Option.some.injEq] at h
            subst h
            obtain ⟨h1, h2⟩ := inRange_spec hr
            refine ⟨.pointer (some ⟨e.b, o + i.toNat * u + e.sh, none⟩), ?_, .ptr _ he⟩
            simp only [Instr.indexAt, Sem.run_bind, run_asIntOf, run_underlying hu, Result.andThen_ok, Sem.run_pure]
            simp only [h1, h2, and_self, Sem.run_bind, run_sizeOf hs, Result.andThen_ok, Sem.run_pure, add_none, if_pos]
            rw [show o + e.sh + i.toNat * u = o + i.toNat * u + e.sh by omega]
        · simp at h
      | slice0 _ _ _ he _ =>
        split at h
        · rename_i u hs
          cases hr : inRange i 0 with
          | false => simp [hr] at h
          | true => have := inRange_spec hr; omega
        · simp at h
    · simp at h
  · simp at h

theorem aIndex_sound {t : TypeId} {x x' ix ix' v : Value} (hx : VR ρ x x') (hi : VR ρ ix ix') (h : aIndex t x ix = some v) :
    ∃ v', (Instr.index t x' ix').run P w = .ok v' w ∧ VR ρ v v' := by
  unfold aIndex at h
  split at h
  · rename_i kk i
    cases hi
    split at h
    · rename_i len elem cs hu
      cases hx with
      | agg hc =>
        split at h
        · rename_i u hs
          cases hr : inRange i len with
          | false => simp [hr] at h
          | true =>
            simp only [hr, cond_true] at h
            obtain ⟨h1, h2⟩ := inRange_spec hr
            obtain ⟨v', h3, h4⟩ := aPart_sound (w := w) hc h
            refine ⟨v', ?_, h4⟩
            simp only [Instr.index, Sem.run_bind, run_asIntOf, run_underlying hu, Result.andThen_ok]
            simp only [h1, h2, and_self, if_true, Sem.run_bind, run_sizeOf hs, Result.andThen_ok, h3]
        · simp at h
    · rename_i s hu
      cases hx
      split at h
      · rename_i m
        split at h
        · rename_i b hb
          simp only [Option.some.injEq] at h
          subst h
          refine ⟨_, ?_, .int _ _⟩
          simp only [Instr.index, Sem.run_bind, run_asIntOf, run_underlying hu, Result.andThen_ok]
          have hlt : m < s.length := by
            rcases Nat.lt_or_ge m s.length with h' | h'
            · exact h'
            · simp [List.getElem?_eq_none h'] at hb
          have e1 : ((⟨⟨s⟩⟩ : ByteArray)[(Int.ofNat m).toNat]?) = some b := by
            show (⟨⟨s⟩⟩ : ByteArray)[m]? = some b
            have hsz : m < (⟨⟨s⟩⟩ : ByteArray).size := hlt
            rw [getElem?_pos (⟨⟨s⟩⟩ : ByteArray) m hsz]
            rw [List.getElem?_eq_getElem hlt] at hb
            exact hb
          have e2 : (0 : Int) ≤ Int.ofNat m := Int.natCast_nonneg _
          rw [if_pos e2, e1]
          rfl
        · simp at h
      · simp at h
    · simp at h
  · simp at h

end
end Go.Proofs.YthojmgjgmbnopaaGreatDoor
/- The evaluator is sound: slice expressions, comparisons, maps. No program is named. -/
namespace Go.Proofs.YthojmgjgmbnopaaGreatDoor
open Go Go.RowKit

theorem intEq_eq (a b : Int) : intEq a b = (a == b) := by
  cases a <;> cases b <;> simp only [intEq]
  · rename_i m n
    rw [Bool.eq_iff_iff, Nat.beq_eq, beq_iff_eq]
    exact ⟨fun h => by rw [h], fun h => Int.ofNat.inj h⟩
  · rename_i m n
    exact (beq_eq_false_iff_ne.2 (by intro h; cases h)).symm
  · exact (beq_eq_false_iff_ne.2 (by intro h; cases h)).symm
  · rename_i m n
    rw [Bool.eq_iff_iff, Nat.beq_eq, beq_iff_eq]
    exact ⟨fun h => by rw [h], fun h => Int.negSucc.inj h⟩

theorem intLt_eq (a b : Int) : intLt a b = decide (a < b) := by
  cases a <;> cases b <;> simp only [intLt]
  · rename_i m n
    rw [Bool.eq_iff_iff, decide_eq_true_iff, Int.ofNat_eq_natCast, Int.ofNat_eq_natCast]
    show Nat.ble (m + 1) n = true ↔ _
    rw [Nat.ble_eq]; omega
  · rename_i m n
    exact (decide_eq_false (by rw [Int.ofNat_eq_natCast]; have := Int.negSucc_lt_zero n; omega)).symm
  · rename_i m n
    exact (decide_eq_true (by rw [Int.ofNat_eq_natCast]; have := Int.negSucc_lt_zero m; omega)).symm
  · rename_i m n
    rw [Bool.eq_iff_iff, decide_eq_true_iff, Int.negSucc_eq, Int.negSucc_eq]
    show Nat.ble (n + 1) m = true ↔ _
    rw [Nat.ble_eq]; omega

theorem bytesEq_eq : ∀ (a b : List UInt8), bytesEq a b = (a == b)
  | [], [] => rfl
  | [], _ :: _ => rfl
  | _ :: _, [] => rfl
  | a :: x, b :: y => by
    simp only [bytesEq]
    rw [bytesEq_eq x y, List.cons_beq_cons]
    congr 1
    rw [Bool.eq_iff_iff, Nat.beq_eq, beq_iff_eq]
    exact ⟨fun h => UInt8.toNat_inj.1 h, fun h => by rw [h]⟩

theorem bytesLt_eq : ∀ (a b : List UInt8), bytesLt a b = Op.bytesLess a b
  | [], [] => rfl
  | [], _ :: _ => rfl
  | _ :: _, [] => rfl
  | a :: x, b :: y => by
    simp only [bytesLt, Op.bytesLess]
    rw [bytesLt_eq x y]
    cases h : Nat.beq a.toNat b.toNat with
    | true =>
      have : a = b := UInt8.toNat_inj.1 (Nat.eq_of_beq_eq_true h)
      subst this
      simp
    | false =>
      have hne : a ≠ b := fun e => Nat.ne_of_beq_eq_false h (by rw [e])
      have : (a == b) = false := beq_eq_false_iff_ne.2 hne
      simp only [cond_false, this, Bool.false_and, Bool.or_false]
      rw [Bool.eq_iff_iff, decide_eq_true_iff, UInt8.lt_iff_toNat_lt]
      show Nat.ble (a.toNat + 1) b.toNat = true ↔ _
      rw [Nat.ble_eq]; omega

theorem bytes_beq (a b : List UInt8) : ((⟨⟨a⟩⟩ : ByteArray) == ⟨⟨b⟩⟩) = bytesEq a b := by
  rw [bytesEq_eq]
  show ((⟨a⟩ : Array UInt8) == ⟨b⟩) = (a == b)
  simp

theorem bytes_toList (a : List UInt8) : (⟨⟨a⟩⟩ : ByteArray).toList = a := by
  rw [ByteArray.toList_eq]

inductive OptR (ρ : Rho) : Option Value → Option Value → Prop
  | none : OptR ρ none none
  | some {v v' : Value} (h : VR ρ v v') : OptR ρ (some v) (some v')

section
variable {G : Nat} {W : World} {ρ : Rho} {st : St} {w : World}

theorem aBound_run {x x' : Value} {most most' dflt m : Nat} {code : BoundsCode} (hx : VR ρ x x') (h : aBound (some x) most dflt = some m) (hm : most ≤ most') :
    (Instr.sliceBound x' most' code).run P w = .ok m w ∧ m ≤ most := by
  unfold aBound at h
  split at h
  · rename_i hx; cases hx
  · rename_i k n hx
    injection hx with hx
    subst hx
    cases ‹VR ρ _ _›
    cases hb : Nat.ble n most with
    | false => simp [hb] at h
    | true =>
      simp only [hb, cond_true, Option.some.injEq] at h
      subst h
      have := Nat.le_of_ble_eq_true hb
      refine ⟨?_, this⟩
      simp only [Instr.sliceBound, Sem.run_bind, run_asIntOf, Result.andThen_ok]
      rw [if_pos ⟨Int.natCast_nonneg _, by show (n : Int) ≤ most'; omega⟩]
      rfl
  · simp at h

theorem low_run {lo lo' : Option Value} {l h m : Nat} {code : BoundsCode} (h1 : OptR ρ lo lo') (hlo : aBound lo h 0 = some l) :
    Sem.run P (match lo' with
      | some v => do let l ← Instr.sliceBound v h code; pure (l, h, m)
      | none => do let l ← pure 0; pure (l, h, m)) w = .ok (l, h, m) w := by
  cases h1 with
  | none => simp only [aBound, Option.some.injEq] at hlo; subst hlo; rfl
  | some hv =>
    have := aBound_run (w := w) (code := code) hv hlo (Nat.le_refl _)
    simp only [Sem.run_bind, this.1, Result.andThen_ok, Sem.run_pure]

theorem aBounds_run {isSlice : Bool} {len c c' : Nat} {lo hi mx lo' hi' mx' : Option Value} {l h m : Nat} (h1 : OptR ρ lo lo') (h2 : OptR ρ hi hi') (h3 : OptR ρ mx mx')
    (hr : aBounds len c lo hi mx = some (l, h, m)) (hc : c ≤ c') (hl : len ≤ c) :
    ∃ m', (Instr.sliceBounds isSlice len c' lo' hi' mx').run P w = .ok (l, h, m') w ∧ l ≤ h ∧ h ≤ m ∧ m ≤ c ∧ (m' = m ∨ (m = c ∧ m' = c')) ∧ m ≤ m' := by
  unfold aBounds at hr
  split at hr
  · simp at hr
  · rename_i hne
    cases hm : aBound mx c c with
    | none => simp [hm] at hr
    | some m1 =>
      simp only [hm] at hr
      cases hh : aBound hi m1 len with
      | none => simp [hh] at hr
      | some h1' =>
        simp only [hh] at hr
        cases hlo : aBound lo h1' 0 with
        | none => simp [hlo] at hr
        | some l1 =>
          simp only [hlo, Option.some.injEq, Prod.mk.injEq] at hr
          obtain ⟨rfl, rfl, rfl⟩ := hr
          have low : ∀ code, (match lo' with | some v => Instr.sliceBound v h1' code | none => pure 0 : Sem Nat).run P w = .ok l1 w ∧ l1 ≤ h1' := by
            intro code
            cases h1 with
            | none => simp only [aBound, Option.some.injEq] at hlo; subst hlo; exact ⟨rfl, Nat.zero_le _⟩
            | some hv => exact aBound_run hv hlo (Nat.le_refl _)
          cases h3 with
          | none =>
            simp only [aBound, Option.some.injEq] at hm
            subst hm
            cases h2 with
            | none =>
              simp only [aBound, Option.some.injEq] at hh
              subst hh
              refine ⟨c', ?_, (low .sliceB).2, hl, Nat.le_refl _, .inr ⟨rfl, rfl⟩, hc⟩
              simp only [Instr.sliceBounds, Sem.run_bind, Sem.run_pure, Result.andThen_ok, Option.isSome_none, Bool.false_eq_true, if_false]
              exact low_run h1 hlo
            | some hv =>
              have := fun code => aBound_run (w := w) (code := code) hv hh hc
              refine ⟨c', ?_, (low .sliceB).2, (this .sliceAcap).2, Nat.le_refl _, .inr ⟨rfl, rfl⟩, hc⟩
              simp only [Instr.sliceBounds, Sem.run_bind, Result.andThen_ok, Option.isSome_none, Bool.false_eq_true, if_false, (this _).1, Sem.run_pure]
              exact low_run h1 hlo
          | some hx =>
            have hmx := fun code => aBound_run (w := w) (code := code) hx hm hc
            cases h2 with
            | none => exact absurd rfl (hne _ rfl)
            | some hv =>
              have := fun code => aBound_run (w := w) (code := code) hv hh (Nat.le_refl _)
              refine ⟨m1, ?_, (low .slice3C).2, (this .sliceAcap).2, (hmx .sliceAcap).2, .inl rfl, Nat.le_refl _⟩
              simp only [Instr.sliceBounds, Sem.run_bind, Result.andThen_ok, Option.isSome_some, if_true, (hmx _).1, (this _).1]
              exact low_run h1 hlo

end
end Go.Proofs.YthojmgjgmbnopaaGreatDoor
/- The evaluator is sound: slice expressions, type assertions, what is asked of maps. -/
namespace Go.Proofs.YthojmgjgmbnopaaGreatDoor
open Go Go.RowKit

section
variable {G : Nat} {W : World} {ρ : Rho} {st : St} {w : World}

theorem extract_mk (s : List UInt8) (l h : Nat) : (⟨⟨s⟩⟩ : ByteArray).extract l h = ⟨⟨(s.take h).drop l⟩⟩ := by
  have : ((⟨⟨s⟩⟩ : ByteArray).extract l h).data = ⟨(s.take h).drop l⟩ := by
    simp [List.extract_eq_take_drop, List.drop_take]
  cases hx : (⟨⟨s⟩⟩ : ByteArray).extract l h
  rw [hx] at this
  simp only at this
  rw [this]

theorem ble_le {a b : Nat} (h : Nat.ble a b = true) : a ≤ b := Nat.le_of_ble_eq_true h

theorem sliceAt_slice {t e : TypeId} {x : Value} {lo hi mx : Option Value} (h : P.underlying t = some (.slice e)) : (Instr.sliceAt t x lo hi mx).run P w = (Instr.slice t x lo hi mx).run P w := by
  simp only [Instr.sliceAt, Sem.run_bind, run_underlying h, Result.andThen_ok]
theorem sliceAt_string {t : TypeId} {x : Value} {lo hi mx : Option Value} (h : P.underlying t = some .string) : (Instr.sliceAt t x lo hi mx).run P w = (Instr.slice t x lo hi mx).run P w := by
  simp only [Instr.sliceAt, Sem.run_bind, run_underlying h, Result.andThen_ok]

theorem aSlice_sound (hS : Sim G W ρ st w) {t : TypeId} {x x' v : Value} {lo hi mx lo' hi' mx' : Option Value} (hx : VR ρ x x') (h1 : OptR ρ lo lo') (h2 : OptR ρ hi hi') (h3 : OptR ρ mx mx')
    (h : aSlice t x lo hi mx st = some v) : ∃ v', (Instr.sliceAt t x' lo' hi' mx').run P w = .ok v' w ∧ VR ρ v v' := by
  unfold aSlice at h
  split at h
  · rename_i s hu
    cases hx
    cases h3 with
    | some => exact nn h
    | none =>
      simp only at h
      split at h
      · rename_i l hh m hb
        cases hle : Nat.ble hh s.length with
        | false => rw [hle] at h; exact nn h
        | true =>
          rw [hle] at h
          simp only [cond_true, Option.some.injEq] at h
          subst h
          obtain ⟨m', hr, _⟩ := aBounds_run (w := w) (isSlice := false) h1 h2 .none hb (Nat.le_refl _) (Nat.le_refl _)
          refine ⟨_, ?_, .string _⟩
          rw [sliceAt_string hu]
          simp only [Instr.slice, Sem.run_bind, run_underlying hu, Result.andThen_ok, Option.isSome_none, Bool.false_eq_true, if_false]
          show ((Instr.sliceBounds false s.length s.length lo' hi' none).run P w).andThen _ = _
          rw [hr]
          simp only [Result.andThen_ok, Sem.run_pure]
          rw [extract_mk]
      · exact nn h
  · rename_i elem hu
    cases hx
    split at h
    · rename_i b n hb hs
      obtain ⟨l, hh, m⟩ := b
      simp only [Option.some.injEq] at h
      subst h
      obtain ⟨m', hr, a1, a2, a3, a4, a5⟩ := aBounds_run (w := w) (isSlice := true) h1 h2 h3 hb (Nat.le_refl _) (Nat.le_refl _)
      refine ⟨_, ?_, .nilSlice 0 0⟩
      rw [sliceAt_slice hu]
      simp only [Instr.slice, Sem.run_bind, run_underlying hu, Result.andThen_ok, hr, run_sizeOf hs, Sem.run_pure]
      obtain rfl : m = 0 := by omega
      obtain rfl : hh = 0 := by omega
      obtain rfl : l = 0 := by omega
      obtain rfl : m' = 0 := by omega
      rfl
    · exact nn h
  · rename_i elem k o len cap hu
    split at h
    · rename_i ro u c hk
      split at h
      · rename_i size hs
        cases hg : (Nat.beq size u && Nat.ble len cap) with
        | false => rw [hg] at h; exact nn h
        | true =>
          rw [hg] at h
          simp only [cond_true] at h
          rw [Bool.and_eq_true] at hg
          have hsu := Nat.eq_of_beq_eq_true hg.1
          have hlc := ble_le hg.2
          subst hsu
          split at h
          · rename_i l hh m hb
            have fin : ∀ (e : Spot) (c' : Nat) (ad : Nat), ρ k = some e → cap ≤ c' → (c' = cap ∨ ad + c' * e.u = e.sz) → (ad = o + e.sh ∨ (len = 0 ∧ cap = 0)) → size = e.u →
                ∃ v', (Instr.sliceAt t (.slice (some ⟨e.b, ad, none⟩) len c') lo' hi' mx').run P w = .ok v' w ∧ VR ρ v v' := by
              intro e c' ad he hc hz had heu
              obtain ⟨m', hr, a1, a2, a3, a4, a5⟩ := aBounds_run (w := w) (isSlice := true) h1 h2 h3 hb hc hlc
              have run : (Instr.sliceAt t (.slice (some ⟨e.b, ad, none⟩) len c') lo' hi' mx').run P w =
                  .ok (.slice (if m' = l then some ⟨e.b, ad, none⟩ else some ⟨e.b, ad + l * size, none⟩) (hh - l) (m' - l)) w := by
                rw [sliceAt_slice hu]
                simp only [Instr.slice, Sem.run_bind, run_underlying hu, Result.andThen_ok, hr, run_sizeOf hs, Sem.run_pure, Option.map_some, add_none]
              refine ⟨_, run, ?_⟩
              have hmul : (c' - l) * e.u = c' * e.u - l * e.u := Nat.sub_mul _ _ _
              have hle : l * e.u ≤ c' * e.u := Nat.mul_le_mul_right _ (by omega)
              subst heu
              cases hm : Nat.beq m l with
              | true =>
                rw [hm] at h
                simp only [cond_true, Option.some.injEq] at h
                subst h
                have := Nat.eq_of_beq_eq_true hm
                obtain rfl : hh = l := by omega
                rw [Nat.sub_self]
                split
                · rename_i hml
                  rw [hml, Nat.sub_self]
                  exact .slice0 _ _ _ he (.inl rfl)
                · rename_i hml
                  refine .slice0 _ _ _ he ?_
                  rcases a4 with rfl | ⟨rfl, rfl⟩
                  · omega
                  · rcases hz with hz | hz
                    · omega
                    · right; rw [hmul]; omega
              | false =>
                rw [hm] at h
                simp only [cond_false, Option.some.injEq] at h
                subst h
                have := Nat.ne_of_beq_eq_false hm
                rw [if_neg (by omega)]
                rcases had with rfl | ⟨rfl, rfl⟩
                · rw [show o + e.sh + l * e.u = o + l * e.u + e.sh by omega]
                  refine .slice _ _ _ _ he (by omega) ?_
                  rcases a4 with rfl | ⟨rfl, rfl⟩
                  · exact .inl rfl
                  · rcases hz with rfl | hz
                    · exact .inl rfl
                    · right; rw [hmul]; omega
                · omega
            cases hx with
            | @slice _ e _ _ _ c' he hc hz =>
              obtain ⟨ob, ho, hr, _⟩ := hS.obj k _ hk e he
              cases ob <;> simp only [ObjR] at hr
              exact fin e c' _ he hc hz (.inl rfl) hr.1
            | @slice0 _ e _ o' c' he hz =>
              obtain ⟨ob, ho, hr, _⟩ := hS.obj k _ hk e he
              cases ob <;> simp only [ObjR] at hr
              exact fin e c' o' he (Nat.zero_le _) (by rcases hz with rfl | hz; exact .inl rfl; exact .inr hz) (.inr ⟨rfl, rfl⟩) hr.1
          · exact nn h
      · exact nn h
    · exact nn h
  · rename_i n elem k o hu
    split at h
    · rename_i size hs
      split at h
      · rename_i l hh m hb
        cases hx with
        | @ptr _ e _ he =>
          obtain ⟨m', hr, a1, a2, a3, a4, a5⟩ := aBounds_run (w := w) (isSlice := false) h1 h2 h3 hb (Nat.le_refl _) (Nat.le_refl _)
          obtain rfl : m' = m := by omega
          have run : (Instr.sliceAt t (.pointer (some ⟨e.b, o + e.sh, none⟩)) lo' hi' mx').run P w =
              .ok (.slice (some (if m' = l then ⟨e.b, o + e.sh, none⟩ else ⟨e.b, o + e.sh + l * size, none⟩)) (hh - l) (m' - l)) w := by
            simp only [Instr.sliceAt, Sem.run_bind, run_underlying hu, Result.andThen_ok, Instr.sureAddr, Sem.run_pure, hr, run_sizeOf hs, add_none]
          refine ⟨_, run, ?_⟩
          cases hm : Nat.beq m' l with
          | true =>
            rw [hm] at h
            simp only [cond_true, Option.some.injEq] at h
            subst h
            rw [if_pos (Nat.eq_of_beq_eq_true hm)]
            exact .slice _ _ _ _ he (Nat.le_refl _) (.inl rfl)
          | false =>
            rw [hm] at h
            simp only [cond_false, Option.some.injEq] at h
            subst h
            rw [if_neg (Nat.ne_of_beq_eq_false hm), show o + e.sh + l * size = o + l * size + e.sh by omega]
            exact .slice _ _ _ _ he (Nat.le_refl _) (.inl rfl)
      · exact nn h
    · exact nn h
  · exact nn h

theorem isFace_true {t : TypeId} (h : isFace t = some true) : ∃ ms, P.underlying t = some (.interface ms) := by
  unfold isFace at h
  split at h
  · rename_i ms hu; exact ⟨ms, hu⟩
  · simp at h
  · exact nn h
theorem isFace_false {t : TypeId} (h : isFace t = some false) : ∃ d, P.underlying t = some d ∧ ∀ ms, d ≠ .interface ms := by
  unfold isFace at h
  split at h
  · simp at h
  · rename_i d hne hu; exact ⟨d, hu, fun ms hm => hne ms (by first | (rw [← hm]; done) | (rw [← hm]; exact hu))⟩
  · exact nn h

theorem okTuple {v v' : Value} {ok : Bool} (h : VR ρ v v') (b : Bool) : VR ρ (bif ok then .tuple ⟨[v, .bool b]⟩ else v) (if ok then .tuple #[v', .bool b] else v') := by
  cases ok
  · exact h
  · exact .tuple (.cons h (.cons (.bool b) .nil))

theorem aTypeAssert_sound {x x' v : Value} {xt t : TypeId} {ok : Bool} (hx : VR ρ x x') (h : aTypeAssert x t ok = some v) :
    ∃ v', (Instr.typeAssert x' xt t ok).run P w = .ok v' w ∧ VR ρ v v' := by
  have fails : ∀ (z : Value) (s d : Option TypeId) (m : String), aZero t = some z → ok = true → v = .tuple ⟨[z, .bool false]⟩ →
      (∃ v', ((do if ok then pure (.tuple #[← zeroValue t, .bool false]) else runtimePanic (.typeAssertion s d t m)) : Sem Value).run P w = .ok v' w ∧ VR ρ v v') := by
    intro z s d m hz hok hv
    subst hok hv
    have := run_zero (w := w) hz
    exact ⟨.tuple #[z, .bool false], by simp only [if_true, Sem.run_bind, this.1, Result.andThen_ok, Sem.run_pure], .tuple (.cons (flat_self this.2) (.cons (.bool false) .nil))⟩
  unfold aTypeAssert at h
  split at h
  · rename_i hf
    obtain ⟨ms, hu⟩ := isFace_true hf
    split at h
    · rename_i d y
      cases hx with
      | iface _ hy =>
        split at h
        · rename_i want i hw hi
          rw [hu] at hw
          have hw := TypeDesc.interface.inj (Option.some.inj hw)
          subst hw
          split at h
          · rename_i hm
            simp only [Option.some.injEq] at h
            subst h
            refine ⟨_, ?_, okTuple (.iface d hy) true⟩
            simp only [Instr.typeAssert, Sem.run_bind, run_underlying hu, run_typeInfo hi, Result.andThen_ok, hm, Sem.run_pure]
          · rename_i m hm
            cases ok with
            | false => exact nn h
            | true =>
              simp only [cond_true] at h
              cases hz : aZero t with
              | none => rw [hz] at h; exact nn h
              | some z =>
                rw [hz] at h
                simp only [Option.some.injEq] at h
                obtain ⟨v', h1, h2⟩ := fails z none (some d) m hz rfl h.symm
                refine ⟨v', ?_, h2⟩
                rw [← h1]
                simp only [Instr.typeAssert, Sem.run_bind, run_underlying hu, run_typeInfo hi, Result.andThen_ok, hm]
        · exact nn h
    · cases hx
      cases ok with
      | false => exact nn h
      | true =>
        simp only [cond_true] at h
        cases hz : aZero t with
        | none => rw [hz] at h; exact nn h
        | some z =>
          rw [hz] at h
          simp only [Option.some.injEq] at h
          obtain ⟨v', h1, h2⟩ := fails z none none "" hz rfl h.symm
          refine ⟨v', ?_, h2⟩
          rw [← h1]
          simp only [Instr.typeAssert, Sem.run_bind, run_underlying hu, Result.andThen_ok]
    · exact nn h
  · rename_i hf
    obtain ⟨d, hu, hd⟩ := isFace_false hf
    split at h
    · rename_i tx y
      cases hx with
      | @iface _ _ y' hy =>
        have run : (Instr.typeAssert (.iface tx y') xt t ok).run P w = (if tx = t then (pure (if ok then .tuple #[y', .bool true] else y') : Sem Value)
            else do if ok then pure (.tuple #[← zeroValue t, .bool false]) else runtimePanic (.typeAssertion (some xt) (some tx) t "") : Sem Value).run P w := by
          simp only [Instr.typeAssert, Sem.run_bind, run_underlying hu, Result.andThen_ok]
        cases hb : Nat.beq tx t with
        | true =>
          rw [hb] at h
          simp only [cond_true, Option.some.injEq] at h
          subst h
          have := Nat.eq_of_beq_eq_true hb
          refine ⟨_, ?_, okTuple hy true⟩
          rw [run, if_pos this, Sem.run_pure]
        | false =>
          rw [hb] at h
          simp only [cond_false] at h
          have := Nat.ne_of_beq_eq_false hb
          rw [run, if_neg this]
          cases ok with
          | false => exact nn h
          | true =>
            simp only [cond_true] at h
            cases hz : aZero t with
            | none => rw [hz] at h; exact nn h
            | some z =>
              rw [hz] at h
              simp only [Option.some.injEq] at h
              exact fails z _ _ _ hz rfl h.symm
    · cases hx
      cases ok with
      | false => exact nn h
      | true =>
        simp only [cond_true] at h
        cases hz : aZero t with
        | none => rw [hz] at h; exact nn h
        | some z =>
          rw [hz] at h
          simp only [Option.some.injEq] at h
          obtain ⟨v', h1, h2⟩ := fails z (some xt) none "" hz rfl h.symm
          refine ⟨v', ?_, h2⟩
          rw [← h1]
          simp only [Instr.typeAssert, Sem.run_bind, run_underlying hu, Result.andThen_ok]
    · exact nn h
  · exact nn h

end
end Go.Proofs.YthojmgjgmbnopaaGreatDoor
/- The evaluator is sound: comparisons and arithmetic. -/
namespace Go.Proofs.YthojmgjgmbnopaaGreatDoor
open Go Go.RowKit

theorem kindNo_inj {k k' : IntKind} (h : Nat.beq (kindNo k) (kindNo k') = true) : k = k' := by
  cases k <;> cases k' <;> first | rfl | (exact absurd h (by decide))

theorem wr_eq (n : Int) (k : IntKind) : wr n k = k.wrap n := by
  have pos : ∀ m : Nat, fit k m = true → k.wrap (.ofNat m) = .ofNat m := by
    intro m h
    cases k <;> simp only [fit] at h <;> first | (exact absurd h (by decide)) | skip
    · have := Nat.le_of_ble_eq_true h
      exact Go.IntWalk.i64_in _ (by rw [Int.ofNat_eq_natCast]; omega)
    · have := Nat.le_of_ble_eq_true h
      exact Go.IntWalk.u8_in _ (by rw [Int.ofNat_eq_natCast]; omega)
    · have := Nat.le_of_ble_eq_true h
      exact Go.IntWalk.u32_in _ (by rw [Int.ofNat_eq_natCast]; omega)
    · have := Nat.le_of_ble_eq_true h
      exact Go.IntWalk.u64_in _ (by rw [Int.ofNat_eq_natCast]; omega)
  have neg : ∀ m : Nat, fitNeg k m = true → k.wrap (.negSucc m) = .negSucc m := by
    intro m h
    cases k <;> simp only [fitNeg] at h <;> first | (exact absurd h (by decide)) | skip
    have := Nat.le_of_ble_eq_true h
    exact Go.IntWalk.i64_in _ (by rw [Int.negSucc_eq]; omega)
  cases n with
  | ofNat m =>
    show (bif fit k m then Int.ofNat m else k.wrap (.ofNat m)) = _
    cases h : fit k m
    · rfl
    · exact (pos m h).symm
  | negSucc m =>
    show (bif fitNeg k m then Int.negSucc m else k.wrap (.negSucc m)) = _
    cases h : fitNeg k m
    · rfl
    · exact (neg m h).symm

theorem intSub_eq (a b : Int) : intSub a b = a - b := by
  cases a with
  | ofNat m =>
    cases b with
    | ofNat n =>
      show (bif Nat.ble n m then Int.ofNat (Nat.sub m n) else Int.negSucc (Nat.sub (Nat.sub n m) 1)) = _
      cases h : Nat.ble n m
      · have : ¬ n ≤ m := fun hh => by rw [Nat.ble_eq_true_of_le hh] at h; cases h
        show Int.negSucc (n - m - 1) = Int.ofNat m - Int.ofNat n
        rw [Int.negSucc_eq, Int.ofNat_eq_natCast, Int.ofNat_eq_natCast]; omega
      · have := Nat.le_of_ble_eq_true h
        show Int.ofNat (m - n) = Int.ofNat m - Int.ofNat n
        rw [Int.ofNat_eq_natCast, Int.ofNat_eq_natCast, Int.ofNat_eq_natCast]; omega
    | negSucc n => rfl
  | negSucc m => rfl

section
variable {G : Nat} {W : World} {ρ : Rho} {st : St} {w : World}

theorem not_lt_dec (a b : Int) : (!decide (b < a)) = decide (a ≤ b) := by
  rw [Bool.eq_iff_iff, Bool.not_eq_true', decide_eq_false_iff_not, decide_eq_true_iff]; omega

theorem aIntOp_run {op : BinOp} {k : IntKind} {a b : Int} {v : Value} {t : TypeId} (h : aIntOp op k a b = some v) : (binOp op t (.int k a) (.int k b)).run P w = .ok v w ∧ VR ρ v v := by
  have hn : ¬ (k ≠ k) := fun h => h rfl
  cases op <;> first
    | exact nn h
    | (cases (Option.some.inj h); refine ⟨?_, by constructor⟩; simp only [binOp, if_neg hn, Op.intArith, Op.intCmp, Sem.run_pure, wr_eq, intSub_eq, intEq_eq, intLt_eq, not_lt_dec, bne]; try rfl)

theorem aTextOp_run {op : BinOp} {a b : List UInt8} {v : Value} {t : TypeId} (h : aTextOp op a b = some v) : (binOp op t (.string ⟨⟨a⟩⟩) (.string ⟨⟨b⟩⟩)).run P w = .ok v w ∧ VR ρ v v := by
  cases op <;> first
    | exact nn h
    | skip
  · have h : (bif Nat.ble (Nat.add a.length b.length) 9223372036854775807 then some (Value.string ⟨⟨a ++ b⟩⟩) else none) = some v := h
    cases hb : Nat.ble (Nat.add a.length b.length) 9223372036854775807 with
    | false => rw [hb] at h; exact nn h
    | true =>
      rw [hb] at h
      cases (Option.some.inj h)
      have := Nat.le_of_ble_eq_true hb
      refine ⟨?_, .string _⟩
      simp only [binOp, Op.stringOp]
      rw [if_neg]
      · rw [Sem.run_pure]
        congr 2
      · show ¬ (((a.length + b.length : Nat) : Int) > IntKind.i64.max)
        have e : IntKind.i64.max = 9223372036854775807 := by decide
        rw [e]
        have : Nat.add a.length b.length = a.length + b.length := rfl
        omega
  all_goals
    cases (Option.some.inj h)
    refine ⟨?_, by constructor⟩
    simp only [binOp, Op.stringOp, Sem.run_pure, bytes_toList, bytesEq_eq, bytesLt_eq]

theorem guard_free {op : BinOp} {t : TypeId} {a b : Operand} {x y : Value} (h1 : ¬ (x = .nilIface ∧ y = .nilIface)) (h2 : ∀ c d, ¬ (x = .agg c ∧ y = .agg d)) : (eqGuard op t a b x y).run P w = .ok () w := by
  unfold eqGuard
  cases op <;> first
    | exact Sem.run_pure P w ()
    | (rw [if_neg (by decide)]
       split
       · exact absurd ⟨rfl, rfl⟩ h1
       · exact absurd ⟨rfl, rfl⟩ (h2 _ _)
       · exact Sem.run_pure P w ())

theorem aArith_run {op : BinOp} {t : TypeId} {a b : Operand} {x x' y y' v : Value} (hx : VR ρ x x') (hy : VR ρ y y') (h : aArith x y op = some v) :
    (do eqGuard op t a b x' y'; binOp op t x' y' : Sem Value).run P w = .ok v w ∧ VR ρ v v := by
  rcases x with _ | ⟨k, n⟩ | _ | _ | ⟨⟨⟨s⟩⟩⟩ | _ | _ | _ | _ | _ | _ | _ | _ | _ | _ <;> try exact nn h
  · rcases y with _ | ⟨k', m⟩ | _ | _ | _ | _ | _ | _ | _ | _ | _ | _ | _ | _ | _ <;> try exact nn h
    cases hx
    cases hy
    replace h : (bif Nat.beq (kindNo k) (kindNo k') then aIntOp op k n m else none) = some v := h
    cases hk : Nat.beq (kindNo k) (kindNo k') with
    | false => rw [hk] at h; exact nn h
    | true =>
      rw [hk] at h
      cases kindNo_inj hk
      have := aIntOp_run (ρ := ρ) (w := w) (t := t) h
      rw [Sem.run_bind, guard_free (by rintro ⟨h, -⟩; cases h) (by rintro c d ⟨h, -⟩; cases h), Result.andThen_ok]
      exact this
  · rcases y with _ | _ | _ | _ | ⟨⟨⟨r⟩⟩⟩ | _ | _ | _ | _ | _ | _ | _ | _ | _ | _ <;> try exact nn h
    cases hx
    cases hy
    replace h : aTextOp op s r = some v := h
    have := aTextOp_run (ρ := ρ) (w := w) (t := t) h
    rw [Sem.run_bind, guard_free (by rintro ⟨h, -⟩; cases h) (by rintro c d ⟨h, -⟩; cases h), Result.andThen_ok]
    exact this

/-- The values that '==' asks after their type. -/
def Eqable : Value → Prop
  | .pointer _ | .slice _ _ _ | .map _ | .func _ _ _ | .nilFunc | .iface _ _ | .nilIface => True
  | _ => False

theorem binOp_eql {t : TypeId} {x y : Value} (hx : Eqable x) (hy : Eqable y) : binOp .eql t x y = (do pure (.bool (← Op.equal t x y))) := by
  cases x <;> first | exact hx.elim | (cases y <;> first | exact hy.elim | rfl)
theorem binOp_neq {t : TypeId} {x y : Value} (hx : Eqable x) (hy : Eqable y) : binOp .neq t x y = (do pure (.bool (!(← Op.equal t x y)))) := by
  cases x <;> first | exact hx.elim | (cases y <;> first | exact hy.elim | rfl)

theorem notIface {a b : Value} (h : a ≠ .nilIface ∨ b ≠ .nilIface) : ¬ (a = .nilIface ∧ b = .nilIface) := by
  rintro ⟨p, q⟩
  rcases h with h | h
  · exact h p
  · exact h q
theorem notAgg {a b : Value} (h : ∀ c, a ≠ .agg c) (c d : Array Value) : ¬ (a = .agg c ∧ b = .agg d) := fun p => h c p.1

theorem equal_unfold (t : TypeId) (x y : Value) : Op.equal t x y = Op.equalIn (9999 + 1) t x y := rfl

theorem aEq_run {t : TypeId} {x x' y y' : Value} {r : Bool} (hx : VR ρ x x') (hy : VR ρ y y') (h : aEq t x y = some r) :
    (Op.equal t x' y').run P w = .ok r w ∧ ¬ (x' = .nilIface ∧ y' = .nilIface) ∧ (∀ c d, ¬ (x' = .agg c ∧ y' = .agg d)) ∧ Eqable x' ∧ Eqable y' := by
  unfold aEq at h
  cases hu : P.underlying t with
  | none => rw [hu] at h; exact nn h
  | some d =>
    rw [hu] at h
    simp only at h
    rw [equal_unfold, Op.equalIn]
    simp only [Sem.run_bind, run_underlying hu, Result.andThen_ok]
    cases hn : nilable d x y with
    | some b =>
      rw [hn] at h
      simp only [Option.some.injEq] at h
      subst h
      unfold nilable at hn
      split at hn <;> first
        | exact nn hn
        | (cases hx <;> cases hy <;> (cases (Option.some.inj hn); refine ⟨rfl, notIface ?_, notAgg (fun c h => by cases h), trivial, trivial⟩; first | (left; intro h; cases h; done) | (right; intro h; cases h; done)))
    | none =>
      rw [hn] at h
      simp only at h
      split at h
      · rename_i elem k o k' o'
        split at h
        · rename_i n hs
          cases hk : Nat.beq k k' with
          | false => rw [hk] at h; exact nn h
          | true =>
            rw [hk] at h
            simp only [cond_true, Option.some.injEq] at h
            subst h
            cases Nat.eq_of_beq_eq_true hk
            cases hx with
            | @ptr _ e _ he =>
              cases hy with
              | @ptr _ e' _ he' =>
                rw [he] at he'
                cases he'
                refine ⟨?_, notIface (.inl (by intro h; cases h)), notAgg (fun c h => by cases h), trivial, trivial⟩
                have eq : ((⟨e.b, o + e.sh, none⟩ : Addr) == ⟨e.b, o' + e.sh, none⟩) = Nat.beq o o' := by
                  rw [Bool.eq_iff_iff, beq_iff_eq, Nat.beq_eq]
                  constructor
                  · intro h; exact Nat.add_right_cancel (congrArg Addr.off h)
                  · rintro rfl; rfl
                simp only [Sem.run_bind, run_sizeOf hs, Result.andThen_ok]
                have hne : n.succ ≠ 0 := Nat.succ_ne_zero n
                rw [if_pos hne]
                unfold sameAddr
                rw [if_pos (beq_self_eq_true e.b), eq]
                exact Sem.run_pure P w _
        · exact nn h
      · rename_i ms tx vx ty vy
        cases hk : Nat.beq tx ty with
        | true => rw [hk] at h; exact nn h
        | false =>
          rw [hk] at h
          simp only [cond_false, Option.some.injEq] at h
          subst h
          cases hx
          cases hy
          refine ⟨?_, notIface (.inl (by intro h; cases h)), notAgg (fun c h => by cases h), trivial, trivial⟩
          simp only
          rw [if_pos (Nat.ne_of_beq_eq_false hk)]
          exact Sem.run_pure P w false
      · exact nn h

end
end Go.Proofs.YthojmgjgmbnopaaGreatDoor
/- The evaluator is sound: all operations that only look. -/
namespace Go.Proofs.YthojmgjgmbnopaaGreatDoor
open Go Go.RowKit

section
variable {G : Nat} {W : World} {ρ : Rho} {st : St} {w : World}

theorem aOther_run {op : BinOp} {t : TypeId} {a b : Operand} {x x' y y' v : Value} (hx : VR ρ x x') (hy : VR ρ y y') (h : aOther op t a b x y = some v) :
    (do eqGuard op t a b x' y'; binOp op t x' y' : Sem Value).run P w = .ok v w ∧ VR ρ v v := by
  unfold aOther at h
  cases hf : (flat x && flat y) with
  | false => rw [hf] at h; exact nn h
  | true =>
    rw [hf] at h
    simp only [cond_true] at h
    rw [Bool.and_eq_true] at hf
    rw [flat_eq hf.1 hx, flat_eq hf.2 hy]
    split at h
    · rename_i r hq
      cases hr : flat r with
      | false => rw [hr] at h; exact nn h
      | true =>
        rw [hr] at h
        simp only [cond_true, Option.some.injEq] at h
        subst h
        exact ⟨quick_run hq w, flat_self hr⟩
    · exact nn h

theorem aBin_run {op : BinOp} {t : TypeId} {a b : Operand} {x x' y y' v : Value} (hx : VR ρ x x') (hy : VR ρ y y') (h : aBin op t a b x y = some v) :
    (do eqGuard op t a b x' y'; binOp op t x' y' : Sem Value).run P w = .ok v w ∧ VR ρ v v := by
  have key : aBinOr (aArith x y op) op t a b x y = some v := h
  cases ha : aArith x y op with
  | some u =>
    rw [ha] at key
    have : some u = some v := key
    cases (Option.some.inj this)
    exact aArith_run hx hy ha
  | none =>
    rw [ha] at key
    have eqs : ∀ (eq : Bool) (r : Option Bool), aEqOr r eq op t a b x y = some v → aEq t x y = r → ((op = .eql ∧ eq = true) ∨ (op = .neq ∧ eq = false)) →
        (do eqGuard op t a b x' y'; binOp op t x' y' : Sem Value).run P w = .ok v w ∧ VR ρ v v := by
      intro eq r hr hq hop
      cases r with
      | none => exact aOther_run hx hy hr
      | some r =>
        have : some (Value.bool (bif eq then r else !r)) = some v := hr
        cases (Option.some.inj this)
        obtain ⟨h1, h2, h3, h4, h5⟩ := aEq_run (w := w) hx hy hq
        refine ⟨?_, .bool _⟩
        rw [Sem.run_bind, guard_free h2 h3, Result.andThen_ok]
        rcases hop with ⟨rfl, rfl⟩ | ⟨rfl, rfl⟩
        · rw [binOp_eql h4 h5, Sem.run_bind, h1, Result.andThen_ok, Sem.run_pure]
          rfl
        · rw [binOp_neq h4 h5, Sem.run_bind, h1, Result.andThen_ok, Sem.run_pure]
          rfl
    cases op
    case eql => exact eqs true (aEq t x y) key rfl (.inl ⟨rfl, rfl⟩)
    case neq => exact eqs false (aEq t x y) key rfl (.inr ⟨rfl, rfl⟩)
    all_goals exact aOther_run hx hy key

theorem aUn_run {op : UnOp} {x x' v : Value} (hx : VR ρ x x') (h : aUn op x = some v) : (Op.unary op x').run P w = .ok v w ∧ VR ρ v v := by
  unfold aUn at h
  split at h
  · cases hx
    cases (Option.some.inj h)
    exact ⟨Sem.run_pure P w _, .bool _⟩
  · cases hf : flat x with
    | false => rw [hf] at h; exact nn h
    | true =>
      rw [hf] at h
      simp only [cond_true] at h
      rw [flat_eq hf hx]
      cases hq : quick P (Op.unary op x) with
      | none => rw [hq] at h; exact nn h
      | some r =>
        rw [hq] at h
        simp only [Option.bind_some] at h
        cases hr : flat r with
        | false => rw [hr] at h; exact nn h
        | true =>
          rw [hr] at h
          simp only [cond_true, Option.some.injEq] at h
          subst h
          exact ⟨quick_run hq w, flat_self hr⟩

theorem plain_check {d : TypeDesc} {t : TypeId} {k : Value} {e : Bool} (hu : P.underlying t = some d) (h : plainKey d k = true) : (Instr.checkKey e 10000 t k).run P w = .ok () w := by
  rw [show (10000 : Nat) = 9999 + 1 from rfl, Instr.checkKey]
  simp only [Sem.run_bind, run_underlying hu, Result.andThen_ok]
  unfold plainKey at h
  split at h <;> first | exact Sem.run_pure P w () | (cases h)

theorem keyEq_same {d : TypeDesc} {k a : Value} {r : Bool} (h : keyEq d k a = some r) : Instr.sameNow d k a = some r := by
  unfold keyEq at h
  split at h
  · split at h
    · rename_i hk; simp only [Instr.sameNow, if_pos hk]; rw [← h, intEq_eq]
    · exact nn h
  · simp only [Instr.sameNow]; rw [← h, bytes_beq]
  · simp only [Instr.sameNow]; exact h
  · exact nn h

theorem keyEq_true {d : TypeDesc} {k a : Value} (h : keyEq d k a = some true) : k = a := by
  unfold keyEq at h
  split at h
  · split at h
    · rename_i hk
      subst hk
      rw [intEq_eq, Option.some.injEq, beq_iff_eq] at h
      rw [h]
    · exact nn h
  · rw [bytesEq_eq, Option.some.injEq, beq_iff_eq] at h
    rw [h]
  · simp only [Option.some.injEq, beq_iff_eq] at h
    rw [h]
  · exact nn h

/-- What is found, and where. -/
theorem aFind_run {d : TypeDesc} {k : Value} : ∀ {es es' : List MapEntry}, EntsR ρ es es' → ∀ {i : Nat} {r : Option (Nat × Value)}, aFind d k es i = some r →
    (r = none ∧ Instr.findNow d k es' i = some none) ∨
    ∃ j e e', r = some (i + j, e.val) ∧ es[j]? = some e ∧ es'[j]? = some e' ∧ EntR ρ e e' ∧ e.key = k ∧ Instr.findNow d k es' i = some (some (i + j, e'.val))
  | _, _, .nil, i, r, h => .inl ⟨(Option.some.inj h).symm, rfl⟩
  | _, _, @EntsR.cons _ e e' l l' he hl, i, r, h => by
    have h : (match keyEq d k e.key with | some true => some (some (i, e.val)) | some false => aFind d k l (i + 1) | none => none) = some r := h
    have hf : Instr.findNow d k (e' :: l') i = (match Instr.sameNow d k e'.key with | some true => some (some (i, e'.val)) | some false => Instr.findNow d k l' (i + 1) | none => none) := rfl
    cases hk : keyEq d k e.key with
    | none => rw [hk] at h; exact nn h
    | some b =>
      rw [hk] at h
      have hs := keyEq_same hk
      rw [← he.key] at hs
      rw [hs] at hf
      cases b with
      | true =>
        right
        refine ⟨0, e, e', (Option.some.inj h).symm, by simp, by simp, he, (keyEq_true hk).symm, hf⟩
      | false =>
        rcases aFind_run hl h with ⟨h1, h2⟩ | ⟨j, f, f', h1, h2, h3, h4, h5, h6⟩
        · exact .inl ⟨h1, hf.trans h2⟩
        · right
          exact ⟨j + 1, f, f', by rw [h1, show i + 1 + j = i + (j + 1) by omega], by simpa using h2, by simpa using h3, h4, h5, by rw [hf, show i + (j + 1) = i + 1 + j by omega]; exact h6⟩

theorem findKey_run {t : TypeId} {d : TypeDesc} {k : Value} {es : List MapEntry} {r : Option (Nat × Value)} (hu : P.underlying t = some d) (h : Instr.findNow d k es 0 = some r) :
    (Instr.findKey t k es).run P w = .ok r w := by
  simp only [Instr.findKey, Sem.run_bind, run_underlying hu, Result.andThen_ok, h, Sem.run_pure]

/-- A map's entries in the world. -/
theorem aEntries_run (hS : Sim G W ρ st w) {x x' : Value} {es : List MapEntry} (hx : VR ρ x x') (h : aEntries x st = some es) :
    (x' = .map none ∧ es = []) ∨ ∃ r e es' clock, x = .map (some r) ∧ x' = .map (some e.b) ∧ ρ r = some e ∧ st.heap.get r = some (.map es clock) ∧ w.heap[e.b]? = some (.map es' clock) ∧ EntsR ρ es es'.toList := by
  unfold aEntries at h
  split at h
  · cases hx
    exact .inl ⟨rfl, (Option.some.inj h).symm⟩
  · rename_i r
    cases hx with
    | @map _ e he =>
      split at h
      · rename_i es0 clock hk
        cases (Option.some.inj h)
        obtain ⟨o, h1, h2, _⟩ := hS.obj r _ hk e he
        cases o <;> simp only [ObjR] at h2
        rename_i es' clock'
        obtain ⟨h3, rfl⟩ := h2
        exact .inr ⟨r, e, es', clock', rfl, rfl, he, hk, h1, h3⟩
      · exact nn h
  · exact nn h

theorem run_getMap {b : Nat} {es : Array MapEntry} {clock : Nat} (h : w.heap[b]? = some (.map es clock)) : (getObj b).run P w = .ok (.map es clock) w := by
  simp only [getObj, Sem.run, h]

theorem aLookup_run (hS : Sim G W ρ st w) {t : TypeId} {x x' ix ix' v : Value} {ok : Bool} (hx : VR ρ x x') (hi : VR ρ ix ix') (h : aLookup t x ix ok st = some v) :
    ∃ v', (Instr.lookup t x' ix' ok).run P w = .ok v' w ∧ VR ρ v v' := by
  unfold aLookup at h
  split at h
  · rename_i key elem hu
    split at h
    · rename_i d hd
      cases hp : plainKey d ix with
      | false => rw [hp] at h; exact nn h
      | true =>
        rw [hp] at h
        simp only [cond_true] at h
        have hix : ix' = ix := flat_eq (by unfold plainKey at hp; split at hp <;> first | rfl | cases hp) hi
        subst hix
        cases hes : aEntries x st with
        | none => rw [hes] at h; exact nn h
        | some es =>
          rw [hes] at h
          simp only at h
          have main : ∀ (es' : Array MapEntry), EntsR ρ es es'.toList →
              (∀ p, Instr.findNow d ix' es'.toList 0 = some (some p) → (Instr.lookup t x' ix' ok).run P w = .ok (if ok then .tuple #[p.2, .bool true] else p.2) w) →
              (Instr.findNow d ix' es'.toList 0 = some none → ∀ z, (zeroValue elem).run P w = .ok z w → (Instr.lookup t x' ix' ok).run P w = .ok (if ok then .tuple #[z, .bool false] else z) w) →
              ∃ v', (Instr.lookup t x' ix' ok).run P w = .ok v' w ∧ VR ρ v v' := by
            intro es' her run1 run2
            cases hf : aFind d ix' es 0 with
            | none => rw [hf] at h; exact nn h
            | some r =>
              rw [hf] at h
              rcases aFind_run her hf with ⟨rfl, h2⟩ | ⟨j, e, e', rfl, h2, h3, h4, h5, h6⟩
              · simp only at h
                cases hz : aZero elem with
                | none => rw [hz] at h; exact nn h
                | some z =>
                  rw [hz] at h
                  cases (Option.some.inj h)
                  have hz := run_zero (w := w) hz
                  exact ⟨_, run2 h2 z hz.1, okTuple (flat_self hz.2) false⟩
              · cases (Option.some.inj h)
                exact ⟨_, run1 (0 + j, e'.val) h6, okTuple h4.val true⟩
          rcases aEntries_run hS hx hes with ⟨rfl, rfl⟩ | ⟨r, e, es', clock, rfl, rfl, h1, h2, h3, h4⟩
          · refine main #[] .nil (fun p hr => ?_) (fun hr z hz => ?_)
            · simp only [Instr.lookup, Sem.run_bind, run_underlying hu, Result.andThen_ok, Sem.run_pure, plain_check hd hp, findKey_run hd hr]
            · simp only [Instr.lookup, Sem.run_bind, run_underlying hu, Result.andThen_ok, Sem.run_pure, plain_check hd hp, findKey_run hd hr, hz]
          · refine main es' h4 (fun p hr => ?_) (fun hr z hz => ?_)
            · simp only [Instr.lookup, Sem.run_bind, run_underlying hu, Result.andThen_ok, Sem.run_pure, run_getMap h3, plain_check hd hp, findKey_run hd hr]
            · simp only [Instr.lookup, Sem.run_bind, run_underlying hu, Result.andThen_ok, Sem.run_pure, run_getMap h3, plain_check hd hp, findKey_run hd hr, hz]
    · exact nn h
  · exact nn h

end
end Go.Proofs.YthojmgjgmbnopaaGreatDoor
/- The evaluator is sound: what only looks, all together. -/
namespace Go.Proofs.YthojmgjgmbnopaaGreatDoor
open Go Go.RowKit

section
variable {G : Nat} {W : World} {ρ : Rho} {st : St} {w : World}

theorem bytes_of : ∀ {l : List Value} {s : List UInt8}, l.mapM (fun v => match v with | .int .u8 m => some (UInt8.ofNat m.toNat) | _ => none) = some s →
    ∃ ns : List Int, l = ns.map (Value.int .u8) ∧ s = ns.map fun n => UInt8.ofNat n.toNat := by
  intro l
  induction l with
  | nil =>
    intro s h
    simp only [List.mapM_nil] at h
    cases h
    exact ⟨[], rfl, rfl⟩
  | cons x l ih =>
    intro s h
    rw [List.mapM_cons] at h
    cases hx : (match x with | .int .u8 m => some (UInt8.ofNat m.toNat) | _ => (none : Option UInt8)) with
    | none => rw [hx] at h; exact nn h
    | some b =>
      rw [hx] at h
      cases hr : l.mapM (fun v => match v with | .int .u8 m => some (UInt8.ofNat m.toNat) | _ => (none : Option UInt8)) with
      | none => rw [hr] at h; exact nn h
      | some r =>
        rw [hr] at h
        have : some (b :: r) = some s := h
        cases (Option.some.inj this)
        obtain ⟨ns, h1, h2⟩ := ih hr
        split at hx
        · rename_i m
          cases (Option.some.inj hx)
          exact ⟨m :: ns, by rw [h1]; rfl, by rw [h2]; rfl⟩
        · exact nn hx

theorem push_all : ∀ (ns : List Int) (s : List UInt8), ns.foldl (fun (r : ByteArray) n => r.push (UInt8.ofNat n.toNat)) ⟨⟨s⟩⟩ = ⟨⟨s ++ ns.map fun n => UInt8.ofNat n.toNat⟩⟩
  | [], s => by simp
  | n :: ns, s => by
    have e : ByteArray.push ⟨⟨s⟩⟩ (UInt8.ofNat n.toNat) = ⟨⟨s ++ [UInt8.ofNat n.toNat]⟩⟩ := by
      simp [ByteArray.push]
    rw [List.foldl_cons, e, push_all ns]
    simp

theorem ints_flat {ns : List Int} {l' : List Value} (h : VRs ρ (ns.map (Value.int .u8)) l') : l' = ns.map (Value.int .u8) := by
  induction ns generalizing l' with
  | nil => cases h; rfl
  | cons n ns ih =>
    cases h with
    | cons a b => cases a; rw [ih b]; rfl

theorem aConvert_run (hS : Sim G W ρ st w) {src dst : TypeId} {x x' v : Value} (hx : VR ρ x x') (h : aConvert src dst x st = some v) :
    ∃ v', (convert src dst x').run P w = .ok v' w ∧ VR ρ v v' := by
  unfold aConvert at h
  split at h
  · cases hx
    split at h
    · rename_i e hs hd
      split at h
      · rename_i he
        cases (Option.some.inj h)
        refine ⟨_, ?_, .string _⟩
        rw [run_convert_bytes_string w src dst e none 0 0 hs he hd]
        exact Sem.run_pure P w _
      · exact nn h
    · exact nn h
  · rename_i k o n cp
    split at h
    · rename_i e hs hd
      split at h
      · rename_i ro u c he hk
        cases hl : cellsFrom c o n with
        | none => rw [hl] at h; exact nn h
        | some l =>
          rw [hl] at h
          simp only at h
          split at h
          · rename_i s hm
            cases (Option.some.inj h)
            obtain ⟨ns, rfl, rfl⟩ := bytes_of hm
            have fin : ∀ (ad : Addr) (c' : Nat), (loadCells ad n).run P w = .ok (ns.map (Value.int .u8)).toArray w →
                ∃ v', (convert src dst (.slice (some ad) n c')).run P w = .ok v' w ∧ VR ρ (.string ⟨⟨ns.map fun n => UInt8.ofNat n.toNat⟩⟩) v' := by
              intro ad c' hr
              refine ⟨_, ?_, .string _⟩
              rw [run_convert_bytes_string w src dst e (some ad) n c' hs he hd, run_bytesToString w ad n c' ns hr]
              rw [show ByteArray.empty = ⟨⟨[]⟩⟩ from rfl, push_all, List.nil_append]
            cases hx with
            | @slice _ f _ _ _ c' hf _ _ =>
              obtain ⟨l', h1, h2⟩ := hS.loadCells (P := P) hk hf hl
              rw [ints_flat h2] at h1
              exact fin _ _ h1
            | @slice0 _ f _ o' c' hf _ =>
              simp only [cellsFrom, Option.some.injEq] at hl
              have : ns = [] := by cases ns with | nil => rfl | cons => simp at hl
              subst this
              exact fin _ _ (by simp [loadCells, loadCellsFrom])
          · exact nn h
      · exact nn h
    · exact nn h
  · cases hf : flat x with
    | false => rw [hf] at h; exact nn h
    | true =>
      rw [hf] at h
      simp only [cond_true] at h
      rw [flat_eq hf hx]
      split at h
      · rename_i r hq
        cases hr : flat r with
        | false => rw [hr] at h; exact nn h
        | true =>
          rw [hr] at h
          cases (Option.some.inj h)
          exact ⟨_, quick_run hq w, flat_self hr⟩
      · exact nn h

theorem EntsR.length : ∀ {l l' : List MapEntry}, EntsR ρ l l' → l'.length = l.length
  | _, _, .nil => rfl
  | _, _, .cons _ k => by simp [k.length]

theorem aLen_run (hS : Sim G W ρ st w) {t : TypeId} {x x' v : Value} {ts : List TypeId} {vs : List Value} {ty : TypeId} (hx : VR ρ x x') (h : aLen t x st = some v) :
    ∃ v', (Builtin.len_ ⟨t :: ts⟩ ty ⟨x' :: vs⟩).run P w = .ok v' w ∧ VR ρ v v' := by
  have e1 : (⟨t :: ts⟩ : Array TypeId)[0]? = some t := rfl
  have e2 : (⟨x' :: vs⟩ : Array Value)[0]? = some x' := rfl
  unfold aLen at h
  split at h
  · rename_i s hu
    cases hx
    cases (Option.some.inj h)
    exact ⟨_, by simp only [Builtin.len_, e1, e2, Sem.run_bind, run_underlying hu, Result.andThen_ok, Sem.run_pure]; rfl, .int _ _⟩
  · rename_i n el hu
    cases (Option.some.inj h)
    exact ⟨_, by simp only [Builtin.len_, e1, e2, Sem.run_bind, run_underlying hu, Result.andThen_ok, Sem.run_pure]; rfl, .int _ _⟩
  · rename_i el a n c hu
    cases (Option.some.inj h)
    have : ∃ a' c', x' = .slice a' n c' := by cases hx <;> exact ⟨_, _, rfl⟩
    obtain ⟨a', c', rfl⟩ := this
    exact ⟨_, by simp only [Builtin.len_, e1, e2, Sem.run_bind, run_underlying hu, Result.andThen_ok, Sem.run_pure]; rfl, .int _ _⟩
  · rename_i x0 _ _ k el hu
    cases hes : aEntries x0 st with
    | none => rw [hes] at h; exact nn h
    | some es =>
      rw [hes] at h
      cases (Option.some.inj h)
      rcases aEntries_run hS hx hes with ⟨rfl, rfl⟩ | ⟨r, e, es', clock, rfl, rfl, h1, h2, h3, h4⟩
      · exact ⟨_, by simp only [Builtin.len_, e1, e2, Sem.run_bind, run_underlying hu, Result.andThen_ok, Sem.run_pure]; rfl, .int _ _⟩
      · refine ⟨_, ?_, .int _ _⟩
        simp only [Builtin.len_, e1, e2, Sem.run_bind, run_underlying hu, run_getMap h3, Result.andThen_ok, Sem.run_pure]
        have := h4.length
        rw [Array.length_toList] at this
        rw [this]
        rfl
  · exact nn h

theorem EntsR.find {p : MapEntry → Bool} (hp : ∀ e e', EntR ρ e e' → p e' = p e) : ∀ {l l' : List MapEntry}, EntsR ρ l l' → ∀ {e : MapEntry}, l.find? p = some e → ∃ e', l'.find? p = some e' ∧ EntR ρ e e'
  | _, _, .nil, _, h => by simp at h
  | _, _, @EntsR.cons _ a a' l l' ha k, e, h => by
    rw [List.find?_cons] at h ⊢
    rw [hp a a' ha]
    cases hb : p a with
    | true => rw [hb] at h; cases (Option.some.inj h); exact ⟨a', rfl, ha⟩
    | false => rw [hb] at h; exact k.find hp h

theorem aEntry_run (hS : Sim G W ρ st w) {x x' v : Value} (hx : VR ρ x x') (h : aEntry x st = some v) : ∃ v', (Instr.entry x').run P w = .ok v' w ∧ VR ρ v v' := by
  unfold aEntry at h
  split at h
  · rename_i k
    cases hx with
    | @ptr _ e _ he =>
      split at h
      · rename_i m since seen stepped hk
        split at h
        · rename_i stamp es clock hl hm
          cases hc : Nat.beq clock stepped with
          | false => rw [hc] at h; exact nn h
          | true =>
            rw [hc] at h
            simp only [cond_true] at h
            split at h
            · rename_i en hf
              cases (Option.some.inj h)
              obtain ⟨o, h1, h2, _⟩ := hS.obj k _ hk e he
              cases o <;> (try simp only [ObjR] at h2)
              rename_i mr since' seen' stepped'
              cases mr
              · exact h2.elim
              rename_i m'
              obtain ⟨h0, ⟨sp, h3, rfl⟩, rfl, rfl, rfl⟩ := h2
              obtain ⟨o, h4, h5, _⟩ := hS.obj m _ hm sp h3
              cases o <;> simp only [ObjR] at h5
              rename_i es' clock'
              obtain ⟨h6, rfl⟩ := h5
              have hc := Nat.eq_of_beq_eq_true hc
              subst hc
              have beq : ∀ a b : Nat, (a == b) = Nat.beq a b := fun a b => by rw [Bool.eq_iff_iff, Nat.beq_eq, beq_iff_eq]
              obtain ⟨en', h7, h8⟩ := h6.find (p := fun e => e.born == stamp) (fun e e' he => by rw [he.born]) (by
                rw [← hf]; congr 1; funext e; exact beq _ _)
              refine ⟨.tuple #[en'.key, en'.val], ?_, .tuple (.cons ?_ (.cons h8.val .nil))⟩
              · have hback : seen.toArray.back? = some stamp := by simp [hl]
                rw [h0]
                simp only [Instr.entry, Nat.add_zero, Sem.run_bind]
                have g1 : (getObj e.b).run P w = .ok (.mapIter (some sp.b) since' seen.toArray clock') w := by simp only [getObj, Sem.run, h1]
                simp only [g1, Result.andThen_ok, hback, Sem.run_bind, run_getMap h4]
                simp only [bne_self_eq_false, Bool.false_eq_true, if_false]
                rw [← Array.find?_toList, h7]
                exact Sem.run_pure P w _
              · rw [h8.key]
                exact h8.keyR
            · exact nn h
        · exact nn h
      · exact nn h
  · exact nn h


theorem evalAll_rel {ev : Ev} {f : Operand → Value} : ∀ {xs : List Operand} {vs : List Value}, (∀ x ∈ xs, ∀ v, ev x = some v → VR ρ v (f x)) → evalAll ev xs = some vs → VRs ρ vs (xs.map f)
  | [], vs, _, h => by cases (Option.some.inj h); exact .nil
  | x :: xs, vs, hev, h => by
    simp only [evalAll] at h
    cases hx : ev x with
    | none => rw [hx] at h; exact nn h
    | some v =>
      rw [hx] at h
      simp only at h
      cases hr : evalAll ev xs with
      | none => rw [hr] at h; exact nn h
      | some r =>
        rw [hr] at h
        cases (Option.some.inj h)
        exact .cons (hev x (by simp) v hx) (evalAll_rel (fun y hy => hev y (by simp [hy])) hr)

theorem evalParts_rel {ev : Ev} {f : Operand → Value} : ∀ {xs : List (Nat × Operand)} {vs : List (Nat × Value)}, (∀ x ∈ xs.map (·.2), ∀ v, ev x = some v → VR ρ v (f x)) → evalParts ev xs = some vs →
    PartsR ρ vs (xs.map fun p => (p.1, f p.2))
  | [], vs, _, h => by cases (Option.some.inj h); exact .nil
  | (i, x) :: xs, vs, hev, h => by
    simp only [evalParts] at h
    cases hx : ev x with
    | none => rw [hx] at h; exact nn h
    | some v =>
      rw [hx] at h
      simp only at h
      cases hr : evalParts ev xs with
      | none => rw [hr] at h; exact nn h
      | some r =>
        rw [hr] at h
        cases (Option.some.inj h)
        exact .cons (hev x (by simp) v hx) (evalParts_rel (fun y hy => hev y (by simp at hy ⊢; exact .inr hy)) hr)

theorem evalOpt_rel {ev : Ev} {f : Operand → Value} {x : Option Operand} {v : Option Value} (hev : ∀ y ∈ x.toArray, ∀ v, ev y = some v → VR ρ v (f y)) (h : evalOpt ev x = some v) : OptR ρ v (x.map f) := by
  cases x with
  | none => cases (Option.some.inj h); exact .none
  | some x =>
    simp only [evalOpt] at h
    cases hx : ev x with
    | none => rw [hx] at h; exact nn h
    | some u =>
      rw [hx] at h
      cases (Option.some.inj h)
      exact .some (hev x (by simp) u hx)

theorem bind_some {α β : Type} {x : Option α} {f : α → Option β} {b : β} (h : x.bind f = some b) : ∃ a, x = some a ∧ f a = some b := by
  cases x with
  | none => exact nn h
  | some a => exact ⟨a, rfl, h⟩

theorem two_some {α : Type} {a b : Option Value} {f : Value → Value → Option α} {r : α} (h : two a b f = some r) : ∃ x y, a = some x ∧ b = some y ∧ f x y = some r := by
  cases a with
  | none => exact nn h
  | some x =>
    cases b with
    | none => exact nn h
    | some y => exact ⟨x, y, rfl, rfl, h⟩

theorem arr1 {α : Type} {a : Array α} {l : List α} (h : a.toList = l) : a = ⟨l⟩ := by cases a; cases h; rfl

theorem aBuiltin_run (hS : Sim G W ρ st w) {b : Builtin} {vs vs' : List Value} {ats : List TypeId} {ty : TypeId} {cs : Array Bool} {v : Value} (hv : VRs ρ vs vs') (h : aBuiltin b vs ats st = some v) :
    ∃ v', (builtin b ⟨ats⟩ ty cs ⟨vs'⟩).run P w = .ok (.value v') w ∧ VR ρ v v' := by
  unfold aBuiltin at h
  split at h
  · rename_i x vs t ts
    cases hv with
    | @cons _ x' _ vs' hx _ =>
      obtain ⟨v', h1, h2⟩ := aLen_run (ts := ts) (vs := vs') (ty := ty) hS hx h
      refine ⟨v', ?_, h2⟩
      simp only [builtin, Sem.run_bind, Sem.run_pure]
      rw [h1]
      rfl
  · rename_i n c vs t ts
    cases hv with
    | @cons _ x' _ vs' hx _ =>
      cases hx
      split at h
      · rename_i el hu
        cases (Option.some.inj h)
        refine ⟨.int .i64 c, ?_, .int _ _⟩
        have e1 : (⟨t :: ts⟩ : Array TypeId)[0]? = some t := rfl
        have e2 : (⟨Value.slice none n c :: vs'⟩ : Array Value)[0]? = some (.slice none n c) := rfl
        simp only [builtin, Builtin.cap_, e1, e2, Sem.run_bind, run_underlying hu, Result.andThen_ok, Sem.run_pure]
        rfl
      · exact nn h
  · rename_i k a k' b
    cases hv with
    | cons h1 h2 => cases h2 with
      | cons h2 h3 =>
        cases h3
        cases h1
        cases h2
        cases hk : Nat.beq (kindNo k) (kindNo k') with
        | false => rw [hk] at h; exact nn h
        | true =>
          rw [hk] at h
          cases (Option.some.inj h)
          refine ⟨_, ?_, .int _ _⟩
          simp only [builtin, Builtin.min_, Builtin.min2, List.foldlM_cons, List.foldlM_nil, Sem.run_bind, Sem.run_pure, Result.andThen_ok, intLt_eq]
          cases hd : decide (b < a)
          · rw [if_neg (of_decide_eq_false hd)]; rfl
          · rw [if_pos (of_decide_eq_true hd)]; rfl
  · rename_i k a k' b
    cases hv with
    | cons h1 h2 => cases h2 with
      | cons h2 h3 =>
        cases h3
        cases h1
        cases h2
        cases hk : Nat.beq (kindNo k) (kindNo k') with
        | false => rw [hk] at h; exact nn h
        | true =>
          rw [hk] at h
          cases (Option.some.inj h)
          refine ⟨_, ?_, .int _ _⟩
          simp only [builtin, Builtin.max_, Builtin.max2, List.foldlM_cons, List.foldlM_nil, Sem.run_bind, Sem.run_pure, Result.andThen_ok, intLt_eq]
          cases hd : decide (a < b)
          · rw [if_neg (show ¬ b > a from of_decide_eq_false hd)]; rfl
          · rw [if_pos (show b > a from of_decide_eq_true hd)]; rfl
  · exact nn h

theorem map_arr {α β : Type} (f : α → β) (a : Array α) : a.map f = ⟨a.toList.map f⟩ := by cases a; simp

/-- The operations that only look. -/
theorem aRead_sound (hS : Sim G W ρ st w) {o : Oper} {ev : Ev} {f : Operand → Value} {v : Value} (hev : ∀ x ∈ o.op.operands, ∀ v, ev x = some v → VR ρ v (f x)) (h : aRead o.op ev st = some v) :
    ∃ v', (execOp f o).run P w = .ok (.value v') w ∧ VR ρ v v' := by
  obtain ⟨dst, op, ty, pos, after, guard⟩ := o
  have lift : ∀ {s : Sem Value}, (∃ v', s.run P w = .ok v' w ∧ VR ρ v v') → ∃ v', (do pure (.value (← s)) : Sem Next).run P w = .ok (.value v') w ∧ VR ρ v v' := by
    rintro s ⟨v', h1, h2⟩
    exact ⟨v', by rw [Sem.run_bind, h1]; exact Sem.run_pure P w _, h2⟩
  cases op with
  | move x => exact ⟨f x, Sem.run_pure P w _, hev x (by simp [Op.operands]) v h⟩
  | pick c a b =>
    have hc := hev c (by simp [Op.operands])
    have h : aPick (ev c) ev a b = some v := h
    rcases he : ev c with _ | ⟨_ | _⟩ | _ | _ | _ | _ | _ | _ | _ | _ | _ | _ | _ | _ | _ | _ <;> rw [he] at h <;> try exact nn h
    · have hv := hc _ he
      refine ⟨f b, ?_, hev b (by simp [Op.operands]) v h⟩
      cases hfc : f c <;> rw [hfc] at hv <;> cases hv
      simp only [execOp, hfc, asBool, Sem.run_bind, Sem.run_pure, Result.andThen_ok]
      rfl
    · have hv := hc _ he
      refine ⟨f a, ?_, hev a (by simp [Op.operands]) v h⟩
      cases hfc : f c <;> rw [hfc] at hv <;> cases hv
      simp only [execOp, hfc, asBool, Sem.run_bind, Sem.run_pure, Result.andThen_ok]
      rfl
  | build t ps =>
    obtain ⟨l, h1, h2⟩ := bind_some h
    have := evalParts_rel (ρ := ρ) (f := f) (fun x hx => hev x (by simpa [Op.operands] using hx)) h1
    refine lift ?_
    have e : (ps.map fun (i, x) => (i, f x)) = (ps.toList.map fun p => (p.1, f p.2)).toArray := by cases ps; simp
    rw [e]
    exact aBuild_sound this h2
  | load t a =>
    obtain ⟨x, h1, h2⟩ := bind_some h
    exact lift (aLoad_sound hS (hev a (by simp [Op.operands]) x h1) h2)
  | nilCheck x =>
    have hx := hev x (by simp [Op.operands])
    have h : aNilCheck (ev x) = some v := h
    rcases he : ev x with _ | u
    · rw [he] at h; exact nn h
    · rw [he] at h
      have hv := hx u he
      unfold aNilCheck at h
      split at h
      · rename_i a hh; cases (Option.some.inj hh); cases (Option.some.inj h)
        refine ⟨f x, ?_, hv⟩
        simp only [execOp]
        cases hfx : f x <;> rw [hfx] at hv <;> cases hv
        exact Sem.run_pure P w _
      · rename_i t y hh; cases (Option.some.inj hh); cases (Option.some.inj h)
        refine ⟨f x, ?_, hv⟩
        simp only [execOp]
        cases hfx : f x <;> rw [hfx] at hv <;> cases hv
        exact Sem.run_pure P w _
      · rename_i g a b hh; cases (Option.some.inj hh); cases (Option.some.inj h)
        refine ⟨f x, ?_, hv⟩
        simp only [execOp]
        cases hfx : f x <;> rw [hfx] at hv <;> cases hv
        exact Sem.run_pure P w _
      · exact nn h
  | binOp op t a b yt =>
    obtain ⟨x, y, h1, h2, h3⟩ := two_some h
    obtain ⟨h4, h5⟩ := aBin_run (w := w) (hev a (by simp [Op.operands]) x h1) (hev b (by simp [Op.operands]) y h2) h3
    exact lift ⟨v, h4, h5⟩
  | unOp op t x =>
    obtain ⟨u, h1, h2⟩ := bind_some h
    obtain ⟨h4, h5⟩ := aUn_run (w := w) (hev x (by simp [Op.operands]) u h1) h2
    exact lift ⟨v, h4, h5⟩
  | convert s d x =>
    obtain ⟨u, h1, h2⟩ := bind_some h
    exact lift (aConvert_run hS (hev x (by simp [Op.operands]) u h1) h2)
  | makeInterface t x =>
    obtain ⟨u, h1, h2⟩ := bind_some h
    refine lift ?_
    have hu := hev x (by simp [Op.operands]) u h1
    rcases hf : isFace t with _ | _ | _ <;> rw [hf] at h2 <;> try exact nn h2
    cases (Option.some.inj h2)
    obtain ⟨d, hd, hne⟩ := isFace_false hf
    refine ⟨.iface t (f x), ?_, .iface t hu⟩
    simp only [Instr.makeInterface, Sem.run_bind, run_underlying hd, Result.andThen_ok]
    cases d <;> first | exact Sem.run_pure P w _ | exact absurd rfl (hne _)
  | makeFunc fn a b =>
    obtain ⟨x, h1, h2⟩ := bind_some h
    obtain ⟨y, h3, h4⟩ := bind_some h2
    cases (Option.some.inj h4)
    refine lift ⟨.func fn (a.map f) (b.map f), ?_, ?_⟩
    · exact Sem.run_pure P w _
    · rw [map_arr, map_arr]
      exact .func fn (evalAll_rel (fun x hx => hev x (by simp [Op.operands]; exact .inl (by simpa using hx))) h1) (evalAll_rel (fun x hx => hev x (by simp [Op.operands]; exact .inr (by simpa using hx))) h3)
  | slice t x lo hi mx =>
    obtain ⟨u, h1, h2⟩ := bind_some h
    obtain ⟨l, h3, h4⟩ := bind_some h2
    obtain ⟨hh, h5, h6⟩ := bind_some h4
    obtain ⟨m, h7, h8⟩ := bind_some h6
    exact lift (aSlice_sound hS (hev x (by simp [Op.operands]) u h1) (evalOpt_rel (fun y hy => hev y (by simp [Op.operands] at hy ⊢; exact .inr (.inl hy))) h3)
      (evalOpt_rel (fun y hy => hev y (by simp [Op.operands] at hy ⊢; exact .inr (.inr (.inl hy)))) h5) (evalOpt_rel (fun y hy => hev y (by simp [Op.operands] at hy ⊢; exact .inr (.inr (.inr hy)))) h7) h8)
  | fieldAddr s x fd =>
    obtain ⟨u, h1, h2⟩ := bind_some h
    exact lift (aFieldAddr_sound (hev x (by simp [Op.operands]) u h1) h2)
  | field s x fd =>
    obtain ⟨u, h1, h2⟩ := bind_some h
    exact lift (aField_sound (hev x (by simp [Op.operands]) u h1) h2)
  | indexAddr t x i =>
    obtain ⟨u, j, h1, h2, h3⟩ := two_some h
    exact lift (aIndexAddr_sound (hev x (by simp [Op.operands]) u h1) (hev i (by simp [Op.operands]) j h2) h3)
  | index t x i =>
    obtain ⟨u, j, h1, h2, h3⟩ := two_some h
    exact lift (aIndex_sound (hev x (by simp [Op.operands]) u h1) (hev i (by simp [Op.operands]) j h2) h3)
  | lookup t x i ok =>
    obtain ⟨u, j, h1, h2, h3⟩ := two_some h
    exact lift (aLookup_run hS (hev x (by simp [Op.operands]) u h1) (hev i (by simp [Op.operands]) j h2) h3)
  | typeAssert x xt t ok =>
    obtain ⟨u, h1, h2⟩ := bind_some h
    exact lift (aTypeAssert_sound (hev x (by simp [Op.operands]) u h1) h2)
  | entry x =>
    obtain ⟨u, h1, h2⟩ := bind_some h
    exact lift (aEntry_run hS (hev x (by simp [Op.operands]) u h1) h2)
  | extract x i =>
    have hx := hev x (by simp [Op.operands])
    have h : aExtract (ev x) i = some v := h
    rcases he : ev x with _ | u
    · rw [he] at h; exact nn h
    · rw [he] at h
      have hv := hx u he
      rcases u with _ | _ | _ | _ | _ | _ | _ | _ | _ | _ | _ | _ | _ | _ | ⟨⟨l⟩⟩ <;> try exact nn h
      have h : l[i]? = some v := h
      cases hfx : f x <;> rw [hfx] at hv <;> cases hv
      rename_i l' hl
      obtain ⟨v', h1, h2⟩ := hl.get h
      refine lift ⟨v', ?_, h2⟩
      rw [hfx]
      have : (⟨l'⟩ : Array Value)[i]? = some v' := by simpa using h1
      simp only [Instr.extract, this, Sem.run_pure]
  | call c =>
    obtain ⟨callee, args, ats⟩ := c
    cases callee with
    | builtin b =>
      obtain ⟨vs, h1, h2⟩ := bind_some h
      have hv := evalAll_rel (ρ := ρ) (f := f) (fun x hx => hev x (by simp [Op.operands, Call.operands]; simpa using hx)) h1
      have := aBuiltin_run (ty := ty) (cs := args.map fun | .const _ => true | _ => false) hS hv h2
      obtain ⟨v', h3, h4⟩ := this
      refine ⟨v', ?_, h4⟩
      simp only [execOp, resolve, Sem.run_bind, Sem.run_pure, Result.andThen_ok, invoke]
      rw [map_arr f args]
      exact h3
    | value x => exact nn h
    | invoke r m => exact nn h
  | _ => exact nn h

end
end Go.Proofs.YthojmgjgmbnopaaGreatDoor
