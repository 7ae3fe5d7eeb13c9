/- The evaluator is sound: the operations that only look. No program is named. -/
import Derived.Test.YtcgecgilkapjaaaGreatDoorEd
namespace Go.Proofs.YtcgecgilkapjaaaGreatDoor
open Go Go.RowKit
variable {S : Rho}

section
variable {G : Nat} {W : World} {ρ : Rho} {st : St} {w : World}

theorem run_underlying {t : TypeId} {d : TypeDesc} (h : P.underlying t = some d) : (underlying t).run P w = .ok d w := by
  simp only [underlying, Sem.run_bind, run_program, Result.andThen_ok, h, Sem.run_pure]
theorem run_typeInfo {t : TypeId} {i : TypeInfo} (h : P.info? t = some i) : (typeInfo t).run P w = .ok i w := by
  simp only [typeInfo, Sem.run_bind, run_program, Result.andThen_ok, h, Sem.run_pure]
theorem run_sizeOf {t : TypeId} {n : Nat} (h : sizeIn t = some n) : (sizeOf t).run P w = .ok n w := by
  cases hi : P.info? t with
  | none => simp [sizeIn, hi] at h
  | some i =>
    simp only [sizeIn, hi, Option.map_some, Option.some.injEq] at h
    subst h
    simp only [sizeOf, Sem.run_bind, run_typeInfo hi, Result.andThen_ok, Sem.run_pure]
theorem run_zero {t : TypeId} {z : Value} (h : aZero t = some z) : (zeroValue t).run P w = .ok z w ∧ flat z = true := by
  unfold aZero at h
  cases hi : P.info? t with
  | none => simp [hi] at h
  | some i =>
    simp only [hi] at h
    cases hz : i.zero with
    | none => simp [hz] at h
    | some z' =>
      simp only [hz] at h
      cases hf : flat z' with
      | false => simp [hf] at h
      | true =>
        simp only [hf, cond_true, Option.some.injEq] at h
        subst h
        exact ⟨by simp only [zeroValue, Sem.run_bind, run_typeInfo hi, Result.andThen_ok, hz, Sem.run_pure], hf⟩

theorem tyAgg_some {t : TypeId} {n : Nat} (h : tyAgg t = some (some n)) : (isAgg t).run P w = .ok true w ∧ (sizeOf t).run P w = .ok n w := by
  unfold tyAgg at h
  split at h
  · rename_i fs hu
    cases hi : P.info? t with
    | none => simp [hi] at h
    | some i =>
      simp only [hi, Option.some.injEq] at h
      exact ⟨by simp only [isAgg, Sem.run_bind, run_underlying hu, Result.andThen_ok, Sem.run_pure], run_sizeOf (by simp [sizeIn, hi, h])⟩
  · rename_i k e hu
    cases hi : P.info? t with
    | none => simp [hi] at h
    | some i =>
      simp only [hi, Option.some.injEq] at h
      exact ⟨by simp only [isAgg, Sem.run_bind, run_underlying hu, Result.andThen_ok, Sem.run_pure], run_sizeOf (by simp [sizeIn, hi, h])⟩
  · simp at h
  · simp at h

theorem tyAgg_none {t : TypeId} (h : tyAgg t = some none) : (isAgg t).run P w = .ok false w := by
  unfold tyAgg at h
  split at h
  · cases hi : P.info? t <;> simp [hi] at h
  · cases hi : P.info? t <;> simp [hi] at h
  · rename_i d h1 h2 hu
    simp only [isAgg, Sem.run_bind, run_underlying hu, Result.andThen_ok]
    cases d <;> first | rfl | (exact absurd rfl (h1 _)) | (exact absurd rfl (h2 _ _))
  · simp at h

theorem nn {α : Type} {v : α} {p : Prop} (h : (none : Option α) = some v) : p := by cases h

theorem aLoad_inv {x : Value} {t : TypeId} {v : Value} (h : aLoad x t st = some v) : ∃ k o, x = .pointer (some ⟨k, o, none⟩) ∧ aLoadIn (st.heap.get k) o (tyAgg t) = some v := by
  rcases x with _ | _ | _ | _ | _ | (_ | ⟨k, o, _ | s⟩) | _ | _ | _ | _ | _ | _ | _ | _ | _ <;> first | exact ⟨k, o, rfl, h⟩ | exact nn h

theorem aLoadIn_inv {b : Option AObj} {o : Nat} {a : Option (Option Nat)} {v : Value} (h : aLoadIn b o a = some v) :
    ∃ ro u c, b = some (.cells ro u c) ∧ ((a = some none ∧ c.get o = some v) ∨ ∃ n l, a = some (some n) ∧ cellsFrom c o n = some l ∧ v = .agg ⟨l⟩) := by
  rcases b with _ | ⟨ro, u, c⟩ | _ | _ | _
  · exact nn h
  · refine ⟨ro, u, c, rfl, ?_⟩
    rcases a with _ | _ | n
    · exact nn h
    · exact .inl ⟨rfl, h⟩
    · right
      have h : (match cellsFrom c o n with | some l => some (.agg ⟨l⟩) | none => none) = some v := h
      cases hl : cellsFrom c o n with
      | none => rw [hl] at h; exact nn h
      | some l => rw [hl] at h; exact ⟨n, l, rfl, hl, (Option.some.inj h).symm⟩
  · exact nn h
  · exact nn h
  · exact nn h

theorem aLoad_sound (hS : Sim S G W ρ st w) {t : TypeId} {x x' v : Value} (hx : VR ρ x x') (h : aLoad x t st = some v) :
    ∃ v', (Instr.loadAt t x').run P w = .ok v' w ∧ VR ρ v v' := by
  obtain ⟨k, o, rfl, h⟩ := aLoad_inv h
  cases hx with
  | @ptr _ e _ he =>
    obtain ⟨ro, u, c, hk, ⟨ha, hv⟩ | ⟨n, l, ha, hl, rfl⟩⟩ := aLoadIn_inv h
    · obtain ⟨v', h1, h2⟩ := hS.load hk he hv
      exact ⟨v', by simp [Instr.loadAt, Instr.sureAddr, loadVar, tyAgg_none (w := w) ha, h1], h2⟩
    · obtain ⟨l', h1, h2⟩ := hS.loadCells (P := P) hk he hl
      have := tyAgg_some (w := w) ha
      exact ⟨.agg ⟨l'⟩, by simp [Instr.loadAt, Instr.sureAddr, loadVar, this.1, this.2, h1], .agg h2⟩

theorem aPart_sound {t : TypeId} {cs cs' : List Value} {off : Nat} {v : Value} (hc : VRs ρ cs cs') (h : aPart t cs off = some v) :
    ∃ v', (part t ⟨cs'⟩ off).run P w = .ok v' w ∧ VR ρ v v' := by
  unfold aPart at h
  split at h
  · rename_i n ha
    simp only [Option.some.injEq] at h
    subst h
    have := tyAgg_some (w := w) ha
    refine ⟨.agg ⟨(cs'.drop off).take n⟩, ?_, .agg ((hc.drop off).take n)⟩
    simp only [part, Sem.run_bind, this.1, this.2, Result.andThen_ok, if_true, Sem.run_pure]
    simp [List.extract_eq_take_drop]
  · rename_i ha
    obtain ⟨v', h1, h2⟩ := hc.get h
    exact ⟨v', by simp [part, tyAgg_none (w := w) ha, h1], h2⟩
  · simp at h

/-- Cells laid one behind the other into a row. -/
theorem lay_get : ∀ (l : List Value) (cells : Array Value) (off i : Nat), off + i + l.length ≤ cells.size →
    ((l.zipIdx i).foldl (fun (cs : Array Value) (p : Value × Nat) => cs.setIfInBounds (off + p.2) p.1) cells).size = cells.size ∧
    ∀ k, ((l.zipIdx i).foldl (fun (cs : Array Value) (p : Value × Nat) => cs.setIfInBounds (off + p.2) p.1) cells)[k]? = if off + i ≤ k ∧ k < off + i + l.length then l[k - off - i]? else cells[k]?
  | [], cells, off, i, _ => ⟨rfl, fun k => by rw [if_neg (by simp only [List.length_nil]; omega)]; rfl⟩
  | x :: l, cells, off, i, h => by
    simp only [List.length_cons] at h
    obtain ⟨h1, h2⟩ := lay_get l (cells.setIfInBounds (off + i) x) off (i + 1) (by simp only [Array.size_setIfInBounds]; omega)
    simp only [List.zipIdx_cons, List.foldl_cons]
    refine ⟨by rw [h1]; simp, fun k => ?_⟩
    rw [h2 k]
    by_cases hk : k = off + i
    · subst hk
      rw [if_neg (by omega), if_pos (by simp only [List.length_cons]; omega)]
      rw [show off + i - off - i = 0 by omega, Array.getElem?_setIfInBounds_self_of_lt (by omega)]
      rfl
    · by_cases hr : off + (i + 1) ≤ k ∧ k < off + (i + 1) + l.length
      · rw [if_pos hr, if_pos (by simp only [List.length_cons]; omega)]
        obtain ⟨j, rfl⟩ : ∃ j, k = off + (i + 1) + j := ⟨k - (off + (i + 1)), by omega⟩
        rw [show off + (i + 1) + j - off - (i + 1) = j by omega, show off + (i + 1) + j - off - i = j + 1 by omega]
        simp
      · rw [if_neg hr, if_neg (by simp only [List.length_cons]; omega), Array.getElem?_setIfInBounds_ne (by omega)]

inductive PartsR (ρ : Rho) : List (Nat × Value) → List (Nat × Value) → Prop
  | nil : PartsR ρ [] []
  | cons {i : Nat} {v v' : Value} {l l' : List (Nat × Value)} (h : VR ρ v v') (k : PartsR ρ l l') : PartsR ρ ((i, v) :: l) ((i, v') :: l')

theorem VR.cells {v v' : Value} (h : VR ρ v v') : VRs ρ v.cells.toList v'.cells.toList := by
  cases h <;> first
    | assumption
    | exact .cons (by constructor <;> assumption) .nil

theorem VRs.of_get : ∀ {a b : List Value}, a.length = b.length → (∀ (i : Nat) (v : Value), a[i]? = some v → ∃ v', b[i]? = some v' ∧ VR ρ v v') → VRs ρ a b
  | [], [], _, _ => .nil
  | x :: a, y :: b, hl, h => by
    obtain ⟨v', h1, h2⟩ := h 0 x (by simp)
    simp at h1
    subst h1
    exact .cons h2 (VRs.of_get (by simpa using hl) fun i v hi => by
      have := h (i + 1) v (by simpa using hi)
      simpa using this)
  | [], _ :: _, hl, _ => by simp at hl
  | _ :: _, [], hl, _ => by simp at hl

/-- Parts laid into rows that are alike leave rows that are alike. -/
theorem fill_rel {place : Nat → Option (Nat × Nat)} : ∀ {ps ps' : List (Nat × Value)}, PartsR ρ ps ps' → ∀ {cs cs' r : Array Value}, VRs ρ cs.toList cs'.toList →
    Instr.fill place cs ps = some r → ∃ r', Instr.fill place cs' ps' = some r' ∧ VRs ρ r.toList r'.toList
  | _, _, .nil, cs, cs', r, hc, h => by
    simp only [Instr.fill, Option.some.injEq] at h
    subst h
    exact ⟨cs', rfl, hc⟩
  | _, _, @PartsR.cons _ i v v' l l' hv k, cs, cs', r, hc, h => by
    simp only [Instr.fill] at h ⊢
    cases hp : place i with
    | none => simp [hp] at h
    | some x =>
      obtain ⟨off, size⟩ := x
      simp only [hp] at h ⊢
      have hcell := hv.cells
      have hlen : v'.cells.size = v.cells.size := by simpa using hcell.length.symm
      have hsz : cs'.size = cs.size := by simpa using hc.length.symm
      rw [hlen, hsz]
      split at h
      · simp at h
      · rename_i hn
        rw [if_neg hn]
        simp only [not_or, Bool.or_eq_true, decide_eq_true_eq, ne_eq, Decidable.not_not, gt_iff_lt, Nat.not_lt] at hn
        rw [← Array.foldl_toList] at h ⊢
        have a1 := lay_get v.cells.toList cs off 0 (by simp; omega)
        have a2 := lay_get v'.cells.toList cs' off 0 (by simp; omega)
        refine fill_rel k ?_ h
        simp only [Array.toList_zipIdx]
        refine VRs.of_get (by rw [Array.length_toList, Array.length_toList, a1.1, a2.1, hsz]) fun j x hx => ?_
        rw [Array.getElem?_toList] at hx ⊢
        rw [a1.2] at hx
        rw [a2.2]
        have hlen' : v'.cells.toList.length = v.cells.toList.length := by simpa using hlen
        rw [hlen']
        split at hx
        · rename_i hj; rw [if_pos hj]; exact hcell.get hx
        · rename_i hj; rw [if_neg hj]
          have := hc.get (i := j) (v := x) (by rw [Array.getElem?_toList]; exact hx)
          simpa using this

end
end Go.Proofs.YtcgecgilkapjaaaGreatDoor
