/- A region that draws its order, whose operations let what is held of the world stand: it is run in ONE order alone, each operation seen at the region's end. No program is named. -/
import Derived.Orders
import Derived.RegionTactic
import Derived.KernelRfl
import Derived.Test.YthojmgjgmbnopaaGreatDoorXF
namespace Go.Proofs.YthojmgjgmbnopaaGreatDoor
open Go
section
def zIn (lr : Array Bool) (i : Nat) : Prop := lr.getD i true = true
theorem zIn_set {lr : Array Bool} {i j : Nat} : zIn (lr.setIfInBounds i true) j ↔ j = i ∨ zIn lr j := by
  unfold zIn
  rw [Array.getD_eq_getD_getElem?, Array.getD_eq_getD_getElem?, Array.getElem?_setIfInBounds]
  by_cases h : i = j
  · subst h
    simp only [if_true, true_or, iff_true]
    by_cases hl : i < lr.size
    · simp [hl]
    · simp [hl]
  · rw [if_neg h]
    constructor
    · exact .inr
    · rintro (rfl | h')
      · exact absurd rfl h
      · exact h'
def zLeft (lr : Array Bool) (n : Nat) : Nat := ((List.range n).filter fun i => !lr.getD i true).length
theorem zLeft_set {lr : Array Bool} {n i : Nat} (hi : i < n) (h : ¬ zIn lr i) : zLeft (lr.setIfInBounds i true) n + 1 ≤ zLeft lr n := by
  unfold zLeft
  have key : ∀ l : List Nat, (l.filter fun j => !(lr.setIfInBounds i true).getD j true).length ≤ (l.filter fun j => !lr.getD j true).length ∧
      (i ∈ l → (l.filter fun j => !(lr.setIfInBounds i true).getD j true).length + 1 ≤ (l.filter fun j => !lr.getD j true).length) := by
    intro l
    induction l with
    | nil => simp
    | cons x l ih =>
      have hx : ((lr.setIfInBounds i true).getD x true = true) ↔ (x = i ∨ lr.getD x true = true) := zIn_set
      have hni : lr.getD i true = false := by unfold zIn at h; simpa using h
      simp only [List.filter_cons]
      by_cases hxi : x = i
      · subst hxi
        have h1 : (lr.setIfInBounds x true).getD x true = true := hx.2 (.inl rfl)
        rw [h1, hni]
        simp only [Bool.not_true, Bool.not_false, Bool.false_eq_true, if_false, if_true, List.length_cons]
        exact ⟨by omega, fun _ => by omega⟩
      · have h1 : (lr.setIfInBounds i true).getD x true = lr.getD x true := by
          rw [Bool.eq_iff_iff, hx]
          constructor
          · rintro (h' | h')
            · exact absurd h' hxi
            · exact h'
          · exact .inr
        rw [h1]
        split
        · simp only [List.length_cons]
          exact ⟨by omega, fun hm => by
            rcases List.mem_cons.1 hm with hm | hm
            · exact absurd hm.symm hxi
            · have := ih.2 hm; omega⟩
        · exact ⟨ih.1, fun hm => by
            rcases List.mem_cons.1 hm with hm | hm
            · exact absurd hm.symm hxi
            · exact ih.2 hm⟩
  exact (key _).2 (List.mem_range.2 hi)

theorem zLeft_zero {lr : Array Bool} {n i : Nat} (h : zLeft lr n = 0) (hi : i < n) : zIn lr i := by
  unfold zLeft at h
  have := List.length_eq_zero_iff.1 h
  rw [List.filter_eq_nil_iff] at this
  have := this i (List.mem_range.2 hi)
  unfold zIn
  simpa using this
theorem zReady {ops : Array Oper} {lr : Array Bool} {i : Nat} (h : i ∈ Region.ready .any ops lr) : ∃ o, ops[i]? = some o ∧ i < ops.size ∧ ¬ zIn lr i ∧ ∀ e ∈ o.after.toList, Region.binds .any e = true → zIn lr e.on := by
  unfold Region.ready at h
  obtain ⟨h1, h2⟩ := List.mem_filter.1 h
  have h1 := List.mem_range.1 h1
  rw [Bool.and_eq_true] at h2
  obtain ⟨h2, h3⟩ := h2
  rw [Array.getElem?_eq_getElem h1] at h3
  simp only [Option.map_some, Option.getD_some] at h3
  refine ⟨ops[i], Array.getElem?_eq_getElem h1, h1, ?_, fun e he hb => ?_⟩
  · unfold zIn
    simpa using h2
  · have := Array.all_eq_true'.1 h3 e (by simpa using he)
    rw [hb] at this
    have hf : lr.getD e.on false = true := by simpa using this
    unfold zIn
    rw [Array.getD_eq_getD_getElem?] at hf ⊢
    cases hx : lr[e.on]? with
    | none => rw [hx] at hf; cases hf
    | some b => rw [hx] at hf; exact hf
/-- The edges go back. -/
def zBack (ops : Array Oper) : Bool := (List.range ops.size).all fun i => match ops[i]? with
  | some o => o.after.toList.all fun e => !Region.binds .any e || Nat.blt e.on i
  | none => true
theorem zSome {ops : Array Oper} {lr : Array Bool} (hb : zBack ops = true) (hr : Region.ready .any ops lr = []) : ∀ i, i < ops.size → zIn lr i := by
  intro i
  induction i using Nat.strongRecOn with
  | _ i ih =>
    intro hi
    by_cases hin : zIn lr i
    · exact hin
    · exfalso
      have hm := List.all_eq_true.1 hb i (List.mem_range.2 hi)
      rw [Array.getElem?_eq_getElem hi] at hm
      simp only at hm
      have : i ∈ Region.ready .any ops lr := by
        unfold Region.ready
        refine List.mem_filter.2 ⟨List.mem_range.2 hi, ?_⟩
        rw [Bool.and_eq_true, Array.getElem?_eq_getElem hi]
        simp only [Option.map_some, Option.getD_some]
        refine ⟨by unfold zIn at hin; simpa using hin, ?_⟩
        rw [Array.all_eq_true']
        intro e he
        cases hbd : Region.binds .any e with
        | false => rfl
        | true =>
          have hlt := List.all_eq_true.1 hm e (by simpa using he)
          rw [hbd] at hlt
          have hlt : e.on < i := by simpa using hlt
          have hz := ih e.on hlt (by omega)
          have hlr : e.on < lr.size ∨ lr.size ≤ e.on := Nat.lt_or_ge _ _
          unfold zIn at hz hin
          rw [Array.getD_eq_getD_getElem?] at hz hin
          have his : i < lr.size := by
            rcases Nat.lt_or_ge i lr.size with h | h
            · exact h
            · rw [Array.getElem?_eq_none h] at hin; exact absurd rfl hin
          rw [Array.getElem?_eq_getElem (by omega)] at hz
          simp only [Option.getD_some] at hz
          rw [Array.getD_eq_getD_getElem?, Array.getElem?_eq_getElem (by omega)]
          simp [hz]
      rw [hr] at this
      cases this
/-- What an operation looks at, and an operation of the region sets, it waits for; no two set one. -/
def zCovers (ops : Array Oper) : Bool := (List.range ops.size).all fun i => (List.range ops.size).all fun j => match ops[i]?, ops[j]? with
  | some o, some p => match p.dst with
    | some d => (!(o.looksAt ops).contains d || o.after.toList.any fun e => Region.binds .any e && Nat.beq e.on j) && (Nat.beq i j || o.dst != some d)
    | none => true
  | _, _ => true
theorem zCovers_spec {ops : Array Oper} (h : zCovers ops = true) {i j : Nat} {o p : Oper} {d : Tmp} (hi : ops[i]? = some o) (hj : ops[j]? = some p) (hd : p.dst = some d) :
    (d ∈ o.looksAt ops → ∃ e ∈ o.after.toList, Region.binds .any e = true ∧ e.on = j) ∧ (i ≠ j → o.dst ≠ some d) := by
  have hil : i < ops.size := by
    rcases Nat.lt_or_ge i ops.size with h' | h'
    · exact h'
    · rw [Array.getElem?_eq_none h'] at hi; cases hi
  have hjl : j < ops.size := by
    rcases Nat.lt_or_ge j ops.size with h' | h'
    · exact h'
    · rw [Array.getElem?_eq_none h'] at hj; cases hj
  have h1 := List.all_eq_true.1 (List.all_eq_true.1 h i (List.mem_range.2 hil)) j (List.mem_range.2 hjl)
  rw [hi, hj] at h1
  simp only [hd] at h1
  rw [Bool.and_eq_true, Bool.or_eq_true, Bool.or_eq_true] at h1
  obtain ⟨h2, h3⟩ := h1
  refine ⟨fun hm => ?_, fun hne => ?_⟩
  · rcases h2 with h2 | h2
    · simp [hm] at h2
    · obtain ⟨e, he, hb⟩ := List.any_eq_true.1 h2
      rw [Bool.and_eq_true] at hb
      exact ⟨e, he, hb.1, Nat.eq_of_beq_eq_true hb.2⟩
  · rcases h3 with h3 | h3
    · exact absurd (Nat.eq_of_beq_eq_true h3) hne
    · simpa using h3
/-- A frame with these temporaries set, one behind the other. -/
def zFin (a : Act) : List (Option Tmp × Value) → Act
  | [] => a
  | (d, v) :: l => zFin (a.put d v) l
theorem zFin_size : ∀ (l : List (Option Tmp × Value)) (a : Act), (zFin a l).tmps.size = a.tmps.size
  | [], _ => rfl
  | (d, v) :: l, a => by
    show (zFin (a.put d v) l).tmps.size = _
    rw [zFin_size l]
    cases d <;> simp [Act.put]
theorem zFin_defers : ∀ (l : List (Option Tmp × Value)) (a : Act), (zFin a l).defers = a.defers
  | [], _ => rfl
  | (d, v) :: l, a => by
    show (zFin (a.put d v) l).defers = _
    rw [zFin_defers l]
    cases d <;> rfl
theorem put_ne {a : Act} {d : Option Tmp} {v : Value} {t : Tmp} (h : d ≠ some t) : (a.put d v).tmps[t]? = a.tmps[t]? := by
  cases d with
  | none => rfl
  | some d => simp only [Act.put]; rw [Array.getElem?_setIfInBounds_ne (fun e => h (by rw [e]))]
theorem zFin_old : ∀ (l : List (Option Tmp × Value)) (a : Act) (t : Tmp), (∀ x ∈ l, x.1 ≠ some t) → (zFin a l).tmps[t]? = a.tmps[t]?
  | [], _, _, _ => rfl
  | (d, v) :: l, a, t, h => by
    show (zFin (a.put d v) l).tmps[t]? = _
    rw [zFin_old l _ t (fun x hx => h x (by simp [hx])), put_ne (h (d, v) (by simp))]
theorem zFin_new : ∀ (l : List (Option Tmp × Value)) (a : Act) (t : Tmp) (i : Nat) (v : Value), l[i]? = some (some t, v) → (∀ j x, j ≠ i → l[j]? = some x → x.1 ≠ some t) → t < a.tmps.size → (zFin a l).tmps[t]? = some v
  | [], _, _, i, v, h, _, _ => by simp at h
  | (d, u) :: l, a, t, 0, v, h, hne, ht => by
    simp only [List.getElem?_cons_zero, Option.some.injEq, Prod.mk.injEq] at h
    obtain ⟨rfl, rfl⟩ := h
    show (zFin (a.put (some t) u) l).tmps[t]? = _
    rw [zFin_old l _ t (fun x hx => by
      obtain ⟨j, hj, e⟩ := List.getElem_of_mem hx
      exact hne (j + 1) x (by omega) (by simp [List.getElem?_eq_getElem hj, e]))]
    simp [Act.put, ht]
  | (d, u) :: l, a, t, i + 1, v, h, hne, ht => by
    show (zFin (a.put d u) l).tmps[t]? = _
    refine zFin_new l _ t i v (by simpa using h) (fun j x hj hx => hne (j + 1) x (by omega) (by simpa using hx)) ?_
    cases d <;> simpa [Act.put] using ht
variable {P : Program} {ops : Array Oper} {Q : Exit → Act → World → Prop}
/-- What an operation must do, seen at the region's end. -/
def ZStep (P : Program) (ops : Array Oper) (Q : Exit → Act → World → Prop) (S : World → Prop) (aF : Act) (o : Oper) (v : Value) : Prop :=
  ∀ w, S w → if Region.wanted o (yielded ops aF.tmps) = true then ∀ (K : Act → World → Prop) (f : Act), (∀ w', S w' → K (f.put o.dst v) w') → o.upon P f K Q ((execOp aF.eval o).run P w) else v = undef
theorem eval_looks {o : Oper} {f g : Act} (h : ∀ t ∈ Oper.looksAt ops o, f.tmps[t]? = g.tmps[t]?) : ∀ x ∈ o.op.operands, f.eval x = g.eval x := by
  intro x hx
  cases x with
  | tmp t =>
    have := h t (by
      unfold Oper.looksAt
      refine List.mem_append.2 (.inl (List.mem_filterMap.2 ⟨.tmp t, by simpa using hx, rfl⟩)))
    simp only [Act.eval, Array.getD_eq_getD_getElem?, this]
  | const v => rfl
  | global n => rfl
  | func n => rfl
theorem wanted_looks {o : Oper} {f g : Act} (h : ∀ t ∈ Oper.looksAt ops o, f.tmps[t]? = g.tmps[t]?) : Region.wanted o (yielded ops f.tmps) = Region.wanted o (yielded ops g.tmps) := by
  cases hg : o.guard with
  | none => simp only [Region.wanted, hg]
  | some p =>
    obtain ⟨k, want⟩ := p
    have hy : yielded ops f.tmps k = yielded ops g.tmps k := by
      unfold yielded
      cases hd : (ops[k]?).bind (·.dst) with
      | none => rfl
      | some d =>
        have := h d (by
          unfold Oper.looksAt
          refine List.mem_append.2 (.inr ?_)
          rw [hg]
          simp [hd])
        simp only [Option.bind_some, this]
    simp only [Region.wanted, hg, hy]
/-- A REGION THAT DRAWS, IN ONE ORDER. l: what each operation yields, in the text's order. -/
theorem region_one {id : Nat} {S : World → Prop} {a : Act} {w : World} (hm : P.follows .mixedOrders = true) (hs : Region.noSelect ops = true) (hb : zBack ops = true) (hc : zCovers ops = true)
    (l : List (Option Tmp × Value)) (hl : l.map (·.1) = ops.toList.map (·.dst)) (hd : l.all (fun x => match x.1 with | some d => Nat.blt d a.tmps.size | none => true) = true) (hw : S { w with drawn := w.drawn + 1 })
    (hstep : ∀ (i : Nat) (o : Oper) (d : Option Tmp) (v : Value), ops[i]? = some o → l[i]? = some (d, v) → ZStep P ops Q S (zFin a l) o v)
    (hQ : ∀ w', S w' → Q .normal (zFin a l) w') : (Code.region id ops true).wp P Q a w := by
  have hlen : l.length = ops.size := by have := congrArg List.length hl; simpa using this
  have dst_of : ∀ (i : Nat) (o : Oper) (x : Option Tmp × Value), ops[i]? = some o → l[i]? = some x → x.1 = o.dst := by
    intro i o x ho hx
    have h1 : (l.map (·.1))[i]? = some x.1 := by rw [List.getElem?_map, hx]; rfl
    have h2 : (ops.toList.map (·.dst))[i]? = some o.dst := by rw [List.getElem?_map, Array.getElem?_toList, ho]; rfl
    rw [hl, h2] at h1
    exact (Option.some.inj h1).symm
  have op_of : ∀ (i : Nat) (x : Option Tmp × Value), l[i]? = some x → ∃ o, ops[i]? = some o := by
    intro i x hx
    have : i < l.length := (List.getElem?_eq_some_iff.1 hx).1
    exact ⟨ops[i]'(by omega), Array.getElem?_eq_getElem (by omega)⟩
  have uniq : ∀ (i j : Nat) (x y : Option Tmp × Value) (t : Tmp), l[i]? = some x → l[j]? = some y → x.1 = some t → y.1 = some t → i = j := by
    intro i j x y t hx hy h1 h2
    obtain ⟨o, ho⟩ := op_of i x hx
    obtain ⟨p, hp⟩ := op_of j y hy
    have e1 := dst_of i o x ho hx
    have e2 := dst_of j p y hp hy
    rcases Nat.decEq i j with hne | rfl
    · exact absurd (by rw [← e1]; exact h1) ((zCovers_spec hc ho hp (by rw [← e2]; exact h2)).2 hne)
    · rfl
  have small : ∀ (i : Nat) (t : Tmp) (v : Value), l[i]? = some (some t, v) → t < a.tmps.size := by
    intro i t v hx
    have := List.all_eq_true.1 hd _ (List.mem_of_getElem? hx)
    simpa using this
  have fin_new : ∀ (i : Nat) (t : Tmp) (v : Value), l[i]? = some (some t, v) → (zFin a l).tmps[t]? = some v := fun i t v hx =>
    zFin_new l a t i v hx (fun j x hj hx' he => hj (uniq j i x _ t hx' hx he rfl)) (small i t v hx)
  have fin_old : ∀ (t : Tmp), (∀ (i : Nat) (v : Value), l[i]? ≠ some (some t, v)) → (zFin a l).tmps[t]? = a.tmps[t]? := fun t h =>
    zFin_old l a t fun x hx he => by
      obtain ⟨i, hi, e⟩ := List.getElem_of_mem hx
      obtain ⟨d, v⟩ := x
      simp only at he
      subst he
      exact h i v (by rw [List.getElem?_eq_getElem hi, e])
  -- the walk through the region, whatever the order
  have main : ∀ (fuel : Nat) (lr : Array Bool) (f : Act) (w' : World), zLeft lr ops.size ≤ fuel → f.tmps.size = a.tmps.size → f.defers = a.defers → S w' →
      (∀ (i : Nat) (t : Tmp) (v : Value), l[i]? = some (some t, v) → zIn lr i → f.tmps[t]? = some v) → (∀ (t : Tmp), (∀ (i : Nat) (v : Value), l[i]? = some (some t, v) → ¬ zIn lr i) → f.tmps[t]? = a.tmps[t]?) → wpAny P .any ops Q fuel lr f w' := by
    have done : ∀ (lr : Array Bool) (f : Act) (w' : World), (∀ i, i < ops.size → zIn lr i) → f.tmps.size = a.tmps.size → f.defers = a.defers → S w' →
        (∀ (i : Nat) (t : Tmp) (v : Value), l[i]? = some (some t, v) → zIn lr i → f.tmps[t]? = some v) → (∀ (t : Tmp), (∀ (i : Nat) (v : Value), l[i]? = some (some t, v) → ¬ zIn lr i) → f.tmps[t]? = a.tmps[t]?) → Q .normal f w' := by
      intro lr f w' hall h1 h2 h3 h4 h5
      have he : f = zFin a l := by
        have ht : f.tmps = (zFin a l).tmps := by
          apply Array.ext_getElem?
          intro t
          by_cases hx : ∃ (i : Nat) (v : Value), l[i]? = some (some t, v)
          · obtain ⟨i, v, hx⟩ := hx
            have hi : i < ops.size := by rw [← hlen]; exact (List.getElem?_eq_some_iff.1 hx).1
            rw [h4 i t v hx (hall i hi), fin_new i t v hx]
          · have hx' : ∀ (i : Nat) (v : Value), l[i]? ≠ some (some t, v) := fun i v h => hx ⟨i, v, h⟩
            rw [h5 t (fun i v h => absurd h (hx' i v)), fin_old t hx']
        have hdf : f.defers = (zFin a l).defers := by rw [h2, zFin_defers]
        cases f
        cases hz : zFin a l
        rw [hz] at ht hdf
        simp only at ht hdf
        subst ht
        subst hdf
        rfl
      rw [he]
      exact hQ w' h3
    intro fuel
    induction fuel with
    | zero =>
      intro lr f w' hleft h1 h2 h3 h4 h5
      have hall : ∀ i, i < ops.size → zIn lr i := fun i hi => zLeft_zero (by omega) hi
      refine ⟨?_, done lr f w' hall h1 h2 h3 h4 h5⟩
      apply List.eq_nil_iff_forall_not_mem.2
      intro i hi
      obtain ⟨o, -, hil, hn, -⟩ := zReady hi
      exact hn (hall i hil)
    | succ fuel ih =>
      intro lr f w' hleft h1 h2 h3 h4 h5
      refine ⟨fun hr => done lr f w' (zSome hb hr) h1 h2 h3 h4 h5, fun i hi => ?_⟩
      obtain ⟨o, ho, hil, hn, hdeps⟩ := zReady hi
      obtain ⟨⟨d, v⟩, hx⟩ : ∃ x, l[i]? = some x := ⟨_, List.getElem?_eq_getElem (by omega)⟩
      have hdo : d = o.dst := dst_of i o _ ho hx
      have hlooks : ∀ t ∈ Oper.looksAt ops o, f.tmps[t]? = (zFin a l).tmps[t]? := by
        intro t ht
        by_cases hy : ∃ (j : Nat) (u : Value), l[j]? = some (some t, u)
        · obtain ⟨j, u, hy⟩ := hy
          obtain ⟨p, hp⟩ := op_of j _ hy
          have hpd : p.dst = some t := (dst_of j p _ hp hy).symm
          obtain ⟨e, he, hbd, rfl⟩ := (zCovers_spec hc ho hp hpd).1 ht
          rw [h4 _ t u hy (hdeps e he hbd), fin_new _ t u hy]
        · have hy' : ∀ (j : Nat) (u : Value), l[j]? ≠ some (some t, u) := fun j u h => hy ⟨j, u, h⟩
          rw [h5 t (fun j u h => absurd h (hy' j u)), fin_old t hy']
      have next : ∀ w'', S w'' → wpAny P .any ops Q fuel (lr.setIfInBounds i true) (f.put o.dst v) w'' := by
        intro w'' hw''
        refine ih _ _ w'' (by have := zLeft_set hil hn; omega) ?_ ?_ hw'' ?_ ?_
        · cases ho' : o.dst <;> simp [Act.put, h1]
        · cases ho' : o.dst <;> simp [Act.put, h2]
        · intro j t u hj hin
          by_cases hji : j = i
          · subst hji
            rw [hx] at hj
            simp only [Option.some.injEq, Prod.mk.injEq] at hj
            obtain ⟨hj1, rfl⟩ := hj
            rw [← hdo, hj1]
            have := small j t v (by rw [hx, hj1])
            simp [Act.put, h1, this]
          · have hne : o.dst ≠ some t := fun h => hji (uniq j i _ _ t hj hx rfl (by rw [hdo]; exact h))
            rw [put_ne hne]
            exact h4 j t u hj ((zIn_set.1 hin).resolve_left hji)
        · intro t ht
          have hne : o.dst ≠ some t := fun h => by
            have hx' : l[i]? = some (some t, v) := by rw [hx, hdo, h]
            exact ht i v hx' (zIn_set.2 (.inl rfl))
          rw [put_ne hne]
          exact h5 t fun j u hj hin => ht j u hj (zIn_set.2 (.inr hin))
      refine wpOp_step ho fun K' hK' => ?_
      have hst := hstep i o d v ho hx w' h3
      have hwant := wanted_looks hlooks
      rw [← hwant] at hst
      split
      · rename_i hwt
        rw [if_pos hwt] at hst
        have hev := execOp_congr o (fun cs b => Region.noSelect_spec hs i o cs b ho) (eval_looks hlooks)
        unfold Oper.wp
        rw [hev]
        exact hst K' f fun w'' hw'' => hK' _ _ (next w'' hw'')
      · rename_i hwt
        rw [if_neg hwt] at hst
        rw [← hst]
        exact hK' _ _ (next w' h3)
  refine wp_region_any hm (main ops.size (Array.replicate ops.size false) a _ ?_ rfl rfl hw ?_ ?_)
  · unfold zLeft
    exact Nat.le_trans (List.length_filter_le _ _) (by simp)
  · intro i t v hx hin
    exfalso
    have hi : i < ops.size := by rw [← hlen]; exact (List.getElem?_eq_some_iff.1 hx).1
    unfold zIn at hin
    rw [Array.getD_eq_getD_getElem?] at hin
    simp [hi] at hin
  · intro t _
    rfl
/-- The steps, one for each operation, in the text's order. -/
def ZAll (P : Program) (ops : Array Oper) (Q : Exit → Act → World → Prop) (S : World → Prop) (aF : Act) : List Oper → List (Option Tmp × Value) → Prop
  | [], _ => True
  | o :: os, l => match l with
    | [] => True
    | x :: l => ZStep P ops Q S aF o x.2 ∧ ZAll P ops Q S aF os l
theorem ZAll.get {S : World → Prop} {aF : Act} : ∀ {os : List Oper} {l : List (Option Tmp × Value)}, ZAll P ops Q S aF os l → ∀ {i : Nat} {o : Oper} {d : Option Tmp} {v : Value}, os[i]? = some o → l[i]? = some (d, v) → ZStep P ops Q S aF o v
  | [], _, _, i, o, d, v, h, _ => by simp at h
  | _ :: _, [], _, i, o, d, v, _, h => by simp at h
  | o' :: os, (d', v') :: l, hz, 0, o, d, v, h1, h2 => by
    simp only [List.getElem?_cons_zero, Option.some.injEq, Prod.mk.injEq] at h1 h2
    obtain ⟨rfl, rfl⟩ := h2
    subst h1
    exact hz.1
  | _ :: os, _ :: l, hz, i + 1, o, d, v, h1, h2 => ZAll.get hz.2 (by simpa using h1) (by simpa using h2)
/-- .. for a walk: the frame at the region's end is aF. -/
theorem region_walk {id : Nat} {S : World → Prop} {a aF : Act} {w : World} (l : List (Option Tmp × Value)) (haF : zFin a l = aF) (hm : P.follows .mixedOrders = true) (hs : Region.noSelect ops = true) (hb : zBack ops = true) (hc : zCovers ops = true)
    (hl : l.map (·.1) = ops.toList.map (·.dst)) (hd : l.all (fun x => match x.1 with | some d => Nat.blt d a.tmps.size | none => true) = true) (hw : S { w with drawn := w.drawn + 1 })
    (hstep : ZAll P ops Q S aF ops.toList l) (hQ : ∀ w', S w' → Q .normal aF w') : (Code.region id ops true).wp P Q a w := by
  subst haF
  exact region_one hm hs hb hc l hl hd hw (fun i o d v ho hx => hstep.get (by rw [Array.getElem?_toList]; exact ho) hx) hQ
section
variable {S : World → Prop} {aF : Act} {o : Oper} {v : Value}
theorem ZStep.skip (h : Region.wanted o (yielded ops aF.tmps) = false) : ZStep P ops Q S aF o undef := fun w _ => by
  rw [if_neg (by rw [h]; decide)]
theorem ZStep.val (h : Region.wanted o (yielded ops aF.tmps) = true) (hv : ∀ w, S w → (execOp aF.eval o).run P w = .ok (.value v) w) : ZStep P ops Q S aF o v := fun w hw => by
  rw [if_pos h]
  intro K f hK
  rw [hv w hw]
  exact hK w hw
theorem ZStep.call (h : Region.wanted o (yielded ops aF.tmps) = true) (g : FuncId) (args : Array Value) (hr : ∀ w, S w → (execOp aF.eval o).run P w = .ok (.enter g args) w) (hc : ∀ w, S w → Calls P g args w fun e w' => e = .returned v ∧ S w') : ZStep P ops Q S aF o v := fun w hw => by
  rw [if_pos h]
  intro K f hK
  rw [hr w hw]
  refine (hc w hw).mono ?_
  rintro e w' ⟨rfl, hw'⟩
  exact hK w' hw'
end
end
end Go.Proofs.YthojmgjgmbnopaaGreatDoor
namespace Go.Proofs.YthojmgjgmbnopaaGreatDoor
open Go Go.RowKit
/-! May a value be? What value.Check asks, of any value: the parts. -/
def shortB (x : Tx) : Bool := decide (x.length ≤ 1048576)
/-- Does the j-th stand behind the one ahead of it? -/
def riseAt (l : List Tx) (j : Nat) : Bool := match j with
  | 0 => true
  | i + 1 => ltB (l[i]?.getD []) (l[i + 1]?.getD [])
def riseB (l : List Tx) : Bool := (List.range l.length).all (riseAt l)
theorem all_range_succ (f : Nat → Bool) (k : Nat) : (List.range (k + 1)).all f = ((List.range k).all f && f k) := by
  rw [List.range_succ, List.all_append]; simp
theorem all_range_false {f : Nat → Bool} {k n : Nat} (hk : k < n) (hf : f k = false) : (List.range n).all f = false := by
  rw [List.all_eq_false]
  exact ⟨k, List.mem_range.2 hk, by simp [hf]⟩
theorem all_take_succ {l : List Tx} {k : Nat} {x : Tx} (hx : l[k]? = some x) (f : Tx → Bool) : (l.take (k + 1)).all f = ((l.take k).all f && f x) := by
  rw [List.take_add_one, hx, List.all_append]; simp
theorem all_false_of {l : List Tx} {k : Nat} {x : Tx} (hx : l[k]? = some x) {f : Tx → Bool} (hf : f x = false) : l.all f = false := by
  rw [List.all_eq_false]
  exact ⟨x, List.mem_of_getElem? hx, by simp [hf]⟩
set_option maxRecDepth 10000 in
set_option maxHeartbeats 1000000 in
theorem mvalid_any {A : Nat → Prop} {w : World} {v : Value} {l : List Tx} (h : Vw A w v 1 l.length (l.map txt)) (hn : l.length ≤ 1099511627776) :
    Calls Tryz.prog 351 #[v] w fun e w' => e = .returned (.bool (riseB l)) ∧ Below w.heap.size w w' := by
  obtain ⟨a, cap, rfl, _⟩ := id h.slice
  have HV := Lib.hid h
  clear h
  go_enter Tryz.func351, Tryz.ntmps351
  go_wp2_with fail
  go_loopw [3] (fun i wr => ∃ j q : Nat, i = .int .i64 ((j : Int) + 1) ∧ j ≤ l.length ∧ wr = w.drewN q ∧ (List.range (j + 1)).all (riseAt l) = true) (fun i _ => l.length + 1 - (intOf i).toNat)
  case atStart => exact ⟨0, 0, rfl, Nat.zero_le _, rfl, rfl⟩
  case round =>
    obtain ⟨j, q, rfl, hjl, rfl, hall⟩ := hrel
    by_cases hj : j + 1 < l.length
    · obtain ⟨x, hx⟩ : ∃ x, l[j]? = some x := ⟨_, List.getElem?_eq_getElem (by omega)⟩
      obtain ⟨y, hy⟩ : ∃ y, l[j + 1]? = some y := ⟨_, List.getElem?_eq_getElem hj⟩
      obtain ⟨b, off, rfl, _, _, hg⟩ := vw_get HV.out (by omega)
      have hcx : w.cell? ⟨b, off + j, none⟩ = some (.string ⟨x.toArray⟩) := hg j x hx
      have hcy : w.cell? ⟨b, off + (j + 1), none⟩ = some (.string ⟨y.toArray⟩) := hg (j + 1) y hy
      have hra : riseAt l (j + 1) = Op.bytesLess x y := by show ltB (l[j]?.getD []) (l[j + 1]?.getD []) = _; rw [hx, hy]; rfl
      have hjI : (0 : Int) ≤ j ∧ (j : Int) + 1 < l.length := by omega
      obtain ⟨hj0, hj1⟩ := hjI
      have ew : IntKind.i64.wrap (j : Int) = (j : Int) := by rw [IntKind.wrap_i64]; omega
      have hj2 : (j : Int) < l.length := by omega
      have hj3 : (0 : Int) ≤ (j : Int) + 1 := by omega
      have etn : ((j : Int) + 1).toNat = j + 1 := by omega
      have HA := Lib.hid hall
      have HRA := Lib.hid hra
      clear hg hx hy HV hall hra
      rcases hxy : Op.bytesLess x y with _ | _
      · have D := Lib.hid (show riseB l = false from all_range_false (k := j + 1) hj (by rw [HRA.out, hxy]))
        clear HA HRA hj
        go_wp2_with fail
        go_quiet (fail)
        go_wp2_with fail
        go_ret
        exact ⟨by rw [D.out]; rfl, by repeat (first | exact Below.refl _ _ | refine below_drewN ?_ _ | refine Below.drew ?_)⟩
      · have D := Lib.hid (show (List.range (j + 1 + 1)).all (riseAt l) = true from by rw [all_range_succ, HA.out, HRA.out, hxy]; rfl)
        clear HA HRA
        go_wp2_with fail
        go_quiet (fail)
        go_wp2_with fail
        go_roundw
        case rel => exact ⟨j + 1, _, by go_num, by omega, by first | rfl | exact World.drewN_drewN _ _ _, D.out⟩
        case measure => simp [intOf]; omega
    · have hjI : (0 : Int) ≤ j ∧ ¬ ((j : Int) + 1 < l.length) := by omega
      obtain ⟨hj0, hj1⟩ := hjI
      have D := Lib.hid (show riseB l = true from by
        unfold riseB
        rw [List.all_eq_true] at hall ⊢
        intro i hi
        exact hall i (by rw [List.mem_range] at *; omega))
      clear HV hall hj
      go_wp2_with fail
      go_ret
      exact ⟨by rw [D.out]; rfl, below_drewN (Below.refl _ _) _⟩
set_option maxRecDepth 10000 in
theorem vlong_any (s : List UInt8) (w : World) : Calls Tryz.prog 343 #[txt s] w fun e w' => e = .returned (.bool (!shortB s)) ∧ w' = w := by
  have h := vshort_ok s w
  unfold shortB
  unfold txt at *
  generalize decide (s.length ≤ 1048576) = bo at h ⊢
  have H := Lib.hid h
  clear h
  cases bo <;> (
    go_enter Tryz.func343, Tryz.ntmps343
    go_wp2_with fail
    refine H.out.mono ?_; rintro e w' ⟨rfl, rfl⟩
    go_wp2_with fail
    go_ret
    exact ⟨rfl, rfl⟩)
set_option maxRecDepth 10000 in
set_option maxHeartbeats 1000000 in
theorem indexF_any {A : Nat → Prop} {w : World} {v : Value} {ws : List Tx} (h : Vw A w v 1 ws.length (ws.map txt)) (hn : ws.length ≤ 1099511627776) :
    Calls Tryz.prog 344 #[v, .func (.func 343) #[] #[]] w fun e w' => (∃ r : Int, e = .returned (.int .i64 r) ∧ decide (0 ≤ r) = !ws.all shortB) ∧ w' = w := by
  obtain ⟨⟨a, cap, rfl, h1, h2, h3⟩, h4⟩ := h
  clear h4
  go_enter Tryz.func344, Tryz.ntmps344
  go_wp2_with fail
  go_loopw [8] (fun i wr => wr = w ∧ ∃ k : Nat, k ≤ ws.length ∧ i = .int .i64 (k : Int) ∧ (ws.take k).all shortB = true) (fun i _ => ws.length - (intOf i).toNat)
  case atStart => exact ⟨rfl, 0, Nat.zero_le _, rfl, rfl⟩
  case round =>
    obtain ⟨rfl, k, hk, rfl, hall⟩ := hrel
    by_cases hkl : k < ws.length
    · obtain ⟨x, hx⟩ : ∃ x, ws[k]? = some x := ⟨_, List.getElem?_eq_getElem hkl⟩
      rcases h3 with h3 | ⟨b, off, rfl, hb, _, hc⟩
      · omega
      have hcell : wr.cell? ⟨b, off + k, none⟩ = some (.string ⟨x.toArray⟩) := hc k (txt x) (by rw [List.getElem?_map, hx]; rfl)
      have HX := Lib.hid (vlong_any x wr)
      have HXX := Lib.hid hx
      have HALL := Lib.hid hall
      have hkI : (0 : Int) ≤ k ∧ (k : Int) < ws.length := by omega
      clear hc hx hall
      unfold txt at HX
      rcases hs : shortB x with _ | _
      · rw [hs] at HX
        have D := Lib.hid (show ws.all shortB = false from all_false_of HXX.out hs)
        clear hs HALL
        go_wp2_with fail
        refine HX.out.mono ?_; rintro e w1 ⟨rfl, rfl⟩
        go_wp2_with fail
        go_ret
        exact ⟨⟨(k : Int), rfl, by rw [D.out]; simp⟩, rfl⟩
      · rw [hs] at HX
        have D := Lib.hid (show (ws.take (k + 1)).all shortB = true from by rw [all_take_succ HXX.out, HALL.out, hs]; rfl)
        clear hs HALL
        go_wp2_with fail
        refine HX.out.mono ?_; rintro e w1 ⟨rfl, rfl⟩
        go_wp2_with fail
        go_roundw
        case rel => exact ⟨trivial, k + 1, hkl, by go_num, D.out⟩
        case measure => simp [intOf]; omega
    · obtain rfl : k = ws.length := by omega
      rw [List.take_length] at hall
      have D := Lib.hid hall
      clear h3 hall
      go_wp2_with fail
      go_ret
      exact ⟨⟨-1, rfl, by rw [D.out]; rfl⟩, rfl⟩
set_option maxRecDepth 10000 in
theorem vlright_any {A : Nat → Prop} {w : World} {v : Value} {ws : List Tx} (h : Vw A w v 1 ws.length (ws.map txt)) (hn : ws.length ≤ 1099511627776) :
    Calls Tryz.prog 340 #[v] w fun e w' => e = .returned (.bool (ws.all shortB)) ∧ w' = w := by
  have h1 := indexF_any h hn
  obtain ⟨a, cap, rfl, _⟩ := h.slice
  clear h
  generalize ws.all shortB = bo at h1 ⊢
  have H := Lib.hid h1
  clear h1
  have H2 : Calls Tryz.prog 342 #[.slice a ws.length cap, .func (.func 343) #[] #[]] w fun e w' => e = .returned (.bool (!bo)) ∧ w' = w := by
    go_enter Tryz.func342, Tryz.ntmps342
    go_wp2_with fail
    refine H.out.mono ?_; rintro e w' ⟨⟨r, rfl, hr⟩, rfl⟩
    have HR := Lib.hid hr
    clear hr
    go_wp2_with fail
    go_ret
    exact ⟨by rw [← HR.out]; rfl, rfl⟩
  have H2 := Lib.hid H2
  clear H
  cases bo <;> (
    go_enter Tryz.func340, Tryz.ntmps340
    go_wp2_with fail
    refine H2.out.mono ?_; rintro e w' ⟨rfl, rfl⟩
    go_wp2_with fail
    go_ret
    exact ⟨rfl, rfl⟩)
set_option maxRecDepth 10000 in
theorem vsright_any {A : Nat → Prop} {w : World} {v : Value} {ws : List Tx} (h : Vw A w v 1 ws.length (ws.map txt)) (hn : ws.length ≤ 1099511627776) :
    Calls Tryz.prog 349 #[v] w fun e w' => e = .returned (.bool (ws.all shortB && riseB ws)) ∧ Below w.heap.size w w' := by
  have h1 := vlright_any h hn
  have h2 := mvalid_any h hn
  obtain ⟨a, cap, rfl, _⟩ := h.slice
  clear h
  generalize ws.all shortB = b1 at h1 ⊢
  generalize riseB ws = b2 at h2 ⊢
  have H := Lib.hid h1
  have HM := Lib.hid h2
  clear h1 h2
  cases b1 with
  | false =>
    clear HM
    go_enter Tryz.func349, Tryz.ntmps349
    go_wp2_with fail
    refine H.out.mono ?_; rintro e w' ⟨rfl, rfl⟩
    go_wp2_with fail
    go_ret
    exact ⟨rfl, Below.refl _ _⟩
  | true =>
    go_enter Tryz.func349, Tryz.ntmps349
    go_wp2_with fail
    refine H.out.mono ?_; rintro e w' ⟨rfl, rfl⟩
    go_wp2_with fail
    refine HM.out.mono ?_; rintro e w2 ⟨rfl, hB⟩
    have HB := Lib.hid hB
    clear hB
    go_wp2_with fail
    go_ret
    exact ⟨by simp, HB.out⟩
/-! Hashes. -/
abbrev Fld := List UInt8 × List UInt8
def fldAt (l : List Fld) (j : Nat) : Bool := match l[j]? with
  | none => true
  | some f => shortB f.1 && shortB f.2 && (match j with | 0 => true | i + 1 => ltB ((l[i]?.getD ([], [])).1) f.1)
def hashB (l : List Fld) : Bool := (List.range l.length).all (fldAt l)
theorem vw_fields {A : Nat → Prop} {w : World} {a : Option Addr} {n cap : Nat} {L : List Fld} (h : Vw A w (.slice a n cap) 2 n (fieldsC L)) {k : Nat} {y : Fld} (hy : L[k]? = some y) : ∃ b off, a = some ⟨b, off, none⟩ ∧ n ≤ cap ∧ b < w.heap.size ∧
    ∀ (k : Nat) (y : Fld), L[k]? = some y → w.cell? ⟨b, off + k * 2, none⟩ = some (.string ⟨y.1.toArray⟩) ∧ w.cell? ⟨b, off + k * 2 + 1, none⟩ = some (.string ⟨y.2.toArray⟩) := by
  have hfl : ∀ l : List Fld, (fieldsC l).length = l.length * 2 := fun l => by
    unfold fieldsC
    induction l with
    | nil => rfl
    | cons x t ih => simp only [List.flatMap_cons, List.length_append, List.length_cons, List.length_nil, ih]; omega
  have hlen : L.length = n := by have := h.len; rw [hfl] at this; omega
  have hk : k < L.length := (List.getElem?_eq_some_iff.1 hy).1
  obtain ⟨⟨a', c', e, h1, h2, h3⟩, h4⟩ := h
  injection e with e1 e2 e3
  subst e1 e3
  rcases h3 with h3 | ⟨b, off, rfl, g5, g6, g7⟩
  · omega
  refine ⟨b, off, rfl, h1, g5, fun k y hy => ?_⟩
  have hk : k < L.length := (List.getElem?_eq_some_iff.1 hy).1
  have hd : L = L.take k ++ y :: L.drop (k + 1) := by
    have e1 : L.drop k = y :: L.drop (k + 1) := by
      rw [List.drop_eq_getElem_cons hk]
      congr 1
      rw [List.getElem?_eq_getElem hk] at hy
      cases hy; rfl
    rw [← e1, List.take_append_drop]
  have hc : ∀ j u, ([txt y.1, txt y.2] : List Value)[j]? = some u → w.cell? ⟨b, off + k * 2 + j, none⟩ = some u := by
    intro j u hj
    have hj2 : j < 2 := (List.getElem?_eq_some_iff.1 hj).1
    have happ : ∀ x z : List Fld, fieldsC (x ++ z) = fieldsC x ++ fieldsC z := fun x z => by unfold fieldsC; exact List.flatMap_append
    have := g7 (k * 2 + j) u (by
      rw [hd, happ, List.getElem?_append_right (by rw [hfl, List.length_take]; omega)]
      rw [hfl, List.length_take, Nat.min_eq_left (Nat.le_of_lt hk)]
      show ([txt y.1, txt y.2] ++ fieldsC (L.drop (k + 1)))[_]? = _
      rw [show k * 2 + j - k * 2 = j by omega, List.getElem?_append_left (by simpa using hj2)]
      exact hj)
    rw [← Nat.add_assoc] at this; exact this
  exact ⟨hc 0 _ rfl, hc 1 _ rfl⟩
end Go.Proofs.YthojmgjgmbnopaaGreatDoor
