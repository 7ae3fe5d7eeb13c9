/- A region that draws its order, of which some operations turn the world, one behind the other (their results are not known ahead), the others of the first n only look, and the rest comes in the text's order: it is run in ONE order alone. No program is named. -/
import Derived.Test.YthojmgjgmbnopaaGreatDoorZt
namespace Go.Proofs.YthojmgjgmbnopaaGreatDoor
open Go
section
/-- What each of the first n waits for, of the operations cs that turn the world: the first st[i] of them. -/
def zStages (ops : Array Oper) (n : Nat) (cs st : List Nat) : Bool := Nat.beq st.length n && cs.all (fun c => Nat.blt c n) && (List.range n).all (fun i => (List.range cs.length).all fun j =>
  (Nat.blt j (st.getD i 0) == zDep ops ops.size i (cs.getD j 0))) && (List.range cs.length).all (fun j => Nat.beq (st.getD (cs.getD j 0) 0) j) && (List.range n).all (fun i => Nat.ble (st.getD i 0) cs.length)
/-- What an operation of the first n looks at, and another of them sets, it waits for; no two set one. -/
def zCoversN (ops : Array Oper) (n : Nat) : Bool := (List.range n).all fun i => (List.range n).all fun j => match ops[i]?, ops[j]? with
  | some o, some p => match p.dst with
    | some d => (!(o.looksAt ops).contains d || o.after.toList.any fun e => Region.binds .any e && Nat.beq e.on j) && (Nat.beq i j || o.dst != some d)
    | none => true
  | _, _ => true
theorem zCoversN_spec {ops : Array Oper} {n : Nat} (h : zCoversN ops n = true) {i j : Nat} {o p : Oper} {d : Tmp} (hin : i < n) (hjn : j < n) (hi : ops[i]? = some o) (hj : ops[j]? = some p) (hd : p.dst = some d) :
    (d ∈ o.looksAt ops → ∃ e ∈ o.after.toList, Region.binds .any e = true ∧ e.on = j) ∧ (i ≠ j → o.dst ≠ some d) := by
  have h1 := List.all_eq_true.1 (List.all_eq_true.1 h i (List.mem_range.2 hin)) j (List.mem_range.2 hjn)
  rw [hi, hj] at h1
  simp only [hd] at h1
  rw [Bool.and_eq_true, Bool.or_eq_true, Bool.or_eq_true] at h1
  obtain ⟨h2, h3⟩ := h1
  refine ⟨fun hm => ?_, fun hne => ?_⟩
  · rcases h2 with h2 | h2
    · simp [hm] at h2
    · obtain ⟨e, he, hb⟩ := List.any_eq_true.1 h2
      rw [Bool.and_eq_true] at hb
      exact ⟨e, he, hb.1, Nat.eq_of_beq_eq_true hb.2⟩
  · rcases h3 with h3 | h3
    · exact absurd (Nat.eq_of_beq_eq_true h3) hne
    · simpa using h3
abbrev ZRow := List (Option Tmp × Value)
/-- Some places of a row set anew. -/
def zUpd : ZRow → List (Nat × Value) → ZRow
  | l, [] => l
  | l, (i, v) :: us => zUpd (l.set i ((l.getD i (none, undef)).1, v)) us
theorem zUpd_len : ∀ (us : List (Nat × Value)) (l : ZRow), (zUpd l us).length = l.length
  | [], _ => rfl
  | (i, v) :: us, l => by unfold zUpd; rw [zUpd_len us]; simp
theorem zUpd_fst : ∀ (us : List (Nat × Value)) (l : ZRow), (zUpd l us).map (·.1) = l.map (·.1)
  | [], _ => rfl
  | (i, v) :: us, l => by
    unfold zUpd
    rw [zUpd_fst us]
    apply List.ext_getElem?
    intro j
    rw [List.getElem?_map, List.getElem?_map]
    by_cases hj : i = j
    · subst hj
      by_cases hl : i < l.length
      · rw [List.getElem?_set_self hl, List.getElem?_eq_getElem hl, List.getD_eq_getElem?_getD, List.getElem?_eq_getElem hl]; rfl
      · rw [List.getElem?_eq_none (by simp; omega), List.getElem?_eq_none (by omega)]
    · rw [List.getElem?_set_ne hj]
theorem zUpd_far : ∀ (us : List (Nat × Value)) (l : ZRow) (j : Nat), (∀ x ∈ us, x.1 ≠ j) → (zUpd l us)[j]? = l[j]?
  | [], _, _, _ => rfl
  | (i, v) :: us, l, j, h => by
    unfold zUpd
    rw [zUpd_far us _ j (fun x hx => h x (by simp [hx])), List.getElem?_set_ne (h (i, v) (by simp))]
variable {P : Program} {ops : Array Oper} {Q : Exit → Act → World → Prop}
/-- What an operation that only looks must do. -/
def ZSee (P : Program) (ops : Array Oper) (S : World → Prop) (aF : Act) (o : Oper) (v : Value) : Prop :=
  ∀ w, S w → if Region.wanted o (yielded ops aF.tmps) = true then (execOp aF.eval o).run P w = .ok (.value v) w else v = undef
/-- What one that turns the world must do. -/
def ZTurn (P : Program) (ops : Array Oper) (Q : Exit → Act → World → Prop) (S : World → Prop) (S' : Value → World → Prop) (aF : Act) (o : Oper) : Prop :=
  Region.wanted o (yielded ops aF.tmps) = true ∧ ∀ w, S w → ∀ (K : Act → World → Prop) (f : Act), execOp f.eval o = execOp aF.eval o → (∀ x ∈ o.op.operands, f.eval x = aF.eval x) → (∀ u w', S' u w' → K (f.put o.dst u) w') → o.wp P f w K Q
/-- The looks that are wanted. -/
def ZSees (P : Program) (ops : Array Oper) (S : World → Prop) (aF : Act) : List Oper → ZRow → List Bool → Prop
  | o :: os, x :: l, true :: bs => ZSee P ops S aF o x.2 ∧ ZSees P ops S aF os l bs
  | _ :: os, _ :: l, false :: bs => ZSees P ops S aF os l bs
  | _, _, _ => True
theorem ZSees.get {S : World → Prop} {aF : Act} : ∀ {os : List Oper} {l : ZRow} {bs : List Bool}, ZSees P ops S aF os l bs → ∀ {i : Nat} {o : Oper} {x : Option Tmp × Value}, os[i]? = some o → l[i]? = some x → bs[i]? = some true → ZSee P ops S aF o x.2
  | o' :: os, x' :: l, true :: bs, hz, 0, o, x, h1, h2, h3 => by
    simp only [List.getElem?_cons_zero, Option.some.injEq] at h1 h2
    subst h1 h2
    exact hz.1
  | o' :: os, x' :: l, false :: bs, hz, 0, o, x, h1, h2, h3 => by simp at h3
  | _ :: os, _ :: l, true :: bs, hz, i + 1, o, x, h1, h2, h3 => ZSees.get hz.2 (by simpa using h1) (by simpa using h2) (by simpa using h3)
  | _ :: os, _ :: l, false :: bs, hz, i + 1, o, x, h1, h2, h3 => ZSees.get (os := os) (l := l) (bs := bs) hz (by simpa using h1) (by simpa using h2) (by simpa using h3)
  | [], _, _, _, i, _, _, h1, _, _ => by simp at h1
  | _ :: _, [], _, _, i, _, _, _, h2, _ => by simp at h2
  | _ :: _, _ :: _, [], _, i, _, _, _, _, h3 => by simp at h3
/-- Does the last one done wait for it? -/
def zPast (ops : Array Oper) (cs : List Nat) (k i : Nat) : Bool := match k with
  | 0 => false
  | j + 1 => zDep ops ops.size (cs.getD j 0) i
/-- Those of stage k or ahead that only look, and may still be to come. -/
def zWants (ops : Array Oper) (cs st : List Nat) (k : Nat) : List Bool := (List.range st.length).map fun i => !cs.contains i && Nat.ble (st.getD i 0) k && !zPast ops cs k i
/-- The region, where the first k of cs are done and the others of stage k or ahead yield l. -/
def ZAt (P : Program) (ops : Array Oper) (Q : Exit → Act → World → Prop) (a : Act) (n : Nat) (cs : List Nat) (k : Nat) (l : ZRow) (S : World → Prop) : Prop :=
  ∀ (fuel : Nat) (lr : Array Bool) (f : Act) (w' : World), zLeft lr ops.size = fuel → lr.size = ops.size →
    (∀ (i : Nat) (o : Oper), ops[i]? = some o → zIn lr i → ∀ e ∈ o.after.toList, Region.binds .any e = true → zIn lr e.on) → (∀ i, n ≤ i → i < ops.size → ¬ zIn lr i) →
    (∀ j c, cs[j]? = some c → (zIn lr c ↔ j < k)) → f.tmps.size = a.tmps.size → f.defers = a.defers → S w' →
    (∀ (i : Nat) (t : Tmp) (v : Value), l[i]? = some (some t, v) → zIn lr i → f.tmps[t]? = some v) → (∀ (t : Tmp), (∀ (i : Nat) (v : Value), l[i]? = some (some t, v) → ¬ zIn lr i) → f.tmps[t]? = a.tmps[t]?) → wpAny P .any ops Q fuel lr f w'
/-- What holds of the region once for all. -/
structure ZReg (ops : Array Oper) (a : Act) (n : Nat) (cs st : List Nat) (l : ZRow) : Prop where
  sel : Region.noSelect ops = true
  back : zBack ops = true
  cov : zCoversN ops n = true
  le : n ≤ ops.size
  tail : zTail ops n = true
  seq : Region.seqB .any ops (ops.size - n) n (zMask ops.size n) = true
  stages : zStages ops n cs st = true
  dst : l.map (·.1) = (ops.toList.take n).map (·.dst)
  small : l.all (fun x => match x.1 with | some d => Nat.blt d a.tmps.size | none => true) = true
section
variable {a : Act} {n : Nat} {cs st : List Nat} {l : ZRow}
theorem ZReg.len (h : ZReg ops a n cs st l) : l.length = n := by
  have := congrArg List.length h.dst
  have hle := h.le
  simpa [hle] using this
theorem ZReg.dst_of (h : ZReg ops a n cs st l) {i : Nat} {o : Oper} {x : Option Tmp × Value} (ho : ops[i]? = some o) (hx : l[i]? = some x) : x.1 = o.dst := by
  have hi : i < n := by rw [← h.len]; exact (List.getElem?_eq_some_iff.1 hx).1
  have h1 : (l.map (·.1))[i]? = some x.1 := by rw [List.getElem?_map, hx]; rfl
  have h2 : ((ops.toList.take n).map (·.dst))[i]? = some o.dst := by rw [List.getElem?_map, List.getElem?_take_of_lt hi, Array.getElem?_toList, ho]; rfl
  rw [h.dst, h2] at h1
  exact (Option.some.inj h1).symm
theorem ZReg.op_of (h : ZReg ops a n cs st l) {i : Nat} {x : Option Tmp × Value} (hx : l[i]? = some x) : i < n ∧ ∃ o, ops[i]? = some o := by
  have h1 : i < l.length := (List.getElem?_eq_some_iff.1 hx).1
  rw [h.len] at h1
  have := h.le
  exact ⟨h1, ops[i]'(by omega), Array.getElem?_eq_getElem (by omega)⟩
theorem ZReg.uniq (h : ZReg ops a n cs st l) {i j : Nat} {x y : Option Tmp × Value} {t : Tmp} (hx : l[i]? = some x) (hy : l[j]? = some y) (h1 : x.1 = some t) (h2 : y.1 = some t) : i = j := by
  obtain ⟨hin, o, ho⟩ := h.op_of hx
  obtain ⟨hjn, p, hp⟩ := h.op_of hy
  have e1 := h.dst_of ho hx
  have e2 := h.dst_of hp hy
  rcases Nat.decEq i j with hne | rfl
  · exact absurd (by rw [← e1]; exact h1) ((zCoversN_spec h.cov hin hjn ho hp (by rw [← e2]; exact h2)).2 hne)
  · rfl
theorem ZReg.lt (h : ZReg ops a n cs st l) {i : Nat} {t : Tmp} {v : Value} (hx : l[i]? = some (some t, v)) : t < a.tmps.size := by
  have := List.all_eq_true.1 h.small _ (List.mem_of_getElem? hx)
  simpa using this
theorem ZReg.fin_new (h : ZReg ops a n cs st l) {i : Nat} {t : Tmp} {v : Value} (hx : l[i]? = some (some t, v)) : (zFin a l).tmps[t]? = some v :=
  zFin_new l a t i v hx (fun _ _ hj hx' he => hj (h.uniq hx' hx he rfl)) (h.lt hx)
theorem zfin_old (t : Tmp) (h : ∀ (i : Nat) (v : Value), l[i]? ≠ some (some t, v)) : (zFin a l).tmps[t]? = a.tmps[t]? :=
  zFin_old l a t fun x hx he => by
    obtain ⟨i, hi, e⟩ := List.getElem_of_mem hx
    obtain ⟨d, v⟩ := x
    simp only at he
    subst he
    exact h i v (by rw [List.getElem?_eq_getElem hi, e])
theorem ZReg.upd (h : ZReg ops a n cs st l) (us : List (Nat × Value)) : ZReg ops a n cs st (zUpd l us) := by
  refine ⟨h.sel, h.back, h.cov, h.le, h.tail, h.seq, h.stages, by rw [zUpd_fst]; exact h.dst, ?_⟩
  have h1 := h.small
  have h2 : ∀ l : ZRow, l.all (fun x => match x.1 with | some d => Nat.blt d a.tmps.size | none => true) = (l.map (·.1)).all (fun x => match x with | some d => Nat.blt d a.tmps.size | none => true) := fun l => by rw [List.all_map]; rfl
  rw [h2] at h1 ⊢
  rw [zUpd_fst]; exact h1
theorem ZReg.stage (h : ZReg ops a n cs st l) : st.length = n ∧ (∀ c ∈ cs, c < n) ∧ (∀ i j c, i < n → cs[j]? = some c → (j < st.getD i 0 ↔ zDep ops ops.size i c = true)) ∧ (∀ j c, cs[j]? = some c → st.getD c 0 = j) ∧ (∀ i, i < n → st.getD i 0 ≤ cs.length) := by
  have h1 := h.stages
  unfold zStages at h1
  rw [Bool.and_eq_true, Bool.and_eq_true, Bool.and_eq_true, Bool.and_eq_true] at h1
  obtain ⟨⟨⟨⟨h1, h2⟩, h3⟩, h4⟩, h6⟩ := h1
  have hget : ∀ j c, cs[j]? = some c → j < cs.length ∧ cs.getD j 0 = c := fun j c hc => ⟨(List.getElem?_eq_some_iff.1 hc).1, by rw [List.getD_eq_getElem?_getD, hc]; rfl⟩
  refine ⟨Nat.eq_of_beq_eq_true h1, fun c hc => by simpa using List.all_eq_true.1 h2 c hc, fun i j c hi hc => ?_, fun j c hc => ?_, fun i hi => by simpa using List.all_eq_true.1 h6 i (List.mem_range.2 hi)⟩
  · obtain ⟨hj, hg⟩ := hget j c hc
    have := List.all_eq_true.1 (List.all_eq_true.1 h3 i (List.mem_range.2 hi)) j (List.mem_range.2 hj)
    rw [hg] at this
    have h5 : (Nat.blt j (st.getD i 0)) = zDep ops ops.size i c := by simpa using this
    rw [← h5]
    simp
  · obtain ⟨hj, hg⟩ := hget j c hc
    have := List.all_eq_true.1 h4 j (List.mem_range.2 hj)
    rw [hg] at this
    exact Nat.eq_of_beq_eq_true this
theorem looks_of (hreg : ZReg ops a n cs st l) {lr : Array Bool} {f : Act} {i : Nat} {o : Oper} (hin : i < n) (ho : ops[i]? = some o) (hdeps : ∀ e ∈ o.after.toList, Region.binds .any e = true → zIn lr e.on)
    (h4 : ∀ (i : Nat) (t : Tmp) (v : Value), l[i]? = some (some t, v) → zIn lr i → f.tmps[t]? = some v) (h5 : ∀ (t : Tmp), (∀ (i : Nat) (v : Value), l[i]? = some (some t, v) → ¬ zIn lr i) → f.tmps[t]? = a.tmps[t]?) :
    ∀ t ∈ Oper.looksAt ops o, f.tmps[t]? = (zFin a l).tmps[t]? := by
  intro t ht
  by_cases hy : ∃ (j : Nat) (u : Value), l[j]? = some (some t, u)
  · obtain ⟨j, u, hy⟩ := hy
    obtain ⟨hjn, p, hp⟩ := hreg.op_of hy
    have hpd : p.dst = some t := (hreg.dst_of hp hy).symm
    obtain ⟨e, he, hbd, rfl⟩ := (zCoversN_spec hreg.cov hin hjn ho hp hpd).1 ht
    rw [h4 _ t u hy (hdeps e he hbd), hreg.fin_new hy]
  · have hy' : ∀ (j : Nat) (u : Value), l[j]? ≠ some (some t, u) := fun j u h => hy ⟨j, u, h⟩
    rw [h5 t (fun j u h => absurd h (hy' j u)), zfin_old t hy']
/-- One look more. -/
theorem next_of (hreg : ZReg ops a n cs st l) {lr : Array Bool} {f : Act} {i : Nat} {o : Oper} {t0 : Option Tmp} {v : Value} (hx : l[i]? = some (t0, v)) (hdo : t0 = o.dst) (hni : ¬ zIn lr i) (h1 : f.tmps.size = a.tmps.size)
    (h4 : ∀ (j : Nat) (t : Tmp) (v : Value), j ≠ i → l[j]? = some (some t, v) → zIn lr j → f.tmps[t]? = some v) (h5 : ∀ (t : Tmp), (∀ (i : Nat) (v : Value), l[i]? = some (some t, v) → ¬ zIn lr i) → f.tmps[t]? = a.tmps[t]?) :
    (∀ (j : Nat) (t : Tmp) (v' : Value), l[j]? = some (some t, v') → zIn (lr.setIfInBounds i true) j → (f.put o.dst v).tmps[t]? = some v') ∧ (∀ (t : Tmp), (∀ (j : Nat) (v' : Value), l[j]? = some (some t, v') → ¬ zIn (lr.setIfInBounds i true) j) → (f.put o.dst v).tmps[t]? = a.tmps[t]?) := by
  constructor
  · intro j t u hj hin
    by_cases hji : j = i
    · subst hji
      rw [hx] at hj
      simp only [Option.some.injEq, Prod.mk.injEq] at hj
      obtain ⟨hj1, rfl⟩ := hj
      rw [← hdo, hj1]
      have := hreg.lt (i := j) (t := t) (v := v) (by rw [hx, hj1])
      simp [Act.put, h1, this]
    · have hne : o.dst ≠ some t := fun h => hji (hreg.uniq hj hx rfl (by show t0 = some t; rw [hdo]; exact h))
      rw [put_ne hne]
      exact h4 j t u hji hj ((zIn_set.1 hin).resolve_left hji)
  · intro t ht
    have hne : o.dst ≠ some t := fun h => by
      have hx' : l[i]? = some (some t, v) := by rw [hx, hdo, h]
      exact ht i v hx' (zIn_set.2 (.inl rfl))
    rw [put_ne hne]
    exact h5 t fun j u hj hz => by
      by_cases hji : j = i
      · subst hji; exact hni hz
      · exact ht j u hj (zIn_set.2 (.inr hz))
theorem ZAt.tail {k : Nat} {S : World → Prop} (hk : k ≤ cs.length) (hreg : ZReg ops a n cs st l) (hend : k = cs.length → ∀ w', S w' → wpList P ops Q (ops.toList.drop n) (zFin a l) w') (lr : Array Bool) (f : Act) (w' : World) (fuel : Nat) (hf : zLeft lr ops.size = fuel) (hsz : lr.size = ops.size) (hout : ∀ i, n ≤ i → i < ops.size → ¬ zIn lr i) (hin : ∀ i, i < n → zIn lr i)
    (hcs : ∀ j c, cs[j]? = some c → (zIn lr c ↔ j < k)) (h1 : f.tmps.size = a.tmps.size) (h2 : f.defers = a.defers) (hS : S w')
    (h4 : ∀ (i : Nat) (t : Tmp) (v : Value), l[i]? = some (some t, v) → zIn lr i → f.tmps[t]? = some v) (h5 : ∀ (t : Tmp), (∀ (i : Nat) (v : Value), l[i]? = some (some t, v) → ¬ zIn lr i) → f.tmps[t]? = a.tmps[t]?) : wpAny P .any ops Q fuel lr f w' := by
  have hn := hreg.le
  obtain ⟨hstl, hcsn, hst, hstc, _⟩ := hreg.stage
  have he : f = zFin a l := by
    have ht : f.tmps = (zFin a l).tmps := by
      apply Array.ext_getElem?
      intro t
      by_cases hx : ∃ (i : Nat) (v : Value), l[i]? = some (some t, v)
      · obtain ⟨i, v, hx⟩ := hx
        rw [h4 i t v hx (hin i (hreg.op_of hx).1), hreg.fin_new hx]
      · have hx' : ∀ (i : Nat) (v : Value), l[i]? ≠ some (some t, v) := fun i v h => hx ⟨i, v, h⟩
        rw [h5 t (fun i v h => absurd h (hx' i v)), zfin_old t hx']
    have hdf : f.defers = (zFin a l).defers := by rw [h2, zFin_defers]
    cases f
    cases hz : zFin a l
    rw [hz] at ht hdf
    simp only at ht hdf
    subst ht
    subst hdf
    rfl
  have hmask : lr = zMask ops.size n := by
    apply Array.ext
    · simp [zMask, hsz]
    · intro i hi1 hi2
      have hio : i < ops.size := by rw [← hsz]; exact hi1
      have hget : lr.getD i true = lr[i] := by rw [Array.getD_eq_getD_getElem?, Array.getElem?_eq_getElem hi1]; rfl
      simp only [zMask, List.getElem_toArray, List.getElem_map, List.getElem_range]
      by_cases hin' : i < n
      · have := hin i hin'
        unfold zIn at this
        rw [hget] at this
        rw [this]
        simp [hin']
      · have := hout i (by omega) hio
        unfold zIn at this
        rw [hget] at this
        have h2 : lr[i] = false := by simpa using this
        rw [h2]
        have h3 : Nat.blt i n = false := by
          cases hz : Nat.blt i n with
          | false => rfl
          | true => exact absurd (by simpa using hz) hin'
        exact h3.symm
  have hfuel : fuel = ops.size - n := by rw [← hf]; exact zLeft_mask hin hout hn
  have hk' : k = cs.length := by
    rcases Nat.lt_or_ge k cs.length with h | h
    · have hc := List.getElem?_eq_getElem h
      have := (hcs k _ hc).1 (hin _ (hcsn _ (List.getElem_mem h)))
      omega
    · omega
  rw [he, hfuel, hmask]
  exact wpAny_seq' hreg.seq (by simp) (hend hk' w' hS)
/-- What is common to both ways on. k = cs.length: the end; else the k-th of cs is still to come. -/
theorem ZAt.main {k : Nat} {S : World → Prop} (hk : k ≤ cs.length) (hreg : ZReg ops a n cs st l) (hsee : ZSees P ops S (zFin a l) ops.toList l (zWants ops cs st k))
    (hend : k = cs.length → ∀ w', S w' → wpList P ops Q (ops.toList.drop n) (zFin a l) w')
    (hturn : ∀ c, cs[k]? = some c → ∀ (fuel : Nat) (lr : Array Bool) (f : Act) (w' : World) (o : Oper), ops[c]? = some o → zLeft lr ops.size = fuel + 1 → lr.size = ops.size →
      (∀ (i : Nat) (o : Oper), ops[i]? = some o → zIn lr i → ∀ e ∈ o.after.toList, Region.binds .any e = true → zIn lr e.on) → (∀ i, n ≤ i → i < ops.size → ¬ zIn lr i) →
      (∀ j c, cs[j]? = some c → (zIn lr c ↔ j < k)) → f.tmps.size = a.tmps.size → f.defers = a.defers → S w' → (∀ e ∈ o.after.toList, Region.binds .any e = true → zIn lr e.on) →
      (∀ (i : Nat) (t : Tmp) (v : Value), l[i]? = some (some t, v) → zIn lr i → f.tmps[t]? = some v) → (∀ (t : Tmp), (∀ (i : Nat) (v : Value), l[i]? = some (some t, v) → ¬ zIn lr i) → f.tmps[t]? = a.tmps[t]?) →
      ∀ K', (∀ f' w'', wpAny P .any ops Q fuel (lr.setIfInBounds c true) f' w'' → K' f' w'') → if Region.wanted o (yielded ops f.tmps) = true then o.wp P f w' K' Q else K' (f.put o.dst undef) w') : ZAt P ops Q a n cs k l S := by
  have hlen := hreg.len
  obtain ⟨hstl, hcsn, hst, hstc, hsto⟩ := hreg.stage
  have hn := hreg.le
  have hsz0 : ∀ {i : Nat} {o : Oper}, ops[i]? = some o → i < ops.size := fun h => (Array.getElem?_eq_some_iff.1 h).1
  intro fuel
  induction fuel with
  | zero =>
    intro lr f w' hleft hsz hcl hout hcs h1 h2 hS h4 h5
    exact ZAt.tail hk hreg hend lr f w' 0 hleft hsz hout (fun i hi => zLeft_zero hleft (by omega)) hcs h1 h2 hS h4 h5
  | succ fuel ih =>
    intro lr f w' hleft hsz hcl hout hcs h1 h2 hS h4 h5
    by_cases hfull : ∀ i, i < n → zIn lr i
    · exact ZAt.tail hk hreg hend lr f w' _ hleft hsz hout hfull hcs h1 h2 hS h4 h5
    refine ⟨fun hr => absurd (fun i hi => zSome hreg.back hr i (by omega)) hfull, fun i hi => ?_⟩
    obtain ⟨o, ho, hil, hni, hdeps⟩ := zReady hi
    have hin : i < n := by
      rcases Nat.lt_or_ge i n with h | h
      · exact h
      · exfalso
        have h1 := List.all_eq_true.1 hreg.tail i (List.mem_range.2 hil)
        rw [Bool.or_eq_true] at h1
        rcases h1 with h1 | h1
        · have : i < n := by simpa using h1
          omega
        · exact hfull fun j hj => zDep_in hcl _ i j o ho hdeps (List.all_eq_true.1 h1 j (List.mem_range.2 hj))
    -- its stage has come
    have hstage : st.getD i 0 ≤ k := by
      rcases Nat.lt_or_ge k (st.getD i 0) with h | h
      · exfalso
        by_cases hkc : k < cs.length
        · have hc := List.getElem?_eq_getElem hkc
          have hd := (hst i k _ hin hc).1 h
          have := zDep_in hcl _ i _ o ho hdeps hd
          have := (hcs k _ hc).1 this
          omega
        · -- the whole of cs is done: the stage is never more than that
          have := hsto i hin
          omega
      · exact h
    refine wpOp_step ho fun K' hK' => ?_
    by_cases hic : i ∈ cs
    · obtain ⟨j, hj, hji⟩ := List.getElem_of_mem hic
      have hjc : cs[j]? = some i := by rw [List.getElem?_eq_getElem hj, hji]
      have hjs := hstc j i hjc
      have hjk : j = k := by
        have h6 : ¬ j < k := fun h => hni ((hcs j i hjc).2 h)
        omega
      subst hjk
      exact hturn i hjc fuel lr f w' o ho hleft hsz hcl hout hcs h1 h2 hS hdeps h4 h5 K' hK'
    · obtain ⟨⟨t0, v0⟩, hx⟩ : ∃ x, l[i]? = some x := ⟨_, List.getElem?_eq_getElem (by omega)⟩
      have hdo : t0 = o.dst := hreg.dst_of ho hx
      have hlk := looks_of hreg hin ho hdeps h4 h5
      have hwant := wanted_looks hlk
      have hmk : (zWants ops cs st k)[i]? = some true := by
        unfold zWants
        rw [List.getElem?_map, List.getElem?_range (by omega)]
        have h1 : cs.contains i = false := by
          cases h : cs.contains i with
          | false => rfl
          | true => exact absurd (by simpa using h) hic
        have h2 : Nat.ble (st.getD i 0) k = true := Nat.ble_eq_true_of_le hstage
        have h3 : zPast ops cs k i = false := by
          cases k with
          | zero => rfl
          | succ j =>
            cases hz : zPast ops cs (j + 1) i with
            | false => rfl
            | true =>
              exfalso
              have hjl : j < cs.length := by omega
              have hc := List.getElem?_eq_getElem hjl
              have hg : cs.getD j 0 = cs[j] := by rw [List.getD_eq_getElem?_getD, hc]; rfl
              have hz : zDep ops ops.size (cs.getD j 0) i = true := hz
              rw [hg] at hz
              have hcin := (hcs j _ hc).2 (by omega)
              have hcn' := hcsn _ (List.mem_of_getElem? hc)
              have hp : ops[cs[j]]? = some (ops[cs[j]]'(by omega)) := Array.getElem?_eq_getElem (by omega)
              exact hni (zDep_in hcl _ _ i _ hp (hcl _ _ hp hcin) hz)
        simp only [Option.map_some, h1, h2, h3]
        rfl
      have hs := hsee.get (i := i) (by rw [Array.getElem?_toList]; exact ho) hx hmk w' hS
      rw [← hwant] at hs
      obtain ⟨n4, n5⟩ := next_of hreg hx hdo hni h1 (fun j t v _ => h4 j t v) h5
      have next : wpAny P .any ops Q fuel (lr.setIfInBounds i true) (f.put o.dst v0) w' := by
        refine ih _ _ w' (by have := zLeft_set' (by rw [hsz]; exact hil) hni hil; omega) (by simp [hsz]) ?_ ?_ ?_ ?_ ?_ hS n4 n5
        · intro j p hp hj e he hbd
          refine zIn_set.2 (.inr ?_)
          rcases zIn_set.1 hj with rfl | hj
          · rw [ho] at hp
            cases hp
            exact hdeps e he hbd
          · exact hcl j p hp hj e he hbd
        · intro j h1 h2 h3
          rcases zIn_set.1 h3 with rfl | h3
          · omega
          · exact hout j h1 h2 h3
        · intro j c hc
          rw [zIn_set, ← hcs j c hc]
          constructor
          · rintro (rfl | h)
            · exact absurd (List.mem_of_getElem? hc) hic
            · exact h
          · exact .inr
        · cases ho' : o.dst <;> simp [Act.put, h1]
        · cases ho' : o.dst <;> simp [Act.put, h2]
      split
      · rename_i hwt
        rw [if_pos hwt] at hs
        have hev := execOp_congr o (fun cs b => Region.noSelect_spec hreg.sel i o cs b ho) (eval_looks hlk)
        unfold Oper.wp
        rw [hev, hs]
        exact hK' _ _ next
      · rename_i hwt
        rw [if_neg hwt] at hs
        rw [← hs]
        exact hK' _ _ next
theorem ZAt.done {S : World → Prop} {k : Nat} {aF : Act} (haF : zFin a l = aF) (hk : k = cs.length) (hreg : ZReg ops a n cs st l) (bs : List Bool) (hbs : zWants ops cs st k = bs) (hsee : ZSees P ops S aF ops.toList l bs) (hend : ∀ w', S w' → wpList P ops Q (ops.toList.drop n) aF w') : ZAt P ops Q a n cs k l S := by
  subst haF hbs
  exact ZAt.main (Nat.le_of_eq hk) hreg hsee (fun _ => hend) fun c hc => by rw [hk, List.getElem?_eq_none (Nat.le_refl _)] at hc; cases hc
/-- The k-th of cs turns the world; us: what stage k + 1 yields. -/
theorem ZAt.step0 {S : World → Prop} {S' : Value → World → Prop} {k c : Nat} (hc : cs[k]? = some c) (hreg : ZReg ops a n cs st l) (hsee : ZSees P ops S (zFin a l) ops.toList l (zWants ops cs st k)) (hturn : ∀ o, ops[c]? = some o → ZTurn P ops Q S S' (zFin a l) o)
    (hnext : ∀ u W, S' u W → ∃ us : List (Nat × Value), us.all (fun x => Nat.beq (st.getD x.1 0) (k + 1) && !cs.contains x.1) = true ∧ ZAt P ops Q a n cs (k + 1) (zUpd l ((c, u) :: us)) (S' u)) : ZAt P ops Q a n cs k l S := by
  have hkl : k < cs.length := (List.getElem?_eq_some_iff.1 hc).1
  refine ZAt.main (Nat.le_of_lt hkl) hreg hsee (fun h => absurd h (Nat.ne_of_lt hkl)) fun c' hc' => ?_
  obtain rfl : c = c' := by rw [hc] at hc'; exact Option.some.inj hc'
  intro fuel lr f w' o ho hleft hsz hcl hout hcs h1 h2 hS hdeps h4 h5 K' hK'
  obtain ⟨hstl, hcsn, hst, hstc, hsto⟩ := hreg.stage
  have hcn : c < n := hcsn c (List.mem_of_getElem? hc)
  have hcz : c < ops.size := (Array.getElem?_eq_some_iff.1 ho).1
  have hni : ¬ zIn lr c := fun h => by have := (hcs k c hc).1 h; omega
  have hlk := looks_of hreg hcn ho hdeps h4 h5
  obtain ⟨hwt, hca⟩ := hturn o ho
  have hwant := wanted_looks hlk
  have hops := eval_looks hlk
  have hev := execOp_congr o (fun cs b => Region.noSelect_spec hreg.sel c o cs b ho) hops
  rw [if_pos (by rw [hwant]; exact hwt)]
  refine hca w' hS K' f hev hops fun u w'' hS' => hK' _ _ ?_
  obtain ⟨us, hus, hnext⟩ := hnext u w'' hS'
  have hr' := hreg.upd ((c, u) :: us)
  obtain ⟨⟨t0, v0⟩, hx⟩ : ∃ x, l[c]? = some x := ⟨_, List.getElem?_eq_getElem (by rw [hreg.len]; exact hcn)⟩
  have hdo : t0 = o.dst := hreg.dst_of ho hx
  -- a place that is set anew stands not listed
  have hfar : ∀ x ∈ us, x.1 ≠ c ∧ (x.1 < n → ¬ zIn lr x.1) := by
    intro x hx
    have := List.all_eq_true.1 (hus) x hx
    rw [Bool.and_eq_true] at this
    obtain ⟨e1, e2⟩ := this
    have e1 := Nat.eq_of_beq_eq_true e1
    refine ⟨fun e => ?_, fun hxn hin => ?_⟩
    · rw [e, hstc k c hc] at e1; omega
    · have hp : ∃ p, ops[x.1]? = some p := ⟨_, Array.getElem?_eq_getElem (by have := hreg.le; omega)⟩
      obtain ⟨p, hp⟩ := hp
      have := zDep_in hcl _ x.1 c p hp (hcl _ p hp hin) ((hst x.1 k c hxn hc).1 (by omega))
      exact hni this
  have hM : (zUpd l ((c, u) :: us))[c]? = some (t0, u) := by
    unfold zUpd
    rw [zUpd_far _ _ _ (fun x hx => (hfar x hx).1), List.getElem?_set_self (by rw [hreg.len]; exact hcn)]
    rw [List.getD_eq_getElem?_getD, hx]; rfl
  have hMj : ∀ j, j ≠ c → zIn lr j → j < n → (zUpd l ((c, u) :: us))[j]? = l[j]? := by
    intro j hj hin hjn
    refine zUpd_far _ _ _ fun x hx => ?_
    rcases List.mem_cons.1 hx with rfl | hx
    · exact fun e => hj e.symm
    · exact fun e => (hfar x hx).2 (by omega) (by rw [e]; exact hin)
  have h4' : ∀ (j : Nat) (t : Tmp) (v : Value), j ≠ c → (zUpd l ((c, u) :: us))[j]? = some (some t, v) → zIn lr j → f.tmps[t]? = some v := fun j t v hj hl hin => by
    have hjn := (hr'.op_of hl).1
    rw [hMj j hj hin hjn] at hl
    exact h4 j t v hl hin
  have h5' : ∀ (t : Tmp), (∀ (i : Nat) (v : Value), (zUpd l ((c, u) :: us))[i]? = some (some t, v) → ¬ zIn lr i) → f.tmps[t]? = a.tmps[t]? := fun t ht => h5 t fun j v hl hin => by
    by_cases hj : j = c
    · subst hj; exact hni hin
    · exact ht j v (by rw [hMj j hj hin (hreg.op_of hl).1]; exact hl) hin
  obtain ⟨n4, n5⟩ := next_of hr' hM hdo hni h1 h4' h5'
  refine hnext fuel _ _ w'' (by have := zLeft_set' (by rw [hsz]; exact hcz) hni hcz; omega) (by simp [hsz]) ?_ ?_ ?_ ?_ ?_ hS' n4 n5
  · intro j p hp hj e he hbd
    refine zIn_set.2 (.inr ?_)
    rcases zIn_set.1 hj with rfl | hj
    · rw [ho] at hp
      cases hp
      exact hdeps e he hbd
    · exact hcl j p hp hj e he hbd
  · intro j h1 h2 h3
    rcases zIn_set.1 h3 with rfl | h3
    · omega
    · exact hout j h1 h2 h3
  · intro j d hd
    rw [zIn_set, hcs j d hd]
    constructor
    · rintro (rfl | h)
      · have e1 := hstc j _ hd
        have e2 := hstc k _ hc
        omega
      · omega
    · intro h
      rcases Nat.lt_or_ge j k with h' | h'
      · exact .inr h'
      · obtain rfl : j = k := by omega
        rw [hc] at hd
        exact .inl (Option.some.inj hd).symm
  · cases ho' : o.dst <;> simp [Act.put, h1]
  · cases ho' : o.dst <;> simp [Act.put, h2]
/-- .. for a walk. -/
theorem ZAt.step {S : World → Prop} (S' : Value → World → Prop) {k : Nat} (c : Nat) {aF : Act} (haF : zFin a l = aF) (hc : cs[k]? = some c) (hreg : ZReg ops a n cs st l) (bs : List Bool) (hbs : zWants ops cs st k = bs) (hsee : ZSees P ops S aF ops.toList l bs) (hturn : ∀ o, ops[c]? = some o → ZTurn P ops Q S S' aF o)
    (hnext : ∀ u W, S' u W → ∃ (us : List (Nat × Value)) (l' : ZRow), us.all (fun x => Nat.beq (st.getD x.1 0) (k + 1) && !cs.contains x.1) = true ∧ zUpd l ((c, u) :: us) = l' ∧ (ZReg ops a n cs st l' → ZAt P ops Q a n cs (k + 1) l' (S' u))) : ZAt P ops Q a n cs k l S := by
  subst haF hbs
  refine ZAt.step0 hc hreg hsee hturn fun u W hW => ?_
  obtain ⟨us, l', h1, rfl, h2⟩ := hnext u W hW
  exact ⟨us, h1, h2 (hreg.upd _)⟩
theorem ZAt.weaken {S S' : World → Prop} {k : Nat} (h : ∀ w, S w → S' w) (hz : ZAt P ops Q a n cs k l S') : ZAt P ops Q a n cs k l S :=
  fun fuel lr f w' h1 h2 h3 h4 h5 h6 h7 hS h8 h9 => hz fuel lr f w' h1 h2 h3 h4 h5 h6 h7 (h _ hS) h8 h9
/-- The region itself. -/
theorem region_staged {id : Nat} {S : World → Prop} {w : World} (hm : P.follows .mixedOrders = true) (hreg : ZReg ops a n cs st l) (hw : S { w with drawn := w.drawn + 1 }) (h : ZReg ops a n cs st l → ZAt P ops Q a n cs 0 l S) : (Code.region id ops true).wp P Q a w := by
  obtain ⟨hstl, hcsn, hst, hstc, hsto⟩ := hreg.stage
  have hn := hreg.le
  have hno : ∀ i, i < ops.size → ¬ zIn (Array.replicate ops.size false) i := fun i hi hin => by
    unfold zIn at hin
    rw [Array.getD_eq_getD_getElem?] at hin
    simp [hi] at hin
  refine wp_region_any hm (h hreg ops.size (Array.replicate ops.size false) a _ (zLeft_none (Nat.le_refl _)) (by simp) ?_ ?_ ?_ rfl rfl hw ?_ ?_)
  · intro i o ho hin
    exact absurd hin (hno i (Array.getElem?_eq_some_iff.1 ho).1)
  · intro i _ hi hin
    exact hno i hi hin
  · intro j c hc
    exact ⟨fun hin => absurd hin (hno c (by have := hcsn c (List.mem_of_getElem? hc); omega)), fun h => by omega⟩
  · intro i t v hx hin
    exact absurd hin (hno i (by have := (hreg.op_of hx).1; omega))
  · intro t _
    rfl
end
section
variable {S : World → Prop} {S' : Value → World → Prop} {aF : Act} {o : Oper} {v : Value}
theorem ZSee.skip (h : Region.wanted o (yielded ops aF.tmps) = false) : ZSee P ops S aF o undef := fun w _ => by
  rw [if_neg (by rw [h]; decide)]
theorem ZSee.val (h : Region.wanted o (yielded ops aF.tmps) = true) (hv : ∀ w, S w → (execOp aF.eval o).run P w = .ok (.value v) w) : ZSee P ops S aF o v := fun w hw => by
  rw [if_pos h]
  exact hv w hw
theorem ZTurn.call (h : Region.wanted o (yielded ops aF.tmps) = true) (g : FuncId) (args : Array Value) (hr : ∀ w, S w → (execOp aF.eval o).run P w = .ok (.enter g args) w) (hc : ∀ w, S w → Calls P g args w fun e w' => ∃ u, e = .returned u ∧ S' u w') : ZTurn P ops Q S S' aF o := ⟨h, fun w hw K f hev _ hK => by
  unfold Oper.wp
  rw [hev, hr w hw]
  refine (hc w hw).mono ?_
  rintro e w' ⟨u, rfl, hw'⟩
  exact hK u w' hw'⟩
theorem ZTurn.val (h : Region.wanted o (yielded ops aF.tmps) = true) (hr : ∀ w, S w → ∃ u w', (execOp aF.eval o).run P w = .ok (.value u) w' ∧ S' u w') : ZTurn P ops Q S S' aF o := ⟨h, fun w hw K f hev _ hK => by
  obtain ⟨u, w', hr, hs⟩ := hr w hw
  unfold Oper.wp
  rw [hev, hr]
  exact hK u w' hs⟩
end
end
end Go.Proofs.YthojmgjgmbnopaaGreatDoor
