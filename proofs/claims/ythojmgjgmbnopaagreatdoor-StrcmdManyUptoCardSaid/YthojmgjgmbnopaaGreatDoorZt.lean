/- A region that draws its order, of which one operation calls with a result not known ahead, the others of the first n only look, and the rest comes in the text's order: it is run in ONE order alone. No program is named. -/
import Derived.Test.YthojmgjgmbnopaaGreatDoorJF
import Derived.StillTail
import Derived.Deep.RegionLaw
namespace Go.Proofs.YthojmgjgmbnopaaGreatDoor
open Go
section
def zDep (ops : Array Oper) : Nat → Nat → Nat → Bool
  | 0, _, _ => false
  | k + 1, i, j => match ops[i]? with
    | none => false
    | some o => o.after.toList.any fun e => Region.binds .any e && (Nat.beq e.on j || zDep ops k e.on j)
/-- What comes behind the first n waits for all of them. -/
def zTail (ops : Array Oper) (n : Nat) : Bool := (List.range ops.size).all fun i => Nat.blt i n || (List.range n).all fun j => zDep ops ops.size i j
def zMask (size n : Nat) : Array Bool := ((List.range size).map fun i => Nat.blt i n).toArray
/-- The first n, but the c-th, do not look at d. -/
def zBlind (ops : Array Oper) (n c : Nat) (d : Tmp) : Bool := (List.range n).all fun i => Nat.beq i c || match ops[i]? with
  | some o => !(o.looksAt ops).contains d
  | none => true
theorem zDep_in {ops : Array Oper} {lr : Array Bool} (hcl : ∀ (i : Nat) (o : Oper), ops[i]? = some o → zIn lr i → ∀ e ∈ o.after.toList, Region.binds .any e = true → zIn lr e.on) :
    ∀ (k i j : Nat) (o : Oper), ops[i]? = some o → (∀ e ∈ o.after.toList, Region.binds .any e = true → zIn lr e.on) → zDep ops k i j = true → zIn lr j
  | 0, _, _, _, _, _, h => by cases h
  | k + 1, i, j, o, ho, hr, h => by
    unfold zDep at h
    rw [ho] at h
    obtain ⟨e, he, hb⟩ := List.any_eq_true.1 h
    rw [Bool.and_eq_true, Bool.or_eq_true] at hb
    obtain ⟨hb1, hb2⟩ := hb
    have hin := hr e he hb1
    rcases hb2 with hb2 | hb2
    · rw [Nat.eq_of_beq_eq_true hb2] at hin; exact hin
    · cases hx : ops[e.on]? with
      | none =>
        cases k with
        | zero => cases hb2
        | succ k => unfold zDep at hb2; rw [hx] at hb2; cases hb2
      | some p => exact zDep_in hcl k e.on j p hx (hcl _ _ hx hin) hb2
theorem zLeft_succ (lr : Array Bool) (n : Nat) : zLeft lr (n + 1) = zLeft lr n + (if lr.getD n true then 0 else 1) := by
  unfold zLeft
  rw [List.range_succ, List.filter_append, List.length_append]
  congr 1
  simp only [List.filter_cons, List.filter_nil]
  cases lr.getD n true <;> rfl
theorem zLeft_far {lr : Array Bool} {i : Nat} : ∀ {n : Nat}, n ≤ i → zLeft (lr.setIfInBounds i true) n = zLeft lr n
  | 0, _ => rfl
  | n + 1, h => by
    rw [zLeft_succ, zLeft_succ, zLeft_far (by omega)]
    have : (lr.setIfInBounds i true).getD n true = lr.getD n true := by
      rw [Array.getD_eq_getD_getElem?, Array.getD_eq_getD_getElem?, Array.getElem?_setIfInBounds_ne (by omega)]
    rw [this]
theorem zLeft_set' {lr : Array Bool} {i : Nat} (hs : i < lr.size) (h : ¬ zIn lr i) : ∀ {n : Nat}, i < n → zLeft (lr.setIfInBounds i true) n + 1 = zLeft lr n
  | 0, hi => by omega
  | n + 1, hi => by
    rw [zLeft_succ, zLeft_succ]
    by_cases hin : i = n
    · subst hin
      rw [zLeft_far (Nat.le_refl _)]
      have h1 : (lr.setIfInBounds i true).getD i true = true := zIn_set.2 (.inl rfl)
      have h2 : lr.getD i true = false := by unfold zIn at h; simpa using h
      rw [h1, h2]
      simp
    · have := zLeft_set' hs h (n := n) (by omega)
      have h1 : (lr.setIfInBounds i true).getD n true = lr.getD n true := by
        rw [Array.getD_eq_getD_getElem?, Array.getD_eq_getD_getElem?, Array.getElem?_setIfInBounds_ne (by omega)]
      rw [h1]
      omega
theorem zLeft_none {size : Nat} : ∀ {n : Nat}, n ≤ size → zLeft (Array.replicate size false) n = n
  | 0, _ => rfl
  | n + 1, h => by
    rw [zLeft_succ, zLeft_none (by omega), Array.getD_eq_getD_getElem?]
    simp [show n < size by omega]
theorem zLeft_mask {lr : Array Bool} {k n : Nat} (hin : ∀ i, i < k → zIn lr i) (hout : ∀ i, k ≤ i → i < n → ¬ zIn lr i) (hk : k ≤ n) : zLeft lr n = n - k := by
  induction n with
  | zero => simp [zLeft]
  | succ n ih =>
    rw [zLeft_succ]
    by_cases hkn : k = n + 1
    · subst hkn
      have : zLeft lr n = 0 := by
        unfold zLeft
        rw [List.length_eq_zero_iff, List.filter_eq_nil_iff]
        intro j hj
        have := hin j (by have := List.mem_range.1 hj; omega)
        unfold zIn at this
        simp [this]
      rw [this]
      have := hin n (by omega)
      unfold zIn at this
      rw [this]
      simp
    · rw [ih (fun i h1 h2 => hout i h1 (by omega)) (by omega)]
      have := hout n (by omega) (by omega)
      unfold zIn at this
      have h2 : lr.getD n true = false := by simpa using this
      rw [h2]
      simp
      omega
variable {P : Program} {ops : Array Oper} {Q : Exit → Act → World → Prop}
/-- What an operation that only looks must do. -/
def ZLook (P : Program) (ops : Array Oper) (S0 : World → Prop) (S1 : Value → World → Prop) (aF : Act) (o : Oper) (v : Value) : Prop :=
  ∀ w, (S0 w ∨ ∃ u, S1 u w) → if Region.wanted o (yielded ops aF.tmps) = true then (execOp aF.eval o).run P w = .ok (.value v) w else v = undef
/-- What the one that calls must do. -/
def ZCall (P : Program) (ops : Array Oper) (Q : Exit → Act → World → Prop) (S0 : World → Prop) (S1 : Value → World → Prop) (aF : Act) (o : Oper) : Prop :=
  Region.wanted o (yielded ops aF.tmps) = true ∧ ∀ w, S0 w → ∀ (K : Act → World → Prop) (f : Act), (∀ u w', S1 u w' → K (f.put o.dst u) w') → o.upon P f K Q ((execOp aF.eval o).run P w)
theorem wpAny_seq' {md : Region.Mode} {n k : Nat} {listed : Array Bool} {a : Act} {w : World} (hB : Region.seqB md ops n k listed = true) (hn : (ops.toList.drop k).length = n) (h : wpList P ops Q (ops.toList.drop k) a w) : wpAny P md ops Q n listed a w := by
  subst hn
  exact wpAny_of_seq _ k _ _ _ (fun j => by rw [List.getElem?_drop, Array.getElem?_toList]) hB h
theorem region_tail_one {id : Nat} {S0 : World → Prop} {S1 : Value → World → Prop} {a : Act} {w : World} (n c : Nat) (d : Tmp) (hm : P.follows .mixedOrders = true) (hs : Region.noSelect ops = true) (hb : zBack ops = true) (hc : zCovers ops = true)
    (hn : n ≤ ops.size) (hcn : c < n) (ht : zTail ops n = true) (hseq : Region.seqB .any ops (ops.size - n) n (zMask ops.size n) = true) (hbl : zBlind ops n c d = true)
    (l : List (Option Tmp × Value)) (hl : l.map (·.1) = (ops.toList.take n).map (·.dst)) (hlc : l[c]? = some (some d, undef)) (hd : l.all (fun x => match x.1 with | some d => Nat.blt d a.tmps.size | none => true) = true) (hw : S0 { w with drawn := w.drawn + 1 })
    (hstep : ∀ (i : Nat) (o : Oper) (t : Option Tmp) (v : Value), i ≠ c → ops[i]? = some o → l[i]? = some (t, v) → ZLook P ops S0 S1 (zFin a l) o v)
    (hcall : ∀ o, ops[c]? = some o → ZCall P ops Q S0 S1 (zFin a l) o)
    (hQ : ∀ u w', S1 u w' → wpList P ops Q (ops.toList.drop n) (zFin a (l.set c (some d, u))) w') : (Code.region id ops true).wp P Q a w := by
  have hlen : l.length = n := by have := congrArg List.length hl; simpa [hn] using this
  have dst_of : ∀ (i : Nat) (o : Oper) (x : Option Tmp × Value), ops[i]? = some o → l[i]? = some x → x.1 = o.dst := by
    intro i o x ho hx
    have hi : i < n := by rw [← hlen]; exact (List.getElem?_eq_some_iff.1 hx).1
    have h1 : (l.map (·.1))[i]? = some x.1 := by rw [List.getElem?_map, hx]; rfl
    have h2 : ((ops.toList.take n).map (·.dst))[i]? = some o.dst := by rw [List.getElem?_map, List.getElem?_take_of_lt hi, Array.getElem?_toList, ho]; rfl
    rw [hl, h2] at h1
    exact (Option.some.inj h1).symm
  have op_of : ∀ (i : Nat) (x : Option Tmp × Value), l[i]? = some x → ∃ o, ops[i]? = some o := by
    intro i x hx
    have : i < l.length := (List.getElem?_eq_some_iff.1 hx).1
    exact ⟨ops[i]'(by omega), Array.getElem?_eq_getElem (by omega)⟩
  have uniq : ∀ (i j : Nat) (x y : Option Tmp × Value) (t : Tmp), l[i]? = some x → l[j]? = some y → x.1 = some t → y.1 = some t → i = j := by
    intro i j x y t hx hy h1 h2
    obtain ⟨o, ho⟩ := op_of i x hx
    obtain ⟨p, hp⟩ := op_of j y hy
    have e1 := dst_of i o x ho hx
    have e2 := dst_of j p y hp hy
    rcases Nat.decEq i j with hne | rfl
    · exact absurd (by rw [← e1]; exact h1) ((zCovers_spec hc ho hp (by rw [← e2]; exact h2)).2 hne)
    · rfl
  -- a row of values with the call's own set
  have set_get : ∀ (u : Value) (i : Nat) (x : Option Tmp × Value), (l.set c (some d, u))[i]? = some x → (i = c ∧ x = (some d, u)) ∨ (i ≠ c ∧ l[i]? = some x) := by
    intro u i x hx
    by_cases hic : i = c
    · subst hic
      rw [List.getElem?_set_self (by omega)] at hx
      exact .inl ⟨rfl, (Option.some.inj hx).symm⟩
    · rw [List.getElem?_set_ne (fun e => hic e.symm)] at hx
      exact .inr ⟨hic, hx⟩
  have fst_of : ∀ (u : Value) (i : Nat) (x : Option Tmp × Value), (l.set c (some d, u))[i]? = some x → ∃ y, l[i]? = some y ∧ y.1 = x.1 := by
    intro u i x hx
    rcases set_get u i x hx with ⟨rfl, rfl⟩ | ⟨_, h⟩
    · exact ⟨_, hlc, rfl⟩
    · exact ⟨x, h, rfl⟩
  -- M: the row that holds now
  let R (M : List (Option Tmp × Value)) (lr : Array Bool) (w' : World) : Prop := (M = l ∧ ¬ zIn lr c ∧ S0 w') ∨ ∃ u, M = l.set c (some d, u) ∧ zIn lr c ∧ S1 u w'
  have M_fst : ∀ {M lr w'}, R M lr w' → ∀ (i : Nat) (x : Option Tmp × Value), M[i]? = some x → ∃ y, l[i]? = some y ∧ y.1 = x.1 := by
    intro M lr w' hR i x hx
    rcases hR with ⟨rfl, _, _⟩ | ⟨u, rfl, _, _⟩
    · exact ⟨x, hx, rfl⟩
    · exact fst_of u i x hx
  have M_uniq : ∀ {M lr w'}, R M lr w' → ∀ (i j : Nat) (x y : Option Tmp × Value) (t : Tmp), M[i]? = some x → M[j]? = some y → x.1 = some t → y.1 = some t → i = j := by
    intro M lr w' hR i j x y t hx hy h1 h2
    obtain ⟨x', hx', e1⟩ := M_fst hR i x hx
    obtain ⟨y', hy', e2⟩ := M_fst hR j y hy
    exact uniq i j x' y' t hx' hy' (by rw [e1]; exact h1) (by rw [e2]; exact h2)
  have small : ∀ {M lr w'}, R M lr w' → ∀ (i : Nat) (t : Tmp) (v : Value), M[i]? = some (some t, v) → t < a.tmps.size := by
    intro M lr w' hR i t v hx
    obtain ⟨y, hy, e⟩ := M_fst hR i _ hx
    have := List.all_eq_true.1 hd _ (List.mem_of_getElem? hy)
    rw [e] at this
    simpa using this
  have fin_new : ∀ {M lr w'}, R M lr w' → ∀ (i : Nat) (t : Tmp) (v : Value), M[i]? = some (some t, v) → (zFin a M).tmps[t]? = some v := fun {M lr w'} hR i t v hx =>
    zFin_new M a t i v hx (fun j x hj hx' he => hj (M_uniq hR j i x _ t hx' hx he rfl)) (small hR i t v hx)
  have fin_old : ∀ (M : List (Option Tmp × Value)) (t : Tmp), (∀ (i : Nat) (v : Value), M[i]? ≠ some (some t, v)) → (zFin a M).tmps[t]? = a.tmps[t]? := fun M t h =>
    zFin_old M a t fun x hx he => by
      obtain ⟨i, hi, e⟩ := List.getElem_of_mem hx
      obtain ⟨d, v⟩ := x
      simp only at he
      subst he
      exact h i v (by rw [List.getElem?_eq_getElem hi, e])
  have R_len : ∀ {M lr w'}, R M lr w' → M.length = n := by
    intro M lr w' hR
    rcases hR with ⟨rfl, _, _⟩ | ⟨u, rfl, _, _⟩
    · exact hlen
    · rw [List.length_set]; exact hlen
  have main : ∀ (fuel : Nat) (lr : Array Bool) (f : Act) (w' : World) (M : List (Option Tmp × Value)), zLeft lr ops.size = fuel → lr.size = ops.size →
      (∀ (i : Nat) (o : Oper), ops[i]? = some o → zIn lr i → ∀ e ∈ o.after.toList, Region.binds .any e = true → zIn lr e.on) → (∀ i, n ≤ i → i < ops.size → ¬ zIn lr i) →
      f.tmps.size = a.tmps.size → f.defers = a.defers → R M lr w' →
      (∀ (i : Nat) (t : Tmp) (v : Value), M[i]? = some (some t, v) → zIn lr i → f.tmps[t]? = some v) → (∀ (t : Tmp), (∀ (i : Nat) (v : Value), M[i]? = some (some t, v) → ¬ zIn lr i) → f.tmps[t]? = a.tmps[t]?) → wpAny P .any ops Q fuel lr f w' := by
    have atTail : ∀ (fuel : Nat) (lr : Array Bool) (f : Act) (w' : World) (M : List (Option Tmp × Value)), zLeft lr ops.size = fuel → lr.size = ops.size → (∀ i, n ≤ i → i < ops.size → ¬ zIn lr i) → (∀ i, i < n → zIn lr i) →
        f.tmps.size = a.tmps.size → f.defers = a.defers → R M lr w' →
        (∀ (i : Nat) (t : Tmp) (v : Value), M[i]? = some (some t, v) → zIn lr i → f.tmps[t]? = some v) → (∀ (t : Tmp), (∀ (i : Nat) (v : Value), M[i]? = some (some t, v) → ¬ zIn lr i) → f.tmps[t]? = a.tmps[t]?) → wpAny P .any ops Q fuel lr f w' := by
      intro fuel lr f w' M hf hsz hout hin h1 h2 hR h4 h5
      have hMl := R_len hR
      have he : f = zFin a M := by
        have ht : f.tmps = (zFin a M).tmps := by
          apply Array.ext_getElem?
          intro t
          by_cases hx : ∃ (i : Nat) (v : Value), M[i]? = some (some t, v)
          · obtain ⟨i, v, hx⟩ := hx
            have hi : i < n := by rw [← hMl]; exact (List.getElem?_eq_some_iff.1 hx).1
            rw [h4 i t v hx (hin i hi), fin_new hR i t v hx]
          · have hx' : ∀ (i : Nat) (v : Value), M[i]? ≠ some (some t, v) := fun i v h => hx ⟨i, v, h⟩
            rw [h5 t (fun i v h => absurd h (hx' i v)), fin_old M t hx']
        have hdf : f.defers = (zFin a M).defers := by rw [h2, zFin_defers]
        cases f
        cases hz : zFin a M
        rw [hz] at ht hdf
        simp only at ht hdf
        subst ht
        subst hdf
        rfl
      have hmask : lr = zMask ops.size n := by
        apply Array.ext
        · simp [zMask, hsz]
        · intro i hi1 hi2
          have hio : i < ops.size := by rw [← hsz]; exact hi1
          have hget : lr.getD i true = lr[i] := by rw [Array.getD_eq_getD_getElem?, Array.getElem?_eq_getElem hi1]; rfl
          simp only [zMask, List.getElem_toArray, List.getElem_map, List.getElem_range]
          by_cases hin' : i < n
          · have := hin i hin'
            unfold zIn at this
            rw [hget] at this
            rw [this]
            simp [hin']
          · have := hout i (by omega) hio
            unfold zIn at this
            rw [hget] at this
            have h2 : lr[i] = false := by simpa using this
            rw [h2]
            have h3 : Nat.blt i n = false := by
              cases hz : Nat.blt i n with
              | false => rfl
              | true => exact absurd (by simpa using hz) hin'
            exact h3.symm
      have hfuel : fuel = ops.size - n := by rw [← hf]; exact zLeft_mask hin hout hn
      rcases hR with ⟨_, hnc, _⟩ | ⟨u, rfl, _, hS⟩
      · exact absurd (hin c hcn) hnc
      · rw [he, hfuel, hmask]
        exact wpAny_seq' hseq (by simp) (hQ u w' hS)
    intro fuel
    induction fuel with
    | zero =>
      intro lr f w' M hleft hsz hcl hout h1 h2 hR h4 h5
      have hall : ∀ i, i < ops.size → zIn lr i := fun i hi => zLeft_zero hleft hi
      exact atTail 0 lr f w' M hleft hsz hout (fun i hi => hall i (by omega)) h1 h2 hR h4 h5
    | succ fuel ih =>
      intro lr f w' M hleft hsz hcl hout h1 h2 hR h4 h5
      by_cases hfull : ∀ i, i < n → zIn lr i
      · exact atTail _ lr f w' M hleft hsz hout hfull h1 h2 hR h4 h5
      refine ⟨fun hr => absurd (fun i hi => zSome hb hr i (by omega)) hfull, fun i hi => ?_⟩
      obtain ⟨o, ho, hil, hni, hdeps⟩ := zReady hi
      have hin : i < n := by
        rcases Nat.lt_or_ge i n with h | h
        · exact h
        · exfalso
          have h1 := List.all_eq_true.1 ht i (List.mem_range.2 hil)
          rw [Bool.or_eq_true] at h1
          rcases h1 with h1 | h1
          · have : i < n := by simpa using h1
            omega
          · exact hfull fun j hj => zDep_in hcl _ i j o ho hdeps (List.all_eq_true.1 h1 j (List.mem_range.2 hj))
      have hMl := R_len hR
      obtain ⟨⟨t0, v0⟩, hx⟩ : ∃ x, l[i]? = some x := ⟨_, List.getElem?_eq_getElem (by omega)⟩
      have hdo : t0 = o.dst := dst_of i o _ ho hx
      have hcl' : ∀ (j : Nat) (p : Oper), ops[j]? = some p → zIn (lr.setIfInBounds i true) j → ∀ e ∈ p.after.toList, Region.binds .any e = true → zIn (lr.setIfInBounds i true) e.on := by
        intro j p hp hj e he hbd
        refine zIn_set.2 (.inr ?_)
        rcases zIn_set.1 hj with rfl | hj
        · rw [ho] at hp
          cases hp
          exact hdeps e he hbd
        · exact hcl j p hp hj e he hbd
      have hout' : ∀ j, n ≤ j → j < ops.size → ¬ zIn (lr.setIfInBounds i true) j := by
        intro j h1 h2 h3
        rcases zIn_set.1 h3 with rfl | h3
        · omega
        · exact hout j h1 h2 h3
      -- what it looks at stands as at the end of the first n
      have hlooks : ∀ t ∈ Oper.looksAt ops o, (t = d → i = c) → f.tmps[t]? = (zFin a l).tmps[t]? := by
        intro t ht hne
        have hRl : R l (Array.replicate ops.size false) { w with drawn := w.drawn + 1 } := .inl ⟨rfl, by
          unfold zIn; rw [Array.getD_eq_getD_getElem?]; simp [show c < ops.size by omega], hw⟩
        by_cases hy : ∃ (j : Nat) (u : Value), l[j]? = some (some t, u)
        · obtain ⟨j, u, hy⟩ := hy
          obtain ⟨p, hp⟩ := op_of j _ hy
          have hpd : p.dst = some t := (dst_of j p _ hp hy).symm
          obtain ⟨e, he, hbd, rfl⟩ := (zCovers_spec hc ho hp hpd).1 ht
          have hjc : e.on ≠ c := by
            intro hjc
            have : t = d := by rw [hjc, hlc] at hy; simp at hy; exact hy.1.symm
            have hic := hne this
            exact hni (by rw [hic, ← hjc]; exact hdeps e he hbd)
          have hMy : M[e.on]? = some (some t, u) := by
            rcases hR with ⟨rfl, _, _⟩ | ⟨u', rfl, _, _⟩
            · exact hy
            · rw [List.getElem?_set_ne (fun e' => hjc e'.symm)]; exact hy
          rw [h4 _ t u hMy (hdeps e he hbd), fin_new hRl _ t u hy]
        · have hy' : ∀ (j : Nat) (u : Value), l[j]? ≠ some (some t, u) := fun j u h => hy ⟨j, u, h⟩
          rw [h5 t (fun j u h => by
            obtain ⟨y, hy2, e⟩ := M_fst hR j _ h
            obtain ⟨y1, y2⟩ := y
            simp only at e
            subst e
            exact absurd hy2 (hy' j y2)), fin_old l t hy']
      have next : ∀ (w'' : World) (M' : List (Option Tmp × Value)) (v : Value), R M' (lr.setIfInBounds i true) w'' → M'[i]? = some (t0, v) → (∀ j, j ≠ i → M'[j]? = M[j]?) → wpAny P .any ops Q fuel (lr.setIfInBounds i true) (f.put o.dst v) w'' := by
        intro w'' M' v hR' hMi hMj
        refine ih _ _ w'' M' (by have := zLeft_set' (by rw [hsz]; exact hil) hni hil; omega) (by simp [hsz]) hcl' hout' ?_ ?_ hR' ?_ ?_
        · cases ho' : o.dst <;> simp [Act.put, h1]
        · cases ho' : o.dst <;> simp [Act.put, h2]
        · intro j t u hj hin
          by_cases hji : j = i
          · subst hji
            rw [hMi] at hj
            simp only [Option.some.injEq, Prod.mk.injEq] at hj
            obtain ⟨hj1, rfl⟩ := hj
            rw [← hdo, hj1]
            have := small hR' j t v (by rw [hMi, hj1])
            simp [Act.put, h1, this]
          · have hne : o.dst ≠ some t := fun h => hji (M_uniq hR' j i _ _ t hj hMi rfl (by show t0 = some t; rw [hdo]; exact h))
            rw [put_ne hne]
            exact h4 j t u (by rw [← hMj j hji]; exact hj) ((zIn_set.1 hin).resolve_left hji)
        · intro t ht
          have hne : o.dst ≠ some t := fun h => by
            have hx' : M'[i]? = some (some t, v) := by rw [hMi, hdo, h]
            exact ht i v hx' (zIn_set.2 (.inl rfl))
          rw [put_ne hne]
          exact h5 t fun j u hj hz => by
            by_cases hji : j = i
            · subst hji; exact hni hz
            · exact ht j u (by rw [hMj j hji]; exact hj) (zIn_set.2 (.inr hz))
      refine wpOp_step ho fun K' hK' => ?_
      by_cases hic : i = c
      · subst hic
        have hR0 : M = l ∧ S0 w' := by
          rcases hR with ⟨h, _, h'⟩ | ⟨_, _, h, _⟩
          · exact ⟨h, h'⟩
          · exact absurd h hni
        obtain ⟨rfl, hS⟩ := hR0
        obtain ⟨hwt, hca⟩ := hcall o ho
        have hlk := fun t ht => hlooks t ht (fun _ => rfl)
        have hwant := wanted_looks hlk
        have hev := execOp_congr o (fun cs b => Region.noSelect_spec hs i o cs b ho) (eval_looks hlk)
        rw [if_pos (by rw [hwant]; exact hwt)]
        unfold Oper.wp
        rw [hev]
        refine hca w' hS K' f fun u w'' hS' => hK' _ _ (next w'' (M.set i (some d, u)) u (.inr ⟨u, rfl, zIn_set.2 (.inl rfl), hS'⟩) ?_ (fun j hj => by rw [List.getElem?_set_ne (fun e => hj e.symm)]))
        rw [List.getElem?_set_self (by omega)]
        rw [hlc] at hx
        simp only [Option.some.injEq, Prod.mk.injEq] at hx
        rw [← hx.1]
      · have hMx : M[i]? = some (t0, v0) := by
          rcases hR with ⟨rfl, _, _⟩ | ⟨u', rfl, _, _⟩
          · exact hx
          · rw [List.getElem?_set_ne (fun e' => hic e'.symm)]; exact hx
        have hlk : ∀ t ∈ Oper.looksAt ops o, f.tmps[t]? = (zFin a l).tmps[t]? := fun t ht => hlooks t ht fun htd => by
          exfalso
          have := List.all_eq_true.1 hbl i (List.mem_range.2 hin)
          rw [ho, Bool.or_eq_true] at this
          rcases this with h | h
          · exact hic (Nat.eq_of_beq_eq_true h)
          · subst htd; simp [ht] at h
        have hst := hstep i o t0 v0 hic ho hx w' (by
          rcases hR with ⟨_, _, h⟩ | ⟨u, _, _, h⟩
          · exact .inl h
          · exact .inr ⟨u, h⟩)
        have hR' : R M (lr.setIfInBounds i true) w' := by
          rcases hR with ⟨h, hn, h'⟩ | ⟨u, h, hn, h'⟩
          · exact .inl ⟨h, fun hz => (zIn_set.1 hz).elim (fun e => hic e.symm) hn, h'⟩
          · exact .inr ⟨u, h, zIn_set.2 (.inr hn), h'⟩
        have hwant := wanted_looks hlk
        rw [← hwant] at hst
        split
        · rename_i hwt
          rw [if_pos hwt] at hst
          have hev := execOp_congr o (fun cs b => Region.noSelect_spec hs i o cs b ho) (eval_looks hlk)
          unfold Oper.wp
          rw [hev, hst]
          exact hK' _ _ (next w' M v0 hR' hMx fun _ _ => rfl)
        · rename_i hwt
          rw [if_neg hwt] at hst
          rw [← hst]
          exact hK' _ _ (next w' M v0 hR' hMx fun _ _ => rfl)
  refine wp_region_any hm (main ops.size (Array.replicate ops.size false) a _ l (zLeft_none (Nat.le_refl _)) (by simp) ?_ ?_ rfl rfl (.inl ⟨rfl, ?_, hw⟩) ?_ ?_)
  · intro i o ho hin
    exfalso
    have hi : i < ops.size := (Array.getElem?_eq_some_iff.1 ho).1
    unfold zIn at hin
    rw [Array.getD_eq_getD_getElem?] at hin
    simp [hi] at hin
  · intro i _ hi hin
    unfold zIn at hin
    rw [Array.getD_eq_getD_getElem?] at hin
    simp [hi] at hin
  · intro hin
    unfold zIn at hin
    rw [Array.getD_eq_getD_getElem?] at hin
    simp [show c < ops.size by omega] at hin
  · intro i t v hx hin
    exfalso
    have hi : i < ops.size := by have := (List.getElem?_eq_some_iff.1 hx).1; omega
    unfold zIn at hin
    rw [Array.getD_eq_getD_getElem?] at hin
    simp [hi] at hin
  · intro t _
    rfl
/-- The looks, one for each operation of the first n; the call's own place is passed over. -/
def ZLooks (P : Program) (ops : Array Oper) (S0 : World → Prop) (S1 : Value → World → Prop) (aF : Act) : Nat → List Oper → List (Option Tmp × Value) → Prop
  | _, [], _ => True
  | _, _ :: _, [] => True
  | 0, _ :: os, _ :: l => ZLooks P ops S0 S1 aF (os.length + l.length + 1) os l
  | k + 1, o :: os, x :: l => ZLook P ops S0 S1 aF o x.2 ∧ ZLooks P ops S0 S1 aF k os l
theorem ZLooks.get {S0 : World → Prop} {S1 : Value → World → Prop} {aF : Act} : ∀ {os : List Oper} {l : List (Option Tmp × Value)} {c : Nat}, ZLooks P ops S0 S1 aF c os l → ∀ {i : Nat} {o : Oper} {t : Option Tmp} {v : Value}, (i ≠ c ∨ os.length ≤ c) → os[i]? = some o → l[i]? = some (t, v) → ZLook P ops S0 S1 aF o v
  | [], _, _, _, i, o, d, v, _, h, _ => by simp at h
  | _ :: _, [], _, _, i, o, d, v, _, _, h => by simp at h
  | o' :: os, x :: l, 0, hz, i, o, d, v, hi, h1, h2 => by
    cases i with
    | zero => rcases hi with hi | hi
              · exact absurd rfl hi
              · simp at hi
    | succ i => exact ZLooks.get (c := os.length + l.length + 1) hz (.inr (by omega)) (by simpa using h1) (by simpa using h2)
  | o' :: os, (d', v') :: l, c + 1, hz, 0, o, d, v, _, h1, h2 => by
    simp only [List.getElem?_cons_zero, Option.some.injEq, Prod.mk.injEq] at h1 h2
    obtain ⟨rfl, rfl⟩ := h2
    subst h1
    exact hz.1
  | o' :: os, _ :: l, c + 1, hz, i + 1, o, d, v, hi, h1, h2 => ZLooks.get hz.2 (hi.imp (fun h h' => h (by omega)) (fun h => by simp at h; omega)) (by simpa using h1) (by simpa using h2)
/-- .. for a walk. aF: the frame with the call's place undefined; aT: the frame behind the first n. -/
theorem region_tail {id : Nat} {S0 : World → Prop} {S1 : Value → World → Prop} {a aF : Act} {aT : Value → Act} {w : World} (n c : Nat) (d : Tmp) (l : List (Option Tmp × Value)) (haF : zFin a l = aF) (haT : ∀ u, zFin a (l.set c (some d, u)) = aT u)
    (hm : P.follows .mixedOrders = true) (hs : Region.noSelect ops = true) (hb : zBack ops = true) (hc : zCovers ops = true)
    (hn : n ≤ ops.size) (hcn : c < n) (ht : zTail ops n = true) (hseq : Region.seqB .any ops (ops.size - n) n (zMask ops.size n) = true) (hbl : zBlind ops n c d = true)
    (hl : l.map (·.1) = (ops.toList.take n).map (·.dst)) (hlc : l[c]? = some (some d, undef)) (hd : l.all (fun x => match x.1 with | some d => Nat.blt d a.tmps.size | none => true) = true) (hw : S0 { w with drawn := w.drawn + 1 })
    (hstep : ZLooks P ops S0 S1 aF c ops.toList l) (hcall : ∀ o, ops[c]? = some o → ZCall P ops Q S0 S1 aF o)
    (hQ : ∀ u w', S1 u w' → wpList P ops Q (ops.toList.drop n) (aT u) w') : (Code.region id ops true).wp P Q a w := by
  subst haF
  exact region_tail_one n c d hm hs hb hc hn hcn ht hseq hbl l hl hlc hd hw (fun i o t v hi ho hx => hstep.get (.inl hi) (by rw [Array.getElem?_toList]; exact ho) hx) hcall
    (fun u w' h => by rw [haT u]; exact hQ u w' h)
section
variable {S0 : World → Prop} {S1 : Value → World → Prop} {aF : Act} {o : Oper} {v : Value}
theorem ZLook.skip (h : Region.wanted o (yielded ops aF.tmps) = false) : ZLook P ops S0 S1 aF o undef := fun w _ => by
  rw [if_neg (by rw [h]; decide)]
theorem ZLook.val (h : Region.wanted o (yielded ops aF.tmps) = true) (hv : ∀ w, (S0 w ∨ ∃ u, S1 u w) → (execOp aF.eval o).run P w = .ok (.value v) w) : ZLook P ops S0 S1 aF o v := fun w hw => by
  rw [if_pos h]
  exact hv w hw
theorem ZCall.of (h : Region.wanted o (yielded ops aF.tmps) = true) (g : FuncId) (args : Array Value) (hr : ∀ w, S0 w → (execOp aF.eval o).run P w = .ok (.enter g args) w) (hc : ∀ w, S0 w → Calls P g args w fun e w' => ∃ u, e = .returned u ∧ S1 u w') : ZCall P ops Q S0 S1 aF o := ⟨h, fun w hw K f hK => by
  rw [hr w hw]
  refine (hc w hw).mono ?_
  rintro e w' ⟨u, rfl, hw'⟩
  exact hK u w' hw'⟩
end
end
end Go.Proofs.YthojmgjgmbnopaaGreatDoor
