/- The evaluator is sound: regions that draw. -/
import Derived.Test.YtcgecgilkapjaaaGreatDoorEp
import Derived.KernelRfl
namespace Go.Proofs.YtcgecgilkapjaaaGreatDoor
open Go Go.RowKit
variable {S : Rho}

theorem veqL_eq {f : Value → Value → Bool} (hf : ∀ a b, f a b = true → a = b) : ∀ {x y : List Value}, veqL f x y = true → x = y
  | [], [], _ => rfl
  | [], _ :: _, h => by cases h
  | _ :: _, [], h => by cases h
  | a :: x, b :: y, h => by
    simp only [veqL, Bool.and_eq_true] at h
    rw [hf a b h.1, veqL_eq hf h.2]

theorem ieq {a b : Int} (h : intEq a b = true) : a = b := by rw [intEq_eq] at h; exact beq_iff_eq.1 h
theorem bseq {a b : List UInt8} (h : bytesEq a b = true) : a = b := by rw [bytesEq_eq] at h; exact beq_iff_eq.1 h
theorem neq {a b : Nat} (h : Nat.beq a b = true) : a = b := Nat.eq_of_beq_eq_true h

theorem veq_eq : ∀ (n : Nat) (a b : Value), veq n a b = true → a = b := by
  intro n
  induction n with
  | zero =>
    intro a b h
    unfold veq at h
    split at h <;> first
      | (cases h; done)
      | rfl
      | (exfalso; omega)
      | (rw [Bool.and_eq_true] at h; rw [kindNo_inj h.1, ieq h.2])
      | (simp only [Bool.and_eq_true] at h; rw [neq h.1, neq h.2])
      | (simp only [Bool.and_eq_true] at h; rw [neq h.1.1.1, neq h.1.1.2, neq h.1.2, neq h.2])
      | (rw [bseq h])
      | (rw [neq h])
      | (rw [beq_iff_eq.1 h])
  | succ n ih =>
    intro a b h
    unfold veq at h
    split at h <;> first
      | (cases h; done)
      | rfl
      | (rw [Bool.and_eq_true] at h; rw [kindNo_inj h.1, ieq h.2])
      | (simp only [Bool.and_eq_true] at h; rw [neq h.1, neq h.2])
      | (simp only [Bool.and_eq_true] at h; rw [neq h.1.1.1, neq h.1.1.2, neq h.1.2, neq h.2])
      | (rename_i heq; cases heq; simp only [Bool.and_eq_true] at h; rw [neq h.1, ih _ _ h.2])
      | (rename_i heq; cases heq; simp only [Bool.and_eq_true] at h; rw [neq h.1.1, veqL_eq ih h.1.2, veqL_eq ih h.2])
      | (rename_i heq; cases heq; rw [veqL_eq ih h])
      | (rw [bseq h])
      | (rw [neq h])
      | (rw [beq_iff_eq.1 h])

theorem tmIs_eq {tm : Tr Value} {d : Tmp} {v : Value} (h : tmIs tm (some d) v = true) : tm.get d = some v := by
  have h : (match tm.get d with | some u => veq 9 u v | none => false) = true := h
  cases hv : tm.get d with
  | none => rw [hv] at h; cases h
  | some u => rw [hv] at h; rw [veq_eq 9 u v h]

theorem testBit_shift (j k : Nat) : Nat.testBit (1 <<< j) k = decide (j = k) := by
  rw [Nat.one_shiftLeft, Nat.testBit_two_pow]

theorem mask_bit {j : Nat} : ∀ {l : List Edge}, Nat.testBit (maskOf l) j = true ↔ ∃ e ∈ l, Region.binds .any e = true ∧ e.on = j
  | [] => by simp [maskOf]
  | e :: l => by
    simp only [maskOf]
    cases hb : Region.binds .any e with
    | false =>
      simp only [cond_false]
      rw [mask_bit]
      constructor
      · rintro ⟨f, h1, h2⟩; exact ⟨f, by simp [h1], h2⟩
      · rintro ⟨f, h1, h2, h3⟩
        rcases List.mem_cons.1 h1 with rfl | h1
        · rw [hb] at h2; cases h2
        · exact ⟨f, h1, h2, h3⟩
    | true =>
      simp only [cond_true]
      rw [Nat.testBit_or, Bool.or_eq_true, mask_bit, testBit_shift, decide_eq_true_iff]
      constructor
      · rintro (⟨f, h1, h2⟩ | h)
        · exact ⟨f, by simp [h1], h2⟩
        · exact ⟨e, by simp, hb, h⟩
      · rintro ⟨f, h1, h2, h3⟩
        rcases List.mem_cons.1 h1 with rfl | h1
        · exact .inr h3
        · exact .inl ⟨f, h1, h2, h3⟩

theorem rows_mem : ∀ {l : List Oper} {k : Nat} {r : ERow}, r ∈ rowsOf k l ↔ ∃ j o, l[j]? = some o ∧ r = ⟨k + j, o, maskOf o.after.toList⟩
  | [], k, r => by simp [rowsOf]
  | o :: l, k, r => by
    simp only [rowsOf, List.mem_cons]
    rw [rows_mem]
    constructor
    · rintro (rfl | ⟨j, p, h1, rfl⟩)
      · exact ⟨0, o, by simp, rfl⟩
      · exact ⟨j + 1, p, by simpa using h1, by rw [show k + 1 + j = k + (j + 1) by omega]⟩
    · rintro ⟨j, p, h1, rfl⟩
      cases j with
      | zero => simp at h1; subst h1; exact .inl rfl
      | succ j => exact .inr ⟨j, p, by simpa using h1, by rw [show k + 1 + j = k + (j + 1) by omega]⟩

/-- What a row is. -/
theorem row_spec {ops : Array Oper} {r : ERow} (h : r ∈ rowsOf 0 ops.toList) : ops[r.i]? = some r.o ∧ r.dm = maskOf r.o.after.toList := by
  obtain ⟨j, o, h1, rfl⟩ := rows_mem.1 h
  simp only [Nat.zero_add]
  exact ⟨by simpa using h1, trivial⟩

theorem row_of {ops : Array Oper} {i : Nat} {o : Oper} (h : ops[i]? = some o) : (⟨i, o, maskOf o.after.toList⟩ : ERow) ∈ rowsOf 0 ops.toList :=
  rows_mem.2 ⟨i, o, by simpa using h, by simp⟩

theorem row_eq {ops : Array Oper} {r : ERow} (h : r ∈ rowsOf 0 ops.toList) {o : Oper} (ho : ops[r.i]? = some o) : r = ⟨r.i, o, maskOf o.after.toList⟩ := by
  obtain ⟨h1, h2⟩ := row_spec h
  rw [h1] at ho
  cases (Option.some.inj ho)
  obtain ⟨i, o, d⟩ := r
  simp only at h2
  rw [h2]

/-- Is a number listed? -/
def isIn (lr : Array Bool) (i : Nat) : Prop := lr.getD i true = true

theorem isIn_set {lr : Array Bool} {i j : Nat} : isIn (lr.setIfInBounds i true) j ↔ j = i ∨ isIn lr j := by
  unfold isIn
  simp only [Array.getD_eq_getD_getElem?, Array.getElem?_setIfInBounds]
  by_cases h : i = j
  · subst h
    simp only [if_true, true_or, iff_true]
    split
    · rfl
    · rfl
  · simp only [if_neg h]
    constructor
    · exact .inr
    · rintro (rfl | h')
      · exact absurd rfl h
      · exact h'

/-- How many are not listed yet. -/
def left (lr : Array Bool) (n : Nat) : Nat := ((List.range n).filter fun i => !lr.getD i true).length

theorem left_set {lr : Array Bool} {n i : Nat} (hi : i < n) (h : ¬ isIn lr i) : left (lr.setIfInBounds i true) n + 1 ≤ left lr n := by
  unfold left
  have key : ∀ l : List Nat, (l.filter fun j => !(lr.setIfInBounds i true).getD j true).length ≤ (l.filter fun j => !lr.getD j true).length ∧
      (i ∈ l → (l.filter fun j => !(lr.setIfInBounds i true).getD j true).length + 1 ≤ (l.filter fun j => !lr.getD j true).length) := by
    intro l
    induction l with
    | nil => simp
    | cons x l ih =>
      have hx : ((lr.setIfInBounds i true).getD x true = true) ↔ (x = i ∨ lr.getD x true = true) := isIn_set
      have hni : lr.getD i true = false := by unfold isIn at h; simpa using h
      simp only [List.filter_cons]
      by_cases hxi : x = i
      · subst hxi
        have h1 : (lr.setIfInBounds x true).getD x true = true := hx.2 (.inl rfl)
        rw [h1, hni]
        simp only [Bool.not_true, Bool.not_false, Bool.false_eq_true, if_false, if_true, List.length_cons]
        exact ⟨by omega, fun _ => by omega⟩
      · have h1 : (lr.setIfInBounds i true).getD x true = lr.getD x true := by
          rw [Bool.eq_iff_iff, hx]
          constructor
          · rintro (h' | h')
            · exact absurd h' hxi
            · exact h'
          · exact .inr
        rw [h1]
        split
        · simp only [List.length_cons]
          exact ⟨by omega, fun hm => by
            rcases List.mem_cons.1 hm with hm | hm
            · exact absurd hm.symm hxi
            · have := ih.2 hm; omega⟩
        · exact ⟨ih.1, fun hm => by
            rcases List.mem_cons.1 hm with hm | hm
            · exact absurd hm.symm hxi
            · exact ih.2 hm⟩
  exact (key _).2 (List.mem_range.2 hi)

theorem left_zero {lr : Array Bool} {n i : Nat} (h : left lr n = 0) (hi : i < n) : isIn lr i := by
  unfold left at h
  have := List.length_eq_zero_iff.1 h
  unfold isIn
  by_cases hx : lr.getD i true = true
  · exact hx
  · have hm : i ∈ (List.range n).filter fun i => !lr.getD i true := List.mem_filter.2 ⟨List.mem_range.2 hi, by simpa using hx⟩
    rw [this] at hm
    cases hm


/-- A held operation that the world has not done yet. -/
def Pend (lr : Array Bool) (h : Held) : Prop := ¬ isIn lr h.row.i

/-- What is known of a new variable that is held. -/
structure VarOk (G : Nat) (st0 : St) (ρ : Rho) (st : St) (lr : Array Bool) (r : ERow) (k : Nat) : Prop where
  op : ∃ t z, r.o.op = .alloc t ∧ aZero t = some z ∧ (¬ isIn lr r.i → ρ k = none ∧ st.heap.get k = some (.cells false (mark t 65535) (Tr.fill .nil 0 z.cells.toList)))
  low : G ≤ k
  old : st0.next ≤ k
  new : k < st.next

structure Inv (S : Rho) (G : Nat) (W : World) (E : En) (ops : Array Oper) (st0 : St) (ρ0 : Rho) (la : Nat) (hl : List Held) (s : EFr) (lr : Array Bool) (ρ : Rho) (a : Act) (w : World) : Prop where
  size : lr.size = ops.size
  sub : ∀ i, i < ops.size → isIn lr i → bitOf la i = true
  pend : ∀ i, i < ops.size → bitOf la i = true → ¬ isIn lr i → ∃ h ∈ hl, h.row.i = i
  row : ∀ h ∈ hl, h.row ∈ rowsOf 0 ops.toList ∧ bitOf la h.row.i = true ∧ mayHoist ops (rowsOf 0 ops.toList) h.row = true ∧ holds E.G ops s h = true
  dlt : ∀ h ∈ hl, ∀ d, h.row.o.dst = some d → d < E.n
  tsize : a.tmps.size = E.n
  df : DefsR ρ s.df a.defers
  sim : Sim S G W ρ s.st w
  ext : Ext ρ0 st0 ρ s.st
  tm : ∀ t, (∀ h ∈ hl, Pend lr h → h.row.o.dst ≠ some t) → TmR ρ s.tm a t
  var : ∀ r k, Held.var r k ∈ hl → VarOk G st0 ρ s.st lr r k
  vinj : ∀ r r' k, Held.var r k ∈ hl → Held.var r' k ∈ hl → r.i = r'.i

theorem ready_spec {ops : Array Oper} {lr : Array Bool} {i : Nat} (h : i ∈ Region.ready .any ops lr) : ∃ o, ops[i]? = some o ∧ i < ops.size ∧ ¬ isIn lr i ∧ ∀ j, Nat.testBit (maskOf o.after.toList) j = true → isIn lr j := by
  unfold Region.ready at h
  obtain ⟨h1, h2⟩ := List.mem_filter.1 h
  have h1 := List.mem_range.1 h1
  rw [Bool.and_eq_true] at h2
  obtain ⟨h2, h3⟩ := h2
  rw [Array.getElem?_eq_getElem h1] at h3
  simp only [Option.map_some, Option.getD_some] at h3
  refine ⟨ops[i], Array.getElem?_eq_getElem h1, h1, ?_, fun j hj => ?_⟩
  · unfold isIn
    simpa using h2
  · obtain ⟨e, he, hb, rfl⟩ := mask_bit.1 hj
    have := Array.all_eq_true'.1 h3 e (by simpa using he)
    rw [hb] at this
    have hf : lr.getD e.on false = true := by simpa using this
    unfold isIn
    rw [Array.getD_eq_getD_getElem?] at hf ⊢
    cases hx : lr[e.on]? with
    | none => rw [hx] at hf; cases hf
    | some b => rw [hx] at hf; exact hf

/-- Something is ready while something is not listed. -/
theorem ready_some {ops : Array Oper} {lr : Array Bool} (hsz : lr.size = ops.size) (hb : goesBack (rowsOf 0 ops.toList) = true) (hr : Region.ready .any ops lr = []) : ∀ i, i < ops.size → isIn lr i := by
  intro i
  induction i using Nat.strongRecOn with
  | _ i ih =>
    intro hi
    by_cases hin : isIn lr i
    · exact hin
    · exfalso
      have ho : ops[i]? = some ops[i] := Array.getElem?_eq_getElem hi
      have hm := List.all_eq_true.1 hb _ (row_of ho)
      have hlt : maskOf (ops[i]).after.toList < 2 ^ i := by
        have := ble_le hm
        rw [Nat.one_shiftLeft] at this
        exact this
      have : i ∈ Region.ready .any ops lr := by
        unfold Region.ready
        refine List.mem_filter.2 ⟨List.mem_range.2 hi, ?_⟩
        rw [Bool.and_eq_true, ho]
        simp only [Option.map_some, Option.getD_some]
        refine ⟨by unfold isIn at hin; simpa using hin, ?_⟩
        rw [Array.all_eq_true']
        intro e he
        cases hbd : Region.binds .any e with
        | false => rfl
        | true =>
          have hbit : Nat.testBit (maskOf (ops[i]).after.toList) e.on = true := mask_bit.2 ⟨e, by simpa using he, hbd, rfl⟩
          have hlt' : e.on < i := by
            rcases Nat.lt_or_ge e.on i with h' | h'
            · exact h'
            · have := Nat.testBit_lt_two_pow (Nat.lt_of_lt_of_le hlt (Nat.pow_le_pow_right (by omega) h'))
              rw [this] at hbit
              cases hbit
          have hinn := ih e.on hlt' (by omega)
          unfold isIn at hinn
          have hlr : e.on < lr.size := by omega
          rw [Array.getD_eq_getD_getElem?, Array.getElem?_eq_getElem hlr] at hinn
          rw [Array.getD_eq_getD_getElem?, Array.getElem?_eq_getElem hlr]
          simpa using hinn
      rw [hr] at this
      cases this

section
variable {G : Nat} {W : World} {ops : Array Oper} {Q : Exit → Act → World → Prop} {E : En} {st0 : St} {ρ0 : Rho} {la : Nat} {hl : List Held} {s : EFr} {lr : Array Bool} {ρ : Rho} {a : Act} {w : World}

/-- Of a ready operation all temporaries are alike that it looks at. -/
theorem Inv.looks (hI : Inv S G W E ops st0 ρ0 la hl s lr ρ a w) {i : Nat} {o : Oper} (ho : ops[i]? = some o) (hd : ∀ j, Nat.testBit (maskOf o.after.toList) j = true → isIn lr j) : ∀ t ∈ Oper.looksAt ops o, TmR ρ s.tm a t := by
  intro t ht
  refine hI.tm t fun h hh hp hdst => ?_
  obtain ⟨h1, h2, h3, h4⟩ := hI.row h hh
  have := List.all_eq_true.1 h3 _ (row_of ho)
  rw [Bool.and_eq_true, Bool.or_eq_true] at this
  rcases this.1 with hb | hb
  · exact hp (hd _ hb)
  · have := List.all_eq_true.1 hb t ht
    rw [hdst] at this
    simp only [dstOf, Bool.not_eq_true'] at this
    have h0 : Nat.beq t t = true := Nat.beq_refl t
    rw [h0] at this
    cases this

/-- Two operations that are held, or one and another, do not write to one temporary. -/
theorem Inv.apart (hI : Inv S G W E ops st0 ρ0 la hl s lr ρ a w) {h : Held} (hh : h ∈ hl) {i : Nat} {o : Oper} (ho : ops[i]? = some o) (hne : i ≠ h.row.i) {t : Tmp} (ht : o.dst = some t) : h.row.o.dst ≠ some t := by
  obtain ⟨h1, h2, h3, h4⟩ := hI.row h hh
  have := List.all_eq_true.1 h3 _ (row_of ho)
  rw [Bool.and_eq_true] at this
  have this := this.2
  rw [Bool.or_eq_true] at this
  intro hdst
  rcases this with hb | hb
  · exact hne (Nat.eq_of_beq_eq_true hb)
  · simp only [ht, hdst, dstOf, Bool.not_eq_true'] at hb
    rw [show Nat.beq t t = true from Nat.beq_refl t] at hb
    cases hb

theorem put_at {n : Nat} {a : Act} {d : Tmp} {v' : Value} (hs : a.tmps.size = n) (hd : d < n) : (a.put (some d) v').tmps[d]? = some v' := by
  simp [Act.put, hs, hd]


section
variable {G : Nat} {W : World} {ops : Array Oper} {Q : Exit → Act → World → Prop} {E : En} {st0 : St} {ρ0 : Rho} {la : Nat} {hl : List Held} {s : EFr} {lr : Array Bool} {ρ : Rho} {a : Act} {w : World}

/-- A variable that was held comes to be. -/
theorem Sim.born {st : St} (h : Sim S G W ρ st w) {k sz u q : Nat} {c : Tr Value} {o : Obj} (hk : ρ k = none) (hG : G ≤ k) (hn : k < st.next) (hc : st.heap.get k = some (.cells false q c))
    (hr : ObjR (ρ.set k ⟨w.heap.size, 0, sz, u⟩) ⟨w.heap.size, 0, sz, u⟩ (.cells false q c) o) :
    Sim S G W (ρ.set k ⟨w.heap.size, 0, sz, u⟩) st { w with heap := w.heap.push o } := by
  have hle : ρ.le (ρ.set k ⟨w.heap.size, 0, sz, u⟩) := by
    intro q e he
    show (if q = k then _ else ρ q) = some e
    rw [if_neg (by rintro rfl; rw [hk] at he; cases he)]
    exact he
  have old : ∀ q e, q ≠ k → (ρ.set k ⟨w.heap.size, 0, sz, u⟩) q = some e → ρ q = some e := by
    intro q e hq he
    rw [← he]; show _ = (if q = k then _ else ρ q); rw [if_neg hq]
  have new : ∀ e, (ρ.set k ⟨w.heap.size, 0, sz, u⟩) k = some e → e = ⟨w.heap.size, 0, sz, u⟩ := by
    intro e he; rw [Rho.set_same] at he; exact (Option.some.inj he).symm
  have hlt : ∀ q a e, st.heap.get q = some a → ρ q = some e → e.b < w.heap.size := by
    intro q a e ha he
    obtain ⟨o, ho, _⟩ := h.obj q a ha e he
    rcases Nat.lt_or_ge e.b w.heap.size with h' | h'
    · exact h'
    · simp [Array.getElem?_eq_none h'] at ho
  refine ⟨h.below.alloc h.below.size o, ?_, h.low, ?_, ?_, ?_, ?_, fun k e hk => hle _ _ (h.keep k e hk)⟩
  · intro q hq
    show (if q = k then _ else ρ q) = none
    rw [if_neg (by omega)]
    exact h.fresh q hq
  · intro q e hq he
    exact h.glob q e hq (old q e (by omega) he)
  · intro q a hq ha
    obtain ⟨e, he⟩ := h.globB q a hq ha
    exact ⟨e, hle _ _ he⟩
  · intro q a ha e he
    by_cases hq : q = k
    · subst hq
      cases new e he
      rw [hc] at ha
      cases (Option.some.inj ha)
      exact ⟨o, by simp, hr, fun _ => h.below.size⟩
    · have he' := old q e hq he
      obtain ⟨o', h1, h2, h3⟩ := h.obj q a ha e he'
      exact ⟨o', by rw [Array.getElem?_push_lt (hlt q a e ha he')]; rw [← h1, Array.getElem?_eq_getElem (hlt q a e ha he')], h2.mono hle, h3⟩
  · intro q q' a a' e e' ha ha' he he' hb
    by_cases h1 : q = k <;> by_cases h2 : q' = k
    · rw [h1, h2]
    · exfalso
      subst h1
      cases new e he
      have := hlt q' a' e' ha' (old q' e' h2 he')
      rw [← hb] at this
      exact Nat.lt_irrefl _ this
    · exfalso
      subst h2
      cases new e' he'
      have := hlt q a e ha (old q e h1 he)
      rw [hb] at this
      exact Nat.lt_irrefl _ this
    · exact h.inj q q' a a' e e' ha ha' (old q e h1 he) (old q' e' h2 he') hb

/-- The world does an operation that was held. -/
theorem Inv.pending (hG : E.G = G) (hI : Inv S G W E ops st0 ρ0 la hl s lr ρ a w) {i : Nat} (hr : i ∈ Region.ready .any ops lr) (hla : bitOf la i = true) {K : Act → World → Prop}
    (hK : ∀ a' w' ρ', Inv S G W E ops st0 ρ0 la hl s (lr.setIfInBounds i true) ρ' a' w' → K a' w') : wpOp P ops Q i K a w := by
  obtain ⟨o, ho, hi, hni, hdeps⟩ := ready_spec hr
  obtain ⟨h, hh, hhi⟩ := hI.pend i hi hla hni
  obtain ⟨hrow, hbit, hmay, hholds⟩ := hI.row h hh
  have hro : h.row.o = o := by
    have := (row_spec hrow).1
    rw [hhi, ho] at this
    exact (Option.some.inj this).symm
  have hlooks := hI.looks ho hdeps
  have hguard : ∀ j want d, o.guard = some (j, want) → (ops[j]?).bind (·.dst) = some d → TmR ρ s.tm a d := by
    intro j want d hg hd
    refine hlooks d ?_
    simp only [Oper.looksAt, List.mem_append, hg, hd]
    exact .inr (by simp)
  have hops : ∀ x ∈ o.op.operands, ∀ t, x = .tmp t → t ∈ Oper.looksAt ops o := by
    rintro x hx t rfl
    simp only [Oper.looksAt, List.mem_append, List.mem_filterMap]
    exact .inl ⟨.tmp t, by simpa using hx, rfl⟩
  -- the state behind it
  have next : ∀ (v v' : Value) (w' : World) (ρ' : Rho), VR ρ' v v' → Sim S G W ρ' s.st w' → Ext ρ0 st0 ρ' s.st → ρ.le ρ' → (∀ d, o.dst = some d → s.tm.get d = some v ∧ d < E.n) →
      (∀ r k, Held.var r k ∈ hl → r.i ≠ i → ρ k = none → ρ' k = none) → K (a.put o.dst v') w' := by
    intro v v' w' ρ' hv hS he hle hdst hvar
    refine hK _ _ ρ' ⟨by simp [hI.size], fun j hj hin => ?_, fun j hj hb hn => ?_, hI.row, hI.dlt, ?_, ?_, hS, he, fun t ht => ?_, fun r k hrk => ?_, hI.vinj⟩
    · rcases isIn_set.1 hin with rfl | hin
      · exact hla
      · exact hI.sub j hj hin
    · exact hI.pend j hj hb fun hin => hn (isIn_set.2 (.inr hin))
    · cases hd : o.dst with
      | none => exact hI.tsize
      | some d => simp [Act.put, hI.tsize]
    · cases hd : o.dst with
      | none => exact hI.df.mono hle
      | some d => exact hI.df.mono hle
    · by_cases hd : o.dst = some t
      · obtain ⟨h1, h2⟩ := hdst t hd
        intro u hu
        rw [h1] at hu
        cases (Option.some.inj hu)
        rw [hd]
        exact ⟨v', put_at hI.tsize h2, hv⟩
      · have keep : TmR ρ s.tm a t := by
          refine hI.tm t fun h' hh' hp => ?_
          by_cases hii : h'.row.i = i
          · have : h'.row.o = o := by
              have := (row_spec (hI.row h' hh').1).1
              rw [hii, ho] at this
              exact (Option.some.inj this).symm
            rw [this]
            exact hd
          · exact ht h' hh' fun hin => by
              rcases isIn_set.1 hin with h0 | h0
              · exact hii h0
              · exact hp h0
        intro u hu
        obtain ⟨u', h1, h2⟩ := keep u hu
        refine ⟨u', ?_, h2.mono hle⟩
        rw [← h1]
        cases hdd : o.dst with
        | none => rfl
        | some d => simp only [Act.put]; rw [Array.getElem?_setIfInBounds_ne (fun hh => hd (by rw [hdd, hh]))]
    · obtain ⟨⟨t, z, h1, h2, h4⟩, h5, h6, h7⟩ := hI.var r k hrk
      refine ⟨⟨t, z, h1, h2, fun hn => ?_⟩, h5, h6, h7⟩
      have hri : r.i ≠ i := fun hh => hn (isIn_set.2 (.inl hh))
      obtain ⟨h8, h9⟩ := h4 fun hin => hn (isIn_set.2 (.inr hin))
      exact ⟨hvar r k hrk hri h8, h9⟩
  have hdlt : ∀ d, o.dst = some d → d < E.n := fun d hd => hI.dlt h hh d (by rw [hro]; exact hd)
  have hdn : ∀ v, tmIs s.tm o.dst v = true → ∀ d, o.dst = some d → s.tm.get d = some v ∧ d < E.n := by
    intro v hv d hd
    rw [hd] at hv
    exact ⟨tmIs_eq hv, hdlt d hd⟩
  unfold wpOp
  rw [ho]
  simp only
  cases h with
  | looks r v =>
    have hro : r.o = o := hro
    have hholds : ((match aHoist E.G ops r.o s with | some u => veq 9 u v | none => false) && tmIs s.tm r.o.dst v) = true := hholds
    rw [Bool.and_eq_true, hro] at hholds
    obtain ⟨hh1, hh2⟩ := hholds
    cases hhoist : aHoist E.G ops o s with
    | none => rw [hhoist] at hh1; cases hh1
    | some u =>
      rw [hhoist] at hh1
      have huv : u = v := veq_eq 9 u v hh1
      subst huv
      have hhoist : (match aWanted o.guard ops s.tm with
        | some true => aRead o.op (s.ev E.G) s.st
        | some false => some undef
        | none => none) = some u := hhoist
      cases hw : aWanted o.guard ops s.tm with
      | none => rw [hw] at hhoist; exact nn hhoist
      | some b =>
        have hwant := aWanted_sound (o := o) hguard hw
        rw [hw] at hhoist
        cases b with
        | false =>
          cases (Option.some.inj (show some undef = some u from hhoist))
          rw [hwant]
          simp only [Bool.false_eq_true, if_false]
          exact next undef undef w ρ (.tuple .nil) hI.sim hI.ext (fun _ _ h => h) (hdn undef hh2) (fun _ _ _ _ h => h)
        | true =>
          rw [hwant]
          simp only [if_true]
          left
          have hev : ∀ x ∈ o.op.operands, ∀ v, s.ev E.G x = some v → VR ρ v (a.eval x) := fun x hx v hv =>
            aEval_sound hI.sim (fun t htt => hlooks t (hops x hx t htt)) (by rw [← hG]; exact hv)
          obtain ⟨v', g1, g2⟩ := aRead_sound hI.sim hev hhoist
          unfold Oper.wp
          rw [g1]
          exact next u v' w ρ g2 hI.sim hI.ext (fun _ _ h => h) (hdn u hh2) (fun _ _ _ _ h => h)
  | var r k =>
    have hro : r.o = o := hro
    have hhi : r.i = i := hhi
    have hholds : ((match aWanted r.o.guard ops s.tm with | some true => true | _ => false) && tmIs s.tm r.o.dst (.pointer (some ⟨k, 0, none⟩))) = true := hholds
    rw [Bool.and_eq_true, hro] at hholds
    obtain ⟨hh1, hh2⟩ := hholds
    obtain ⟨⟨t, z, h1, h2, h4⟩, h5, h6, h7⟩ := hI.var r k hh
    obtain ⟨h8, h9⟩ := h4 (by rw [hhi]; exact hni)
    rw [hro] at h1
    have hw : aWanted o.guard ops s.tm = some true := by
      rcases hx : aWanted o.guard ops s.tm with _ | _ | _ <;> rw [hx] at hh1 <;> first | rfl | cases hh1
    have hwant := aWanted_sound (o := o) hguard hw
    rw [hwant]
    simp only [if_true]
    left
    have hz := run_zero (w := w) h2
    have hcells := (flat_self (ρ := ρ) hz.2).cells
    have hle : ρ.le (ρ.set k ⟨w.heap.size, 0, z.cells.size, 65535⟩) := by
      intro q e he
      show (if q = k then _ else ρ q) = some e
      rw [if_neg (by rintro rfl; rw [h8] at he; cases he)]
      exact he
    have hsim := Sim.born hI.sim (sz := z.cells.size) (u := 65535) (o := .cells z.cells t) h8 h5 h7 h9 ⟨(mark_mod (t := t) (u := 65535) (by decide)).symm, rfl, fun _ => ⟨⟨mark_div (t := t) (u := 65535) (by decide), fun _ => rfl⟩, fun i _ hi => by simp at hi⟩, fun j x hx => by
      obtain ⟨x', g1, g2⟩ := (TrR.ofVRs hcells) j x hx
      exact ⟨x', by simpa using g1, g2.mono hle⟩⟩
    have run : (execOp a.eval o).run P w = .ok (.value (.pointer (some ⟨w.heap.size, 0, none⟩))) { w with heap := w.heap.push (.cells z.cells t) } := by
      obtain ⟨dst, op, ty, pos, after, guard⟩ := o
      simp only at h1
      subst h1
      simp only [execOp, Instr.alloc, Sem.run_bind, hz.1, Result.andThen_ok, newVar, Go.newRow, run_newObj, Sem.run_pure]
    unfold Oper.wp
    rw [run]
    refine next (.pointer (some ⟨k, 0, none⟩)) _ _ _ ?_ hsim ?_ hle (hdn _ hh2) ?_
    · have := VR.ptr (ρ := ρ.set k ⟨w.heap.size, 0, z.cells.size, 65535⟩) (e := ⟨w.heap.size, 0, z.cells.size, 65535⟩) 0 (Rho.set_same _ _ _)
      simpa using this
    · refine ⟨fun q e he => hle q e (hI.ext.le q e he), hI.ext.next, fun q hq hn => ?_⟩
      obtain ⟨g1, g2⟩ := hI.ext.unborn q hq hn
      refine ⟨?_, g2⟩
      show (if q = k then _ else ρ q) = none
      rw [if_neg (by omega)]
      exact g1
    · intro r' k' hrk hne hn
      show (if k' = k then _ else ρ k') = none
      rw [if_neg ?_]
      · exact hn
      · rintro rfl
        exact hne ((hI.vinj r' r k' hrk hh).trans hhi)

/-- All that is held is done by the world, in whatever order; what else is ready is one operation, or all is done. -/
theorem Inv.drain (hG : E.G = G) (hb : goesBack (rowsOf 0 ops.toList) = true)
    (hSolid : ∀ fuel lr ρ a w, Inv S G W E ops st0 ρ0 la hl s lr ρ a w → left lr ops.size ≤ fuel + 1 → ∀ i ∈ Region.ready .any ops lr, bitOf la i = false → wpOp P ops Q i (wpAny P .any ops Q fuel (lr.setIfInBounds i true)) a w)
    (hDone : ∀ lr ρ a w, Inv S G W E ops st0 ρ0 la hl s lr ρ a w → (∀ i, i < ops.size → isIn lr i) → Q .normal a w) :
    ∀ fuel lr ρ a w, Inv S G W E ops st0 ρ0 la hl s lr ρ a w → left lr ops.size ≤ fuel → wpAny P .any ops Q fuel lr a w := by
  intro fuel
  induction fuel with
  | zero =>
    intro lr ρ a w hI hle
    have hall : ∀ i, i < ops.size → isIn lr i := fun i hi => left_zero (by omega) hi
    refine ⟨?_, hDone lr ρ a w hI hall⟩
    cases hr : Region.ready .any ops lr with
    | nil => rfl
    | cons i l =>
      exfalso
      have hm : i ∈ Region.ready .any ops lr := by rw [hr]; simp
      obtain ⟨o, ho, hi, hn, _⟩ := ready_spec hm
      exact hn (hall i hi)
  | succ fuel ih =>
    intro lr ρ a w hI hle
    refine ⟨fun hr => hDone lr ρ a w hI (ready_some hI.size hb hr), fun i hi => ?_⟩
    cases hbit : bitOf la i with
    | false => exact hSolid fuel lr ρ a w hI hle i hi hbit
    | true =>
      obtain ⟨o, ho, hlt, hn, _⟩ := ready_spec hi
      exact hI.pending hG hi hbit fun a' w' ρ' hI' => ih _ ρ' a' w' hI' (by have := left_set hlt hn; omega)

end

theorem firstHoist_spec {E : En} {ops : Array Oper} {rows : List ERow} {s : EFr} : ∀ {l : List ERow} {h : Held} {s1 : EFr}, firstHoist E ops rows s l = some (h, s1) →
    ∃ r ∈ l, h.row = r ∧ mayHoist ops rows r = true ∧
      ((∃ v tm, h = .looks r v ∧ aPut r.o.dst E.n s.tm v = some tm ∧ s1 = ⟨tm, s.df, s.st⟩) ∨
       (∃ t z tm, h = .var r s.st.next ∧ r.o.op = .alloc t ∧ aZero t = some z ∧ aPut r.o.dst E.n s.tm (.pointer (some ⟨s.st.next, 0, none⟩)) = some tm ∧
         s1 = ⟨tm, s.df, s.st.new (.cells false (mark t 65535) (Tr.fill .nil 0 z.cells.toList))⟩)) := by
  intro l
  induction l with
  | nil => intro h s1 hh; exact nn hh
  | cons r l ih =>
    intro h s1 hh
    have up : (∃ r' ∈ l, h.row = r' ∧ mayHoist ops rows r' = true ∧ ((∃ v tm, h = .looks r' v ∧ aPut r'.o.dst E.n s.tm v = some tm ∧ s1 = ⟨tm, s.df, s.st⟩) ∨
       (∃ t z tm, h = .var r' s.st.next ∧ r'.o.op = .alloc t ∧ aZero t = some z ∧ aPut r'.o.dst E.n s.tm (.pointer (some ⟨s.st.next, 0, none⟩)) = some tm ∧
         s1 = ⟨tm, s.df, s.st.new (.cells false (mark t 65535) (Tr.fill .nil 0 z.cells.toList))⟩))) → ∃ r' ∈ r :: l, h.row = r' ∧ mayHoist ops rows r' = true ∧ ((∃ v tm, h = .looks r' v ∧ aPut r'.o.dst E.n s.tm v = some tm ∧ s1 = ⟨tm, s.df, s.st⟩) ∨
       (∃ t z tm, h = .var r' s.st.next ∧ r'.o.op = .alloc t ∧ aZero t = some z ∧ aPut r'.o.dst E.n s.tm (.pointer (some ⟨s.st.next, 0, none⟩)) = some tm ∧
         s1 = ⟨tm, s.df, s.st.new (.cells false (mark t 65535) (Tr.fill .nil 0 z.cells.toList))⟩)) := by
      rintro ⟨r', h1, h2⟩
      exact ⟨r', by simp [h1], h2⟩
    simp only [firstHoist] at hh
    cases hv : aHoist E.G ops r.o s with
    | some v =>
      rw [hv] at hh
      simp only at hh
      cases hm : mayHoist ops rows r with
      | false => rw [hm] at hh; exact up (ih hh)
      | true =>
        rw [hm] at hh
        simp only [cond_true] at hh
        cases hp : aPut r.o.dst E.n s.tm v with
        | none => rw [hp] at hh; exact nn hh
        | some tm =>
          rw [hp] at hh
          have hh := Option.some.inj hh
          injection hh with h1 h2
          exact ⟨r, by simp, by rw [← h1]; rfl, hm, .inl ⟨v, tm, h1.symm, hp, h2.symm⟩⟩
    | none =>
      rw [hv] at hh
      simp only at hh
      split at hh
      · rename_i t hop
        split at hh
        · rename_i z hw hz
          cases hm : mayHoist ops rows r with
          | false => rw [hm] at hh; exact up (ih hh)
          | true =>
            rw [hm] at hh
            simp only [cond_true] at hh
            cases hp : aPut r.o.dst E.n s.tm (.pointer (some ⟨s.st.next, 0, none⟩)) with
            | none => rw [hp] at hh; exact nn hh
            | some tm =>
              rw [hp] at hh
              have hh := Option.some.inj hh
              injection hh with h1 h2
              exact ⟨r, by simp, by rw [← h1]; rfl, hm, .inr ⟨t, z, tm, h1.symm, hop, hz, hp, h2.symm⟩⟩
        · exact up (ih hh)
      · exact up (ih hh)

section
variable {G : Nat} {W : World} {ops : Array Oper} {Q : Exit → Act → World → Prop} {E : En} {st0 : St} {ρ0 : Rho} {la : Nat} {hl : List Held} {s : EFr} {lr : Array Bool} {ρ : Rho} {a : Act} {w : World}

theorem bit_or {la i j : Nat} : bitOf (la ||| (1 <<< i)) j = true ↔ bitOf la j = true ∨ i = j := by
  unfold bitOf
  rw [Nat.testBit_or, Bool.or_eq_true, testBit_shift, decide_eq_true_iff]

theorem Sim.unborn {st : St} (h : Sim S G W ρ st w) (b : AObj) : Sim S G W ρ (st.new b) w ∧ Ext ρ st ρ (st.new b) := by
  have hn : ρ st.next = none := h.fresh _ (Nat.le_refl _)
  refine ⟨⟨h.below, fun k hk => h.fresh k (Nat.le_of_succ_le hk), Nat.le_succ_of_le h.low, h.glob, fun k c hk hc => ?_, fun k c hc e he => ?_, fun k k' c c' e e' hc hc' he he' hb => ?_, h.keep⟩, ⟨fun _ _ h => h, Nat.le_succ _, fun k hk hk' => ⟨hk', ?_⟩⟩⟩
  · have := h.low
    simp only [St.new, Tr.get_set] at hc
    rw [if_neg (by omega)] at hc
    exact h.globB k c hk hc
  · simp only [St.new, Tr.get_set] at hc
    rw [if_neg (by rintro rfl; rw [hn] at he; cases he)] at hc
    exact h.obj k c hc e he
  · simp only [St.new, Tr.get_set] at hc hc'
    rw [if_neg (by rintro rfl; rw [hn] at he; cases he)] at hc
    rw [if_neg (by rintro rfl; rw [hn] at he'; cases he')] at hc'
    exact h.inj k k' c c' e e' hc hc' he he' hb
  · simp only [St.new, Tr.get_set]
    rw [if_neg (by omega)]

/-- An operation is hoisted: the world does nothing. -/
theorem Inv.hoist (hI : Inv S G W E ops st0 ρ0 la hl s lr ρ a w) {rd : List ERow} (hrd : ∀ r ∈ rd, r ∈ rowsOf 0 ops.toList ∧ bitOf la r.i = false) {h : Held} {s1 : EFr} (hf : firstHoist E ops (rowsOf 0 ops.toList) s rd = some (h, s1))
    (hh : (h :: hl).all (holds E.G ops s1) = true) : Inv S G W E ops st0 ρ0 (la ||| (1 <<< h.row.i)) (h :: hl) s1 lr ρ a w := by
  obtain ⟨r, hr, hrow, hmay, hcase⟩ := firstHoist_spec hf
  obtain ⟨hmem, hbit⟩ := hrd r hr
  have hlt : r.i < ops.size := by
    have := (row_spec hmem).1
    rcases Nat.lt_or_ge r.i ops.size with h' | h'
    · exact h'
    · rw [Array.getElem?_eq_none h'] at this; exact nn this
  have hnl : ¬ isIn lr r.i := fun hin => by rw [hI.sub r.i hlt hin] at hbit; cases hbit
  obtain ⟨v, tm, hput, hs1, hsim, hext⟩ : ∃ v tm, aPut r.o.dst E.n s.tm v = some tm ∧ (s1.tm = tm ∧ s1.df = s.df) ∧ Sim S G W ρ s1.st w ∧ Ext ρ s.st ρ s1.st := by
    rcases hcase with ⟨v, tm, _, h2, rfl⟩ | ⟨t, z, tm, _, _, _, h2, rfl⟩
    · exact ⟨v, tm, h2, ⟨rfl, rfl⟩, hI.sim, .refl _ _⟩
    · obtain ⟨g1, g2⟩ := Sim.unborn hI.sim (.cells false (mark t 65535) (Tr.fill .nil 0 z.cells.toList))
      exact ⟨_, tm, h2, ⟨rfl, rfl⟩, g1, g2⟩
  have hother : ∀ t, r.o.dst ≠ some t → s1.tm.get t = s.tm.get t := by
    intro t ht
    rw [hs1.1]
    cases hd : r.o.dst with
    | none =>
      rw [hd] at hput
      cases (Option.some.inj (show some s.tm = some tm from hput))
      rfl
    | some d =>
      rw [hd] at hput
      have hput : (bif Nat.ble (Nat.succ d) E.n then some (s.tm.set d (some v)) else none) = some tm := hput
      cases hb : Nat.ble (Nat.succ d) E.n with
      | false => rw [hb] at hput; exact nn hput
      | true =>
        rw [hb] at hput
        cases (Option.some.inj hput)
        rw [Tr.get_set, if_neg (fun hh => ht (by rw [hd, hh]))]
  have hdlt : ∀ d, r.o.dst = some d → d < E.n := by
    intro d hd
    rw [hd] at hput
    have hput : (bif Nat.ble (Nat.succ d) E.n then some (s.tm.set d (some v)) else none) = some tm := hput
    cases hb : Nat.ble (Nat.succ d) E.n with
    | false => rw [hb] at hput; exact nn hput
    | true => exact ble_le hb
  have hold : ∀ h' ∈ h :: hl, holds E.G ops s1 h' = true := fun h' hm => List.all_eq_true.1 hh h' hm
  refine ⟨hI.size, fun i hi hin => bit_or.2 (.inl (hI.sub i hi hin)), fun i hi hb hn => ?_, fun h' hm => ?_, fun h' hm d hd => ?_, hI.tsize, by rw [hs1.2]; exact hI.df, hsim, hI.ext.trans hext, fun t ht => ?_, fun r' k hrk => ?_, fun r1 r2 k h1 h2 => ?_⟩
  · rcases bit_or.1 hb with hb | hb
    · obtain ⟨h', g1, g2⟩ := hI.pend i hi hb hn
      exact ⟨h', by simp [g1], g2⟩
    · exact ⟨h, by simp, hb⟩
  · rcases List.mem_cons.1 hm with rfl | hm'
    · exact ⟨by rw [hrow]; exact hmem, bit_or.2 (.inr rfl), by rw [hrow]; exact hmay, hold _ hm⟩
    · obtain ⟨g1, g2, g3, g4⟩ := hI.row h' hm'
      exact ⟨g1, bit_or.2 (.inl g2), g3, hold _ hm⟩
  · rcases List.mem_cons.1 hm with rfl | hm'
    · exact hdlt d (by rw [← hrow]; exact hd)
    · exact hI.dlt h' hm' d hd
  · have hne : r.o.dst ≠ some t := by
      have := ht h (by simp) (by show ¬ isIn lr h.row.i; rw [hrow]; exact hnl)
      rw [hrow] at this
      exact this
    have := hI.tm t fun h' hm' hp => ht h' (by simp [hm']) hp
    intro u hu
    rw [hother t hne] at hu
    exact this u hu
  · rcases hcase with ⟨v', tm', rfl, _, rfl⟩ | ⟨t', z, tm', rfl, g1, g2, _, rfl⟩
    · rcases List.mem_cons.1 hrk with hx | hx
      · cases hx
      · exact hI.var r' k hx
    · rcases List.mem_cons.1 hrk with hx | hx
      · injection hx with hx1 hx2
        subst hx1
        subst hx2
        exact ⟨⟨t', z, g1, g2, fun _ => ⟨hI.sim.fresh _ (Nat.le_refl _), by simp [St.new, Tr.get_set]⟩⟩, hI.sim.low, hI.ext.next, Nat.lt_succ_self _⟩
      · obtain ⟨⟨t2, z2, k1, k2, k4⟩, k5, k6, k7⟩ := hI.var r' k hx
        refine ⟨⟨t2, z2, k1, k2, fun hn => ?_⟩, k5, k6, Nat.lt_succ_of_lt k7⟩
        obtain ⟨k8, k9⟩ := k4 hn
        refine ⟨k8, ?_⟩
        simp only [St.new, Tr.get_set]
        rw [if_neg (by omega)]
        exact k9
  · rcases hcase with ⟨v', tm', rfl, _, _⟩ | ⟨t', z, tm', rfl, _⟩
    · rcases List.mem_cons.1 h1 with hx | hx
      · cases hx
      · rcases List.mem_cons.1 h2 with hy | hy
        · cases hy
        · exact hI.vinj r1 r2 k hx hy
    · rcases List.mem_cons.1 h1 with hx | hx
      · injection hx with hx1 hx2
        rcases List.mem_cons.1 h2 with hy | hy
        · injection hy with hy1 hy2
          rw [hx1, hy1]
        · have := (hI.var r2 k hy).new
          omega
      · rcases List.mem_cons.1 h2 with hy | hy
        · injection hy with hy1 hy2
          have := (hI.var r1 k hx).new
          omega
        · exact hI.vinj r1 r2 k hx hy

theorem isReady_of {la : Nat} {r : ERow} (h1 : bitOf la r.i = false) (h2 : ∀ j, Nat.testBit r.dm j = true → bitOf la j = true) : isReady la r = true := by
  unfold isReady
  rw [h1, Bool.and_eq_true]
  refine ⟨rfl, ?_⟩
  rw [Nat.beq_eq]
  apply Nat.eq_of_testBit_eq
  intro j
  rw [Nat.testBit_and]
  cases hb : Nat.testBit r.dm j with
  | false => rfl
  | true => rw [show Nat.testBit la j = true from h2 j hb]; rfl

/-- One operation does something: the world does it. -/
theorem Inv.solid (hX : XOk E.X) (hC : CallOk S G W E.call) (hG : E.G = G) (hb : goesBack (rowsOf 0 ops.toList) = true) (hI : Inv S G W E ops st0 ρ0 la hl s lr ρ a w) {r : ERow} (hone : ∀ x ∈ rowsOf 0 ops.toList, isReady la x = true → x = r) {s1 : EFr} (h1 : aOne E ops r.o s = some s1)
    (hh : (hl.filter fun h => !bitOf r.dm h.row.i).all (holds E.G ops s1) = true) {i : Nat} (hi : i ∈ Region.ready .any ops lr) (hbit : bitOf la i = false) {K : Act → World → Prop}
    (hK : ∀ a' w' ρ', Inv S G W E ops st0 ρ0 (la ||| (1 <<< r.i)) (hl.filter fun h => !bitOf r.dm h.row.i) s1 (lr.setIfInBounds i true) ρ' a' w' → K a' w') : wpOp P ops Q i K a w := by
  obtain ⟨o, ho, hlt, hn, hdeps⟩ := ready_spec hi
  have hrow := row_of ho
  have hback : ∀ j, Nat.testBit (maskOf o.after.toList) j = true → j < ops.size := by
    intro j hj
    have hm := List.all_eq_true.1 hb _ hrow
    have hlt2 : maskOf o.after.toList < 2 ^ i := by
      have := ble_le hm
      rw [Nat.one_shiftLeft] at this
      exact this
    rcases Nat.lt_or_ge j ops.size with h' | h'
    · exact h'
    · have := Nat.testBit_lt_two_pow (Nat.lt_of_lt_of_le hlt2 (Nat.pow_le_pow_right (by omega) (show i ≤ j by omega)))
      rw [this] at hj
      cases hj
  have hrr : (⟨i, o, maskOf o.after.toList⟩ : ERow) = r := hone _ hrow (isReady_of hbit fun j hj => hI.sub j (hback j hj) (hdeps j hj))
  subst hrr
  have hfil : ∀ h ∈ hl, Pend lr h → h ∈ hl.filter fun h => !bitOf (maskOf o.after.toList) h.row.i := by
    intro h hm hp
    refine List.mem_filter.2 ⟨hm, ?_⟩
    cases hbb : bitOf (maskOf o.after.toList) h.row.i with
    | false => rfl
    | true => exact absurd (hdeps _ hbb) hp
  refine aOne_sound hX hC hG ho hI.tsize hI.df hI.sim (hI.looks ho hdeps) h1 fun a' w' ρ' k1 k2 k3 k4 k5 k6 => hK a' w' ρ' ?_
  have hne : ∀ h ∈ hl, h.row.i ≠ i := fun h hm hx => by
    have := (hI.row h hm).2.1
    rw [hx, hbit] at this
    cases this
  have hin : ∀ h, h ∈ (hl.filter fun h => !bitOf (maskOf o.after.toList) h.row.i) → h ∈ hl := fun h hm => (List.mem_filter.1 hm).1
  refine ⟨by simp [hI.size], fun j hj hx => ?_, fun j hj hx hy => ?_, fun h hm => ?_, fun h hm => hI.dlt h (hin h hm), k1, k2, k3, hI.ext.trans k4, fun t ht => ?_, fun r k hrk => ?_, fun r1 r2 k g1 g2 => hI.vinj r1 r2 k (hin _ g1) (hin _ g2)⟩
  · rcases isIn_set.1 hx with rfl | hx
    · exact bit_or.2 (.inr rfl)
    · exact bit_or.2 (.inl (hI.sub j hj hx))
  · have hnj : ¬ isIn lr j := fun hh => hy (isIn_set.2 (.inr hh))
    rcases bit_or.1 hx with hx | hx
    · obtain ⟨h, g1, g2⟩ := hI.pend j hj hx hnj
      exact ⟨h, hfil h g1 (by unfold Pend; rw [g2]; exact hnj), g2⟩
    · exact absurd (isIn_set.2 (.inl hx.symm)) hy
  · obtain ⟨g1, g2, g3, g4⟩ := hI.row h (hin h hm)
    exact ⟨g1, bit_or.2 (.inl g2), g3, List.all_eq_true.1 hh h hm⟩
  · refine k5 t fun hd => hI.tm t fun h hm hp => ht h (hfil h hm hp) fun hx => ?_
    rcases isIn_set.1 hx with hx | hx
    · exact hne h hm hx
    · exact hp hx
  · obtain ⟨⟨t2, z2, q1, q2, q4⟩, q5, q6, q7⟩ := hI.var r k (hin _ hrk)
    refine ⟨⟨t2, z2, q1, q2, fun hx => ?_⟩, q5, q6, Nat.lt_of_lt_of_le q7 k4.next⟩
    obtain ⟨q8, q9⟩ := q4 fun hh => hx (isIn_set.2 (.inr hh))
    obtain ⟨m1, m2⟩ := k4.unborn k q7 q8
    exact ⟨m1, by rw [m2]; exact q9⟩

theorem allBits {la : Nat} (h : (rowsOf 0 ops.toList).all (fun r => bitOf la r.i) = true) {i : Nat} {o : Oper} (ho : ops[i]? = some o) : bitOf la i = true := List.all_eq_true.1 h _ (row_of ho)

/-- A REGION THAT DRAWS, in every order. -/
theorem evAny_wp (hX : XOk E.X) (hC : CallOk S G W E.call) (hG : E.G = G) (hb : goesBack (rowsOf 0 ops.toList) = true) {s' : EFr}
    (hQ : ∀ a' w' ρ', FrR E.n ρ' s' a' → Sim S G W ρ' s'.st w' → Ext ρ0 st0 ρ' s'.st → Q .normal a' w') : ∀ (k : Nat) (la : Nat) (hl : List Held) (s : EFr), evAny E ops (rowsOf 0 ops.toList) k la hl s = some s' →
    ∀ fuel lr ρ a w, Inv S G W E ops st0 ρ0 la hl s lr ρ a w → left lr ops.size ≤ fuel → wpAny P .any ops Q fuel lr a w := by
  intro k
  have done : ∀ (la : Nat) (hl : List Held) (s : EFr), (bif (rowsOf 0 ops.toList).all (fun r => bitOf la r.i) then some s else none) = some s' →
      ∀ fuel lr ρ a w, Inv S G W E ops st0 ρ0 la hl s lr ρ a w → left lr ops.size ≤ fuel → wpAny P .any ops Q fuel lr a w := by
    intro la hl s h
    cases hall : (rowsOf 0 ops.toList).all (fun r => bitOf la r.i) with
    | false => rw [hall] at h; exact nn h
    | true =>
      rw [hall] at h
      cases (Option.some.inj h)
      refine Inv.drain hG hb ?_ ?_
      · intro fuel lr ρ a w hI hle i hi hbit
        obtain ⟨o, ho, _⟩ := ready_spec hi
        rw [allBits hall ho] at hbit
        cases hbit
      · intro lr ρ a w hI hdone
        refine hQ a w ρ ⟨hI.tsize, fun t => hI.tm t fun h hm hp => ?_, hI.df⟩ hI.sim hI.ext
        exfalso
        refine hp (hdone _ ?_)
        have := (row_spec (hI.row h hm).1).1
        rcases Nat.lt_or_ge h.row.i ops.size with h' | h'
        · exact h'
        · rw [Array.getElem?_eq_none h'] at this; exact nn this
  induction k with
  | zero => intro la hl s h; exact done la hl s h
  | succ k ih =>
    intro la hl s h
    have h : (match (rowsOf 0 ops.toList).filter (isReady la) with
      | [] => bif (rowsOf 0 ops.toList).all (fun r => bitOf la r.i) then some s else none
      | rd => match firstHoist E ops (rowsOf 0 ops.toList) s rd with
        | some (h, s') => bif (h :: hl).all (holds E.G ops s') then evAny E ops (rowsOf 0 ops.toList) k (la ||| (1 <<< h.row.i)) (h :: hl) s' else none
        | none => match rd with
          | [r] => match aOne E ops r.o s with
            | some s' => bif (hl.filter fun h => !bitOf r.dm h.row.i).all (holds E.G ops s') then
                evAny E ops (rowsOf 0 ops.toList) k (la ||| (1 <<< r.i)) (hl.filter fun h => !bitOf r.dm h.row.i) s' else none
            | none => none
          | _ => none) = some s' := h
    generalize hrd : (rowsOf 0 ops.toList).filter (isReady la) = rd at h
    have hmem : ∀ r ∈ rd, r ∈ rowsOf 0 ops.toList ∧ bitOf la r.i = false := by
      intro r hr
      rw [← hrd] at hr
      obtain ⟨g1, g2⟩ := List.mem_filter.1 hr
      unfold isReady at g2
      rw [Bool.and_eq_true] at g2
      exact ⟨g1, by simpa using g2.1⟩
    cases rd with
    | nil => exact done la hl s h
    | cons r0 rest =>
      simp only at h
      cases hf : firstHoist E ops (rowsOf 0 ops.toList) s (r0 :: rest) with
      | some hs =>
        obtain ⟨hd, s1⟩ := hs
        rw [hf] at h
        simp only at h
        cases hall : (hd :: hl).all (holds E.G ops s1) with
        | false => rw [hall] at h; exact nn h
        | true =>
          rw [hall] at h
          simp only [cond_true] at h
          intro fuel lr ρ a w hI hle
          exact ih _ _ _ h fuel lr ρ a w (hI.hoist hmem hf hall) hle
      | none =>
        rw [hf] at h
        simp only at h
        cases rest with
        | cons _ _ => exact nn h
        | nil =>
          simp only at h
          cases h1 : aOne E ops r0.o s with
          | none => rw [h1] at h; exact nn h
          | some s1 =>
            rw [h1] at h
            simp only at h
            cases hall : (hl.filter fun h => !bitOf r0.dm h.row.i).all (holds E.G ops s1) with
            | false => rw [hall] at h; exact nn h
            | true =>
              rw [hall] at h
              simp only [cond_true] at h
              have hone : ∀ x ∈ rowsOf 0 ops.toList, isReady la x = true → x = r0 := by
                intro x hx hr
                have : x ∈ (rowsOf 0 ops.toList).filter (isReady la) := List.mem_filter.2 ⟨hx, hr⟩
                rw [hrd] at this
                simpa using this
              refine Inv.drain hG hb ?_ ?_
              · intro fuel lr ρ a w hI hle i hi hbit
                obtain ⟨o, ho, hlt, hn, _⟩ := ready_spec hi
                exact hI.solid hX hC hG hb hone h1 hall hi hbit fun a' w' ρ' hI' => ih _ _ _ h fuel _ ρ' a' w' hI' (by have := left_set hlt hn; omega)
              · intro lr ρ a w hI hdone
                exfalso
                obtain ⟨g1, g2⟩ := hmem r0 (by simp)
                have hlt : r0.i < ops.size := by
                  have := (row_spec g1).1
                  rcases Nat.lt_or_ge r0.i ops.size with h' | h'
                  · exact h'
                  · rw [Array.getElem?_eq_none h'] at this; exact nn this
                rw [hI.sub r0.i hlt (hdone r0.i hlt)] at g2
                cases g2

theorem mixed : P.follows .mixedOrders = true := by kernel_rfl

theorem evAny_sound (hX : XOk E.X) (hC : CallOk S G W E.call) (hG : E.G = G) {id : Nat} {s s' : EFr} {a : Act} {w : World} {ρ : Rho} (hF : FrR E.n ρ s a) (hS : Sim S G W ρ s.st w) (hb : goesBack (rowsOf 0 ops.toList) = true)
    (h : evAny E ops (rowsOf 0 ops.toList) ops.size 0 [] s = some s') (hQ : ∀ a' w' ρ', FrR E.n ρ' s' a' → Sim S G W ρ' s'.st w' → Ext ρ s.st ρ' s'.st → Q .normal a' w') :
    (Code.region id ops true).wp P Q a w := by
  refine wp_region_any mixed ?_
  refine evAny_wp (st0 := s.st) (ρ0 := ρ) hX hC hG hb hQ ops.size 0 [] s h ops.size _ ρ a _ ?_ ?_
  · have hnot : ∀ i, i < ops.size → ¬ isIn (Array.replicate ops.size false) i := by
      intro i hi hin
      unfold isIn at hin
      rw [Array.getD_eq_getD_getElem?, Array.getElem?_eq_getElem (by simpa using hi)] at hin
      simp at hin
    exact ⟨by simp, fun i hi hin => absurd hin (hnot i hi), fun i hi hb => (by unfold bitOf at hb; rw [Nat.zero_testBit] at hb; cases hb), fun h hm => (by cases hm), fun h hm => (by cases hm), hF.size, hF.df, hS.drew, .refl _ _,
      fun t _ => hF.tm t, fun r k hm => (by cases hm), fun r r' k hm => (by cases hm)⟩
  · unfold left
    have := List.length_filter_le (fun i => !(Array.replicate ops.size false).getD i true) (List.range ops.size)
    rw [List.length_range] at this
    exact this

end
end
end Go.Proofs.YtcgecgilkapjaaaGreatDoor
