/- The evaluator is sound: operations in a frame. -/
import Derived.Test.YtcgecgilkapjaaaGreatDoorEo
import Derived.Test.YtcgecgilkapjaaaGreatDoorEc
namespace Go.Proofs.YtcgecgilkapjaaaGreatDoor
open Go Go.RowKit
variable {S : Rho}

/-- A deferred call, and the model's. -/
def DefR (ρ : Rho) (x : FuncId × List Value) (d : Deferred) : Prop := (∃ cap, d.target = .fn (.func x.1) cap ∧ VRs ρ x.2 (d.args ++ cap).toList) ∧ hasBody x.1 = true

inductive DefsR (ρ : Rho) : List (FuncId × List Value) → List Deferred → Prop
  | nil : DefsR ρ [] []
  | cons {x : FuncId × List Value} {d : Deferred} {l : List (FuncId × List Value)} {l' : List Deferred} (h : DefR ρ x d) (k : DefsR ρ l l') : DefsR ρ (x :: l) (d :: l')

theorem DefsR.mono {ρ ρ' : Rho} (h : ρ.le ρ') : ∀ {l : List (FuncId × List Value)} {l' : List Deferred}, DefsR ρ l l' → DefsR ρ' l l'
  | _, _, .nil => .nil
  | _, _, .cons ⟨⟨cap, a, b⟩, c⟩ k => .cons ⟨⟨cap, a, b.mono h⟩, c⟩ (k.mono h)

/-- A temporary is as the evaluator has it. -/
def TmR (ρ : Rho) (tm : Tr Value) (a : Act) (t : Tmp) : Prop := ∀ v, tm.get t = some v → ∃ v', a.tmps[t]? = some v' ∧ VR ρ v v'

structure FrR (n : Nat) (ρ : Rho) (s : EFr) (a : Act) : Prop where
  size : a.tmps.size = n
  tm : ∀ t, TmR ρ s.tm a t
  df : DefsR ρ s.df a.defers

theorem TmR.mono {ρ ρ' : Rho} (h : ρ.le ρ') {tm : Tr Value} {a : Act} {t : Tmp} (k : TmR ρ tm a t) : TmR ρ' tm a t :=
  fun v hv => let ⟨v', x, y⟩ := k v hv; ⟨v', x, y.mono h⟩

theorem FrR.mono {n : Nat} {ρ ρ' : Rho} (h : ρ.le ρ') {s : EFr} {a : Act} (k : FrR n ρ s a) : FrR n ρ' s a :=
  ⟨k.size, fun t => (k.tm t).mono h, k.df.mono h⟩

/-- What a call comes to. -/
def Gives (S : Rho) (G : Nat) (W : World) (ρ : Rho) (st : St) (v : Value) (st' : St) (e : Ending) (w' : World) : Prop :=
  ∃ v' ρ', e = .returned v' ∧ VR ρ' v v' ∧ Sim S G W ρ' st' w' ∧ Ext ρ st ρ' st'

def CallOk (S : Rho) (G : Nat) (W : World) (call : ACall) : Prop := ∀ f vs st v st', call f vs st = some (v, st') → ∀ ρ w vs', Sim S G W ρ st w → VRs ρ vs vs' → Calls P f ⟨vs'⟩ w (Gives S G W ρ st v st')

section
variable {G : Nat} {W : World} {ρ : Rho} {w : World}

theorem flatQ_self {v : Value} (h : flatQ v = true) : VR ρ v v := by
  cases v <;> first | exact .int _ _ | exact .bool _ | exact .string _ | exact flat_self h

theorem aEval_sound {st : St} (hS : Sim S G W ρ st w) {tm : Tr Value} {a : Act} {x : Operand} {v : Value} (ht : ∀ t, x = .tmp t → TmR ρ tm a t) (h : aEval x G st tm = some v) : VR ρ v (a.eval x) := by
  cases x with
  | tmp t =>
    obtain ⟨v', h1, h2⟩ := ht t rfl v h
    have : a.eval (.tmp t) = v' := by simp [Act.eval, Array.getD_eq_getD_getElem?, h1]
    rw [this]
    exact h2
  | const c =>
    have h : asConst (flatQ c) c = some v := h
    cases hf : flatQ c with
    | false => rw [hf] at h; exact nn h
    | true => rw [hf] at h; cases (Option.some.inj (show some c = some v from h)); exact flatQ_self hf
  | global g =>
    have h : asGlobal (st.heap.get g) G g = some v := h
    cases hg : st.heap.get g with
    | none => rw [hg] at h; exact nn h
    | some o =>
      rw [hg] at h
      have h : (bif Nat.ble (Nat.succ g) G then some (Value.pointer (some ⟨g, 0, none⟩)) else none) = some v := h
      cases hb : Nat.ble (Nat.succ g) G with
      | false => rw [hb] at h; exact nn h
      | true =>
        rw [hb] at h
        cases (Option.some.inj h)
        have hlt : g < G := ble_le hb
        obtain ⟨e, he⟩ := hS.globB g o hlt hg
        obtain ⟨h1, h2⟩ := hS.glob g e hlt he
        have := VR.ptr (ρ := ρ) 0 he
        rw [h1, h2] at this
        exact this
  | func f => cases (Option.some.inj (show some (Value.func (.func f) ⟨[]⟩ ⟨[]⟩) = some v from h)); exact .func _ .nil .nil

theorem aWanted_sound {ops : Array Oper} {tm : Tr Value} {a : Act} {o : Oper} {b : Bool} (ht : ∀ j want d, o.guard = some (j, want) → (ops[j]?).bind (·.dst) = some d → TmR ρ tm a d) (h : aWanted o.guard ops tm = some b) :
    Region.wanted o (yielded ops a.tmps) = b := by
  unfold Region.wanted
  cases hg : o.guard with
  | none => rw [hg] at h; exact Option.some.inj h
  | some g =>
    obtain ⟨j, want⟩ := g
    rw [hg] at h
    have h : (match (ops[j]?).bind (·.dst) with | none => some false | some d => asWanted (tm.get d) want) = some b := h
    show (yielded ops a.tmps j == some want) = b
    cases hd : (ops[j]?).bind (·.dst) with
    | none =>
      rw [hd] at h
      cases (Option.some.inj h)
      unfold yielded
      rw [hd]
      rfl
    | some d =>
      rw [hd] at h
      have h : asWanted (tm.get d) want = some b := h
      cases hv : tm.get d with
      | none => rw [hv] at h; exact nn h
      | some v =>
        obtain ⟨v', h1, h2⟩ := ht j want d hg hd v hv
        rw [hv] at h
        unfold yielded
        rw [hd]
        simp only [Option.bind_some, h1]
        cases h2 <;> first
          | (cases (Option.some.inj h); rfl)

theorem aPut_sound {n : Nat} {dst : Option Tmp} {tm tm' : Tr Value} {a : Act} {v v' : Value} (hs : a.tmps.size = n) (hv : VR ρ v v') (h : aPut dst n tm v = some tm') :
    (a.put dst v').tmps.size = n ∧ (a.put dst v').defers = a.defers ∧ (∀ t, dst = some t → TmR ρ tm' (a.put dst v') t) ∧ (∀ t, dst ≠ some t → (tm'.get t = tm.get t ∧ (a.put dst v').tmps[t]? = a.tmps[t]?)) := by
  cases dst with
  | none =>
    cases (Option.some.inj (show some tm = some tm' from h))
    exact ⟨hs, rfl, fun t ht => (by cases ht), fun t _ => ⟨rfl, rfl⟩⟩
  | some d =>
    have h : (bif Nat.ble (Nat.succ d) n then some (tm.set d (some v)) else none) = some tm' := h
    cases hb : Nat.ble (Nat.succ d) n with
    | false => rw [hb] at h; exact nn h
    | true =>
      rw [hb] at h
      cases (Option.some.inj h)
      have hlt : d < n := ble_le hb
      refine ⟨by simp [Act.put, hs], rfl, fun t ht => ?_, fun t ht => ?_⟩
      · cases (Option.some.inj ht)
        intro u hu
        rw [Tr.get_set, if_pos rfl] at hu
        cases (Option.some.inj hu)
        exact ⟨v', by simp [Act.put, hs, hlt], hv⟩
      · have hne : d ≠ t := fun hh => ht (by rw [hh])
        exact ⟨by rw [Tr.get_set, if_neg (Ne.symm hne)], by simp only [Act.put]; rw [Array.getElem?_setIfInBounds_ne hne]⟩

theorem asFr_some {t : Option (Tr Value)} {df : List (FuncId × List Value)} {st : St} {s : EFr} (h : asFr t df st = some s) : ∃ tm, t = some tm ∧ s = ⟨tm, df, st⟩ := by
  cases t with
  | none => exact nn h
  | some tm => exact ⟨tm, rfl, (Option.some.inj (show some (EFr.mk tm df st) = some s from h)).symm⟩

/-- The temporaries that count, behind a put: those of a set S are alike. -/
theorem put_keeps {n : Nat} {dst : Option Tmp} {tm tm' : Tr Value} {a : Act} {v v' : Value} (hs : a.tmps.size = n) (hv : VR ρ v v') (h : aPut dst n tm v = some tm') {t : Tmp} (ht : dst ≠ some t → TmR ρ tm a t) :
    TmR ρ tm' (a.put dst v') t := by
  obtain ⟨-, -, h1, h2⟩ := aPut_sound hs hv h
  by_cases hd : dst = some t
  · exact h1 t hd
  · intro u hu
    rw [(h2 t hd).1] at hu
    rw [(h2 t hd).2]
    exact ht hd u hu

end

section
variable {G : Nat} {W : World} {ops : Array Oper} {Q : Exit → Act → World → Prop}

/-- AN OPERATION IN A FRAME. Of the temporaries those must be alike that it looks at; behind it, those are alike that were, and its own. -/
theorem aOne_sound {E : En} (hX : XOk E.X) (hC : CallOk S G W E.call) (hG : E.G = G) {i : Nat} {o : Oper} (ho : ops[i]? = some o) {s s' : EFr} {a : Act} {w : World} {ρ : Rho} (hsz : a.tmps.size = E.n) (hdf : DefsR ρ s.df a.defers)
    (hS : Sim S G W ρ s.st w) (ht : ∀ t ∈ Oper.looksAt ops o, TmR ρ s.tm a t) (h : aOne E ops o s = some s') {K : Act → World → Prop}
    (hK : ∀ a' w' ρ', a'.tmps.size = E.n → DefsR ρ' s'.df a'.defers → Sim S G W ρ' s'.st w' → Ext ρ s.st ρ' s'.st → (∀ t, (o.dst ≠ some t → TmR ρ s.tm a t) → TmR ρ' s'.tm a' t) →
      (∀ t, o.dst ≠ some t → a'.tmps[t]? = a.tmps[t]? ∧ s'.tm.get t = s.tm.get t) → K a' w') : wpOp P ops Q i K a w := by
  have hops : ∀ x ∈ o.op.operands, ∀ t, x = .tmp t → t ∈ Oper.looksAt ops o := by
    rintro x hx t rfl
    simp only [Oper.looksAt, List.mem_append, List.mem_filterMap]
    exact .inl ⟨.tmp t, by simpa using hx, rfl⟩
  have hguard : ∀ j want d, o.guard = some (j, want) → (ops[j]?).bind (·.dst) = some d → TmR ρ s.tm a d := by
    intro j want d hg hd
    refine ht d ?_
    simp only [Oper.looksAt, List.mem_append, hg, hd]
    exact .inr (by simp)
  have h : aGo (aWanted o.guard ops s.tm) E o s = some s' := h
  unfold wpOp
  rw [ho]
  simp only
  cases hw : aWanted o.guard ops s.tm with
  | none => rw [hw] at h; exact nn h
  | some b =>
    have hwant := aWanted_sound (o := o) hguard hw
    rw [hw] at h
    cases b with
    | false =>
      rw [hwant]
      simp only [Bool.false_eq_true, if_false]
      obtain ⟨tm, h1, rfl⟩ := asFr_some (show asFr (aPut o.dst E.n s.tm undef) s.df s.st = some s' from h)
      have hv : VR ρ undef undef := .tuple .nil
      obtain ⟨p1, p2, p3, p4⟩ := aPut_sound hsz hv h1
      exact hK _ _ ρ p1 (by rw [p2]; exact hdf) hS (.refl _ _) (fun t ht => put_keeps hsz hv h1 ht) (fun t ht => ⟨(p4 t ht).2, (p4 t ht).1⟩)
    | true =>
      rw [hwant]
      simp only [if_true]
      left
      have h : aBehind (aOp o.op E.X (s.ev E.G) s.st) E o.dst s = some s' := h
      cases hr : aOp o.op E.X (s.ev E.G) s.st with
      | none => rw [hr] at h; exact nn h
      | some rr =>
        obtain ⟨r, st'⟩ := rr
        rw [hr] at h
        have hev : ∀ x ∈ o.op.operands, ∀ v, s.ev E.G x = some v → VR ρ v (a.eval x) := fun x hx v hv =>
          aEval_sound hS (fun t htt => ht t (hops x hx t htt)) (by rw [← hG]; exact hv)
        obtain ⟨r', w', ρ', g1, g2, g3, g4⟩ := aOp_sound hX hS hev hr
        unfold Oper.wp
        rw [g1]
        have value : ∀ v v', VR ρ' v v' → asFr (aPut o.dst E.n s.tm v) s.df st' = some s' → K (a.put o.dst v') w' := by
          intro v v' hv hfr
          obtain ⟨tm, h1, rfl⟩ := asFr_some hfr
          obtain ⟨p1, p2, p3, p4⟩ := aPut_sound hsz hv h1
          exact hK _ _ ρ' p1 (by rw [p2]; exact hdf.mono g4.le) g3 g4 (fun t ht => put_keeps hsz hv h1 fun hd => (ht hd).mono g4.le) (fun t ht => ⟨(p4 t ht).2, (p4 t ht).1⟩)
        cases r with
        | value v =>
          have h : asFr (aPut o.dst E.n s.tm v) s.df st' = some s' := h
          cases r' <;> first | exact g2.elim | skip
          · exact value v _ g2 h
          · have g2 : v = undef := g2
            subst g2
            exact value undef undef (.tuple .nil) h
        | enter f vs =>
          cases r' <;> first | exact g2.elim | skip
          rename_i g args
          obtain ⟨rfl, hvs, hb⟩ := g2
          have h : aBack (E.call g vs st') E o.dst s = some s' := h
          cases hc : E.call g vs st' with
          | none => rw [hc] at h; exact nn h
          | some vr =>
            obtain ⟨v, st2⟩ := vr
            rw [hc] at h
            have h : asFr (aPut o.dst E.n s.tm v) s.df st2 = some s' := h
            have hcalls := hC g vs st' v st2 hc ρ' w' args.toList g3 hvs
            rw [Oper.upon_enter]
            refine Calls.mono hcalls ?_
            rintro e w2 ⟨v', ρ2, rfl, k1, k2, k3⟩
            obtain ⟨tm, h1, rfl⟩ := asFr_some h
            obtain ⟨p1, p2, p3, p4⟩ := aPut_sound hsz k1 h1
            have hext := g4.trans k3
            exact hK _ _ ρ2 p1 (by rw [p2]; exact hdf.mono hext.le) k2 hext (fun t ht => put_keeps hsz k1 h1 fun hd => (ht hd).mono hext.le) (fun t ht => ⟨(p4 t ht).2, (p4 t ht).1⟩)
        | defer f vs =>
          cases r' <;> first | exact g2.elim | skip
          rename_i d
          have h : asFr (aPut o.dst E.n s.tm undef) ((f, vs) :: s.df) st' = some s' := h
          obtain ⟨tm, h1, rfl⟩ := asFr_some h
          have hv : VR ρ' undef undef := .tuple .nil
          have hsz' : ({ a with defers := d :: a.defers } : Act).tmps.size = E.n := hsz
          obtain ⟨p1, p2, p3, p4⟩ := aPut_sound (a := { a with defers := d :: a.defers }) hsz' hv h1
          rw [Oper.upon_defer]
          exact hK _ _ ρ' p1 (by rw [p2]; exact .cons g2 (hdf.mono g4.le)) g3 g4 (fun t ht => put_keeps (a := { a with defers := d :: a.defers }) hsz' hv h1 fun hd => (ht hd).mono g4.le) (fun t ht => ⟨(p4 t ht).2, (p4 t ht).1⟩)

/-- A region in its order. -/
theorem evOps_sound {E : En} (hX : XOk E.X) (hC : CallOk S G W E.call) (hG : E.G = G) : ∀ (l : List Oper) (k : Nat) (s s' : EFr) (a : Act) (w : World) (ρ : Rho), ops.toList.drop k = l → FrR E.n ρ s a → Sim S G W ρ s.st w → evOps l E ops s = some s' →
    (∀ a' w' ρ', FrR E.n ρ' s' a' → Sim S G W ρ' s'.st w' → Ext ρ s.st ρ' s'.st → Q .normal a' w') → wpOps P ops Q (List.range' k l.length) a w
  | [], k, s, s', a, w, ρ, _, hF, hS, h, hQ => by
    cases (Option.some.inj (show some s = some s' from h))
    exact hQ a w ρ hF hS (.refl _ _)
  | o :: l, k, s, s', a, w, ρ, hd, hF, hS, h, hQ => by
    have ho : ops[k]? = some o := by
      have : (ops.toList.drop k)[0]? = some o := by rw [hd]; rfl
      rw [List.getElem?_drop] at this
      simpa using this
    have hd' : ops.toList.drop (k + 1) = l := by
      have := congrArg (List.drop 1) hd
      rw [List.drop_drop] at this
      simpa [Nat.add_comm] using this
    have h : evNext (aOne E ops o s) (evOps l) E ops = some s' := h
    rw [List.length_cons, List.range'_succ, wpOps_cons]
    cases h1 : aOne E ops o s with
    | none => rw [h1] at h; exact nn h
    | some s1 =>
      rw [h1] at h
      have h : evOps l E ops s1 = some s' := h
      refine aOne_sound hX hC hG ho hF.size hF.df hS (fun t _ => hF.tm t) h1 fun a1 w1 ρ1 k1 k2 k3 k4 k5 k6 => ?_
      exact evOps_sound hX hC hG l (k + 1) s1 s' a1 w1 ρ1 hd' ⟨k1, fun t => k5 t fun _ => hF.tm t, k2⟩ k3 h fun a2 w2 ρ2 m1 m2 m3 => hQ a2 w2 ρ2 m1 m2 (k4.trans m3)

end
end Go.Proofs.YtcgecgilkapjaaaGreatDoor
