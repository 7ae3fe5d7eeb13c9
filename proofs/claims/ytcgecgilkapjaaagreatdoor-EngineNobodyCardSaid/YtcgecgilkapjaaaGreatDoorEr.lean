/- The evaluator is sound: code and calls. -/
import Derived.Test.YtcgecgilkapjaaaGreatDoorEq
namespace Go.Proofs.YtcgecgilkapjaaaGreatDoor
open Go Go.RowKit
variable {S : Rho}

def exitOf : AExit → Exit
  | .normal => .normal
  | .exit id => .exit id
  | .ret => .ret

/-- A loop from its round's beginning. -/
def LoopWp (c : Code) (Q : Exit → Act → World → Prop) (a : Act) (w : World) : Prop :=
  ∀ (b : Frame) (k : List Item) (cs : List Frame), ∃ e a' w', Q e a' w' ∧ Arrives P (lone (b.at a (.code c :: .inLoop c :: k)) cs w) b k cs e a' w'

theorem LoopWp.round {c : Code} {Q : Exit → Act → World → Prop} {a : Act} {w : World} (h : c.wp P (Exit.then (LoopWp c Q) Q) a w) : LoopWp c Q a w := by
  intro b k cs
  obtain ⟨e, a₁, w₁, hq, harr⟩ := h b (.inLoop c :: k) cs
  cases e with
  | normal =>
    obtain ⟨e₂, a₂, w₂, hq₂, harr₂⟩ := hq b k cs
    exact ⟨e₂, a₂, w₂, hq₂, .of_steps (Steps.trans harr (.one step_inLoop)) harr₂⟩
  | exit id => exact ⟨_, a₁, w₁, hq, .pass (x := .inLoop c) rfl (fun _ _ => .inl (by simp)) harr⟩
  | goto l => exact ⟨_, a₁, w₁, hq, .pass (x := .inLoop c) rfl (fun _ _ => .inl (by simp)) harr⟩
  | ret => exact ⟨_, a₁, w₁, hq, .pass (x := .inLoop c) rfl (fun _ _ => .inl (by simp)) harr⟩
  | panic ch => exact ⟨_, a₁, w₁, hq, .pass (x := .inLoop c) rfl (fun _ _ => .inl (by simp)) harr⟩
  | outgrown => exact ⟨_, a₁, w₁, hq, .pass (x := .inLoop c) rfl (fun _ _ => .inl (by simp)) harr⟩

theorem LoopWp.wp {c : Code} {Q : Exit → Act → World → Prop} {a : Act} {w : World} (h : LoopWp c Q a w) : (Code.loop c).wp P Q a w := by
  intro b k cs
  obtain ⟨e, a', w', hq, harr⟩ := h b k cs
  exact ⟨e, a', w', hq, .of_steps (.one step_loop) harr⟩

section
variable {G : Nat} {W : World}

/-- What a piece of code comes to. -/
def CodeOk (S : Rho) (G : Nat) (W : World) (E : En) (f : EFr → Ran) (c : Code) : Prop :=
  ∀ (s s' : EFr) (x : AExit) (a : Act) (w : World) (ρ : Rho) (Q : Exit → Act → World → Prop), f s = some (x, s') → FrR E.n ρ s a → Sim S G W ρ s.st w →
    (∀ a' w' ρ', FrR E.n ρ' s' a' → Sim S G W ρ' s'.st w' → Ext ρ s.st ρ' s'.st → Q (exitOf x) a' w') → c.wp P Q a w

theorem evLoop_sound {E : En} {f : EFr → Ran} {c : Code} (hc : CodeOk S G W E f c) : ∀ (k : Nat) (s s' : EFr) (x : AExit) (a : Act) (w : World) (ρ : Rho) (Q : Exit → Act → World → Prop), evLoop k f s = some (x, s') → FrR E.n ρ s a → Sim S G W ρ s.st w →
    (∀ a' w' ρ', FrR E.n ρ' s' a' → Sim S G W ρ' s'.st w' → Ext ρ s.st ρ' s'.st → Q (exitOf x) a' w') → LoopWp c Q a w
  | 0, s, s', x, a, w, ρ, Q, h, _, _, _ => nn (show (none : Ran) = some (x, s') from h)
  | k + 1, s, s', x, a, w, ρ, Q, h, hF, hS, hQ => by
    have h : evAgain (f s) (evLoop k) f = some (x, s') := h
    refine LoopWp.round ?_
    rcases hf : f s with _ | ⟨_ | id | _, s1⟩
    · rw [hf] at h; exact nn h
    · rw [hf] at h
      have h : evLoop k f s1 = some (x, s') := h
      refine hc s s1 .normal a w ρ _ hf hF hS fun a1 w1 ρ1 k1 k2 k3 => ?_
      exact evLoop_sound hc k s1 s' x a1 w1 ρ1 Q h k1 k2 fun a2 w2 ρ2 m1 m2 m3 => hQ a2 w2 ρ2 m1 m2 (k3.trans m3)
    · rw [hf] at h
      have h := Option.some.inj (show some (AExit.exit id, s1) = some (x, s') from h)
      injection h with h1 h2
      subst h1
      subst h2
      exact hc s s1 (.exit id) a w ρ _ hf hF hS hQ
    · rw [hf] at h
      have h := Option.some.inj (show some (AExit.ret, s1) = some (x, s') from h)
      injection h with h1 h2
      subst h1
      subst h2
      exact hc s s1 .ret a w ρ _ hf hF hS hQ

theorem ran_inj {x y : AExit} {s t : EFr} (h : (some (x, s) : Ran) = some (y, t)) : x = y ∧ s = t := by
  have h := Option.some.inj h
  injection h with h1 h2
  exact ⟨h1, h2⟩

/-- A PIECE OF CODE. -/
theorem evCode_sound {E : En} (hX : XOk E.X) (hC : CallOk S G W E.call) (hG : E.G = G) (lf : Nat) : ∀ (c : Code), CodeOk S G W E (evCode c E lf) c := by
  intro c
  induction c with
  | skip =>
    intro s s' x a w ρ Q h hF hS hQ
    obtain ⟨rfl, rfl⟩ := ran_inj (show some (AExit.normal, s) = some (x, s') from h)
    exact wp_skip (hQ a w ρ hF hS (.refl _ _))
  | label l =>
    intro s s' x a w ρ Q h hF hS hQ
    obtain ⟨rfl, rfl⟩ := ran_inj (show some (AExit.normal, s) = some (x, s') from h)
    exact wp_label (hQ a w ρ hF hS (.refl _ _))
  | ret =>
    intro s s' x a w ρ Q h hF hS hQ
    obtain ⟨rfl, rfl⟩ := ran_inj (show some (AExit.ret, s) = some (x, s') from h)
    exact wp_ret (hQ a w ρ hF hS (.refl _ _))
  | exit id =>
    intro s s' x a w ρ Q h hF hS hQ
    obtain ⟨rfl, rfl⟩ := ran_inj (show some (AExit.exit id, s) = some (x, s') from h)
    exact wp_exit (hQ a w ρ hF hS (.refl _ _))
  | goto l => intro s s' x a w ρ Q h; exact nn (show (none : Ran) = some (x, s') from h)
  | refuse l => intro s s' x a w ρ Q h; exact nn (show (none : Ran) = some (x, s') from h)
  | rangeFunc f ps a b _ _ => intro s s' x a w ρ Q h; exact nn (show (none : Ran) = some (x, s') from h)
  | region id ops draw =>
    intro s s' x a w ρ Q h hF hS hQ
    cases draw with
    | false =>
      have h : asNormal (evOps ops.toList E ops s) = some (x, s') := h
      cases hr : evOps ops.toList E ops s with
      | none => rw [hr] at h; exact nn h
      | some s1 =>
        rw [hr] at h
        obtain ⟨rfl, rfl⟩ := ran_inj (show some (AExit.normal, s1) = some (x, s') from h)
        refine wp_region ?_
        have := evOps_sound (Q := Q) hX hC hG ops.toList 0 s s1 a w ρ (List.drop_zero) hF hS hr hQ
        rw [Array.length_toList] at this
        rw [List.range_eq_range']
        exact this
    | true =>
      have h : (bif goesBack (rowsOf 0 ops.toList) then asNormal (evAny E ops (rowsOf 0 ops.toList) ops.size 0 [] s) else none) = some (x, s') := h
      cases hgb : goesBack (rowsOf 0 ops.toList) with
      | false => rw [hgb] at h; exact nn h
      | true =>
        rw [hgb] at h
        simp only [cond_true] at h
        cases hr : evAny E ops (rowsOf 0 ops.toList) ops.size 0 [] s with
        | none => rw [hr] at h; exact nn h
        | some s1 =>
          rw [hr] at h
          obtain ⟨rfl, rfl⟩ := ran_inj (show some (AExit.normal, s1) = some (x, s') from h)
          exact evAny_sound hX hC hG hF hS hgb hr hQ
  | seq c d ihc ihd =>
    intro s s' x a w ρ Q h hF hS hQ
    have h : evSeq (evCode c E lf s) (evCode d) E lf = some (x, s') := h
    refine wp_seq ?_
    rcases hf : evCode c E lf s with _ | ⟨_ | id | _, s1⟩
    · rw [hf] at h; exact nn h
    · rw [hf] at h
      have h : evCode d E lf s1 = some (x, s') := h
      refine ihc s s1 .normal a w ρ _ hf hF hS fun a1 w1 ρ1 k1 k2 k3 => ?_
      exact ihd s1 s' x a1 w1 ρ1 Q h k1 k2 fun a2 w2 ρ2 m1 m2 m3 => hQ a2 w2 ρ2 m1 m2 (k3.trans m3)
    · rw [hf] at h
      obtain ⟨rfl, rfl⟩ := ran_inj (show some (AExit.exit id, s1) = some (x, s') from h)
      exact ihc s s1 (.exit id) a w ρ _ hf hF hS hQ
    · rw [hf] at h
      obtain ⟨rfl, rfl⟩ := ran_inj (show some (AExit.ret, s1) = some (x, s') from h)
      exact ihc s s1 .ret a w ρ _ hf hF hS hQ
  | cond o c d ihc ihd =>
    intro s s' x a w ρ Q h hF hS hQ
    have h : evCond (aEval o E.G s.st s.tm) (evCode c) (evCode d) E lf s = some (x, s') := h
    cases hv : aEval o E.G s.st s.tm with
    | none => rw [hv] at h; exact nn h
    | some v =>
      rw [hv] at h
      have hval := aEval_sound (a := a) hS (fun t _ => hF.tm t) (by rw [← hG]; exact hv)
      cases v <;> try exact nn h
      rename_i b
      have he : a.eval o = .bool b := by
        cases hx : a.eval o <;> rw [hx] at hval <;> cases hval
        rfl
      cases b with
      | true => exact wp_cond he (ihc s s' x a w ρ Q h hF hS hQ)
      | false => exact wp_cond he (ihd s s' x a w ρ Q h hF hS hQ)
  | block id c ih =>
    intro s s' x a w ρ Q h hF hS hQ
    have h : evBlock (evCode c E lf s) id = some (x, s') := h
    refine wp_block ?_
    rcases hf : evCode c E lf s with _ | ⟨_ | id' | _, s1⟩
    · rw [hf] at h; exact nn h
    · rw [hf] at h
      obtain ⟨rfl, rfl⟩ := ran_inj (show some (AExit.normal, s1) = some (x, s') from h)
      exact ih s s1 .normal a w ρ _ hf hF hS hQ
    · rw [hf] at h
      have h : (bif Nat.beq id' id then some (AExit.normal, s1) else some (AExit.exit id', s1)) = some (x, s') := h
      refine ih s s1 (.exit id') a w ρ _ hf hF hS fun a1 w1 ρ1 k1 k2 k3 => ?_
      cases hb : Nat.beq id' id with
      | true =>
        rw [hb] at h
        obtain ⟨rfl, rfl⟩ := ran_inj h
        have := Nat.eq_of_beq_eq_true hb
        show (if id' = id then Q .normal a1 w1 else Q (.exit id') a1 w1)
        rw [if_pos this]
        exact hQ a1 w1 ρ1 k1 k2 k3
      | false =>
        rw [hb] at h
        obtain ⟨rfl, rfl⟩ := ran_inj h
        have := Nat.ne_of_beq_eq_false hb
        show (if id' = id then Q .normal a1 w1 else Q (.exit id') a1 w1)
        rw [if_neg this]
        exact hQ a1 w1 ρ1 k1 k2 k3
    · rw [hf] at h
      obtain ⟨rfl, rfl⟩ := ran_inj (show some (AExit.ret, s1) = some (x, s') from h)
      exact ih s s1 .ret a w ρ _ hf hF hS hQ
  | loop c ih =>
    intro s s' x a w ρ Q h hF hS hQ
    exact (evLoop_sound ih lf s s' x a w ρ Q h hF hS hQ).wp
  | scope c ih =>
    intro s s' x a w ρ Q h hF hS hQ
    refine wp_scope_straight (ih s s' x a w ρ _ h hF hS fun a1 w1 ρ1 k1 k2 k3 => ?_)
    have := hQ a1 w1 ρ1 k1 k2 k3
    cases x <;> exact this

/-- One result. -/
def resOf (tmps : Array Value) : ResultVar → Sem Value
  | .tmp t => pure (tmps.getD t undef)
  | .cell a t => do loadVar t (← asAddr (tmps.getD a undef))

theorem results_eq (fn : Func) (tmps : Array Value) : results fn tmps = (do
    let vs ← fn.results.mapM (resOf tmps)
    pure (if h : vs.size = 1 then vs[0] else .tuple vs)) := by
  unfold results
  have : (fun (x : ResultVar) => (match x with
    | .tmp t => pure (tmps.getD t undef)
    | .cell a t => do loadVar t (← asAddr (tmps.getD a undef)) : Sem Value)) = resOf tmps := by
    funext x
    cases x <;> rfl
  exact congrArg (fun f : ResultVar → Sem Value => (fn.results.mapM f >>= fun vs => pure (if h : vs.size = 1 then vs[0] else .tuple vs))) this

theorem map_results (fn : Func) (tmps : Array Value) (w : World) {vs : List Value} (h : (fn.results.toList.mapM (resOf tmps)).run P w = .ok vs w) :
    (results fn tmps).run P w = .ok (if h : (⟨vs⟩ : Array Value).size = 1 then (⟨vs⟩ : Array Value)[0] else .tuple ⟨vs⟩) w := by
  rw [results_eq, Sem.run_bind, Array.mapM_eq_mapM_toList, Sem.run_map]
  rw [h]
  exact Sem.run_pure P w _

theorem aResults_sound {st : St} {ρ : Rho} {w : World} (hS : Sim S G W ρ st w) {tm : Tr Value} {a : Act} (ht : ∀ t, TmR ρ tm a t) : ∀ (rs : List ResultVar) {vs : List Value}, aResults tm st rs = some vs →
    ∃ vs', (rs.mapM (resOf a.tmps)).run P w = .ok vs' w ∧ VRs ρ vs vs' := by
  intro rs
  induction rs with
  | nil =>
    intro vs h
    cases (Option.some.inj (show some [] = some vs from h))
    exact ⟨[], by rw [List.mapM_nil]; exact Sem.run_pure P w _, .nil⟩
  | cons r rs ih =>
    intro vs h
    have get : ∀ t v, tm.get t = some v → ∃ v', a.tmps.getD t undef = v' ∧ VR ρ v v' := by
      intro t v hv
      obtain ⟨v', h1, h2⟩ := ht t v hv
      exact ⟨v', by simp [Array.getD_eq_getD_getElem?, h1], h2⟩
    cases r with
    | tmp t =>
      simp only [aResults] at h
      cases hv : tm.get t with
      | none => rw [hv] at h; exact nn h
      | some v =>
        rw [hv] at h
        simp only at h
        cases hr : aResults tm st rs with
        | none => rw [hr] at h; exact nn h
        | some r =>
          rw [hr] at h
          cases (Option.some.inj h)
          obtain ⟨v', g1, g2⟩ := get t v hv
          obtain ⟨vs', g3, g4⟩ := ih hr
          refine ⟨v' :: vs', ?_, .cons g2 g4⟩
          have gl : (resOf a.tmps (.tmp t)).run P w = .ok v' w := by rw [← g1]; exact Sem.run_pure P w _
          rw [List.mapM_cons, Sem.run_bind, gl, Result.andThen_ok, Sem.run_bind, g3, Result.andThen_ok]
          exact Sem.run_pure P w _
    | cell b t =>
      simp only [aResults] at h
      cases hx : tm.get b with
      | none => rw [hx] at h; exact nn h
      | some x =>
        rw [hx] at h
        simp only at h
        cases hv : aLoad x t st with
        | none => rw [hv] at h; exact nn h
        | some v =>
          rw [hv] at h
          simp only at h
          cases hr : aResults tm st rs with
          | none => rw [hr] at h; exact nn h
          | some r =>
            rw [hr] at h
            cases (Option.some.inj h)
            obtain ⟨x', g1, g2⟩ := get b x hx
            obtain ⟨v', g3, g4⟩ := aLoad_sound hS g2 hv
            obtain ⟨vs', g5, g6⟩ := ih hr
            refine ⟨v' :: vs', ?_, .cons g4 g6⟩
            have gl : (resOf a.tmps (.cell b t)).run P w = .ok v' w := by
              show (do loadVar t (← asAddr (a.tmps.getD b undef)) : Sem Value).run P w = _
              rw [g1]
              obtain ⟨k, o, rfl, _⟩ := aLoad_inv hv
              cases g2
              exact g3
            rw [List.mapM_cons, Sem.run_bind]
            rw [gl, Result.andThen_ok, Sem.run_bind, g5, Result.andThen_ok]
            exact Sem.run_pure P w _

theorem aResult_sound {st : St} {ρ : Rho} {w : World} (hS : Sim S G W ρ st w) {tm : Tr Value} {a : Act} (ht : ∀ t, TmR ρ tm a t) {fn : Func} {v : Value} (h : aResult tm st fn.results.toList = some v) :
    ∃ v', (results fn a.tmps).run P w = .ok v' w ∧ VR ρ v v' := by
  have h : asResult (aResults tm st fn.results.toList) = some v := h
  cases hr : aResults tm st fn.results.toList with
  | none => rw [hr] at h; exact nn h
  | some vs =>
    rw [hr] at h
    obtain ⟨vs', h1, h2⟩ := aResults_sound hS ht fn.results.toList hr
    refine ⟨_, map_results fn a.tmps w h1, ?_⟩
    rcases vs with _ | ⟨x, _ | ⟨y, l⟩⟩
    · cases h2
      cases (Option.some.inj (show some (Value.tuple ⟨[]⟩) = some v from h))
      exact .tuple .nil
    · cases h2 with
      | cons hx hk =>
        cases hk
        cases (Option.some.inj (show some x = some v from h))
        exact hx
    · cases h2 with
      | cons hx hk => cases hk with
        | cons hy hl =>
          cases (Option.some.inj (show some (Value.tuple ⟨x :: y :: l⟩) = some v from h))
          exact .tuple (.cons hx (.cons hy hl))

/-- A frame at its beginning. -/
theorem begin_FrR {ρ : Rho} {args args' : List Value} (h : VRs ρ args args') (nt : Nat) (st : St) :
    FrR (args.length + (nt - args.length)) ρ ⟨Tr.fill .nil 0 args, [], st⟩ { tmps := (⟨args'⟩ : Array Value) ++ Array.replicate (nt - (⟨args'⟩ : Array Value).size) undef, defers := [] } := by
  have hl := h.length
  refine ⟨?_, fun t v hv => ?_, .nil⟩
  · simp only [Array.size_append, Array.size_replicate]
    show args'.length + (nt - args'.length) = _
    rw [hl]
  · rw [show (EFr.mk (Tr.fill .nil 0 args) [] st).tm = Tr.fill .nil 0 args from rfl, Tr.get_fill] at hv
    split at hv
    · obtain ⟨v', h1, h2⟩ := h.get hv
      have hlt : t < args'.length := by
        rcases Nat.lt_or_ge t args'.length with h' | h'
        · exact h'
        · rw [List.getElem?_eq_none (by omega)] at h1; exact nn h1
      refine ⟨v', ?_, h2⟩
      rw [Array.getElem?_append_left (by simpa using hlt)]
      simpa using h1
    · rw [Tr.get_nil] at hv; exact nn hv

theorem evBody_inv {f : FuncId} {X : Ext0} {call : ACall} {lf : Nat} {vs : List Value} {st : St} {s : EFr} (h : evBody P.funcs[f]? X G call lf vs st = some s) :
    ∃ fn c x, P.funcs[f]? = some fn ∧ fn.body = some c ∧ evCode c ⟨X, G, vs.length + (fn.ntmps - vs.length), call⟩ lf ⟨Tr.fill .nil 0 vs, [], st⟩ = some (x, s) ∧ (x = .normal ∨ x = .ret) := by
  cases hf : P.funcs[f]? with
  | none => rw [hf] at h; exact nn h
  | some fn =>
    rw [hf] at h
    have h : evRun fn.body fn.ntmps X G call lf vs st = some s := h
    cases hb : fn.body with
    | none => rw [hb] at h; exact nn h
    | some c =>
      rw [hb] at h
      have h : asEnd (evCode c ⟨X, G, vs.length + (fn.ntmps - vs.length), call⟩ lf ⟨Tr.fill .nil 0 vs, [], st⟩) = some s := h
      rcases hc : evCode c ⟨X, G, vs.length + (fn.ntmps - vs.length), call⟩ lf ⟨Tr.fill .nil 0 vs, [], st⟩ with _ | ⟨_ | id | _, s1⟩
      · rw [hc] at h; exact nn h
      · rw [hc] at h
        cases (Option.some.inj (show some s1 = some s from h))
        exact ⟨fn, c, .normal, rfl, hb, hc, .inl rfl⟩
      · rw [hc] at h; exact nn h
      · rw [hc] at h
        cases (Option.some.inj (show some s1 = some s from h))
        exact ⟨fn, c, .ret, rfl, hb, hc, .inr rfl⟩

theorem evDefers_sound {X : Ext0} (hX : XOk X) {call : ACall} (hC : CallOk S G W call) {lf : Nat} {fn : Func} {tmps : Array Value} {R : Ending → World → Prop} (df : List (FuncId × List Value)) : ∀ (ds : List Deferred) (st st' : St) (w : World) (ρ : Rho),
    DefsR ρ df ds → Sim S G W ρ st w → evDefers X G call lf df st = some st' →
    (∀ w' ρ', Sim S G W ρ' st' w' → Ext ρ st ρ' st' → ∃ v, (results fn tmps).run P w' = .ok v w' ∧ R (.returned v) w') → Leaves P fn tmps R ds .returning w := by
  induction df with
  | nil =>
    intro ds st st' w ρ hds hS h hR
    cases hds
    have e : st = st' := Option.some.inj h
    subst e
    have hh := hR w ρ hS (Ext.refl ρ st)
    simp only [Leaves]
    exact hh
  | cons x l ih =>
    intro ds st st' w ρ hds hS h hR
    obtain ⟨f, vs⟩ := x
    rcases hds with _ | ⟨hd, hk⟩
    rename_i d l'
    obtain ⟨⟨cap, ht, hv⟩, hb⟩ := hd
    rw [evDefers_cons] at h
    cases he : evBody P.funcs[f]? X G call lf vs st with
    | none => rw [he] at h; exact nn h
    | some s =>
      rw [he] at h
      obtain ⟨fn2, c, xx, hf, hbody, hcode, hx⟩ := evBody_inv he
      rw [hf] at h
      have h : (match s.df with
        | [] => match aResult s.tm s.st fn2.results.toList with
          | some _ => evDefers X G call lf l s.st
          | none => none
        | _ => none) = some st' := h
      cases hdf : s.df with
      | cons a b => rw [hdf] at h; exact nn h
      | nil =>
        rw [hdf] at h
        simp only at h
        cases hres : aResult s.tm s.st fn2.results.toList with
        | none => rw [hres] at h; exact nn h
        | some rv =>
          rw [hres] at h
          simp only at h
          obtain ⟨fn3, c3, _, _, hcf⟩ := hasBody_spec hb
          obtain ⟨target, dargs⟩ := d
          simp only at ht hv
          subst ht
          have hinv : (invoke (.fn (.func f) cap) dargs).run P w = .ok (.enter f ⟨(dargs ++ cap).toList⟩) w := by
            have : invoke (.fn (.func f) cap) dargs = callFunc f (dargs ++ cap) := rfl
            rw [this, hcf]
          refine leaves_cons (by intro h; cases h) hinv ?_
          have hcd := callsD_of_wp (P := P) (u := .returning) (R := fun e w' => ∃ v ρ', e = .returned v ∧ Sim S G W ρ' s.st w' ∧ Ext ρ st ρ' s.st) hf hbody
            (evCode_sound (E := ⟨X, G, vs.length + (fn2.ntmps - vs.length), call⟩) hX hC rfl lf c _ s xx _ w ρ _ hcode (begin_FrR hv fn2.ntmps st) hS (by
              intro a' w' ρ' k1 k2 k3
              have hd0 : a'.defers = [] := by
                have := k1.df
                rw [hdf] at this
                cases hh : a'.defers with
                | nil => rfl
                | cons _ _ => rw [hh] at this; cases this
              obtain ⟨v', g1, g2⟩ := aResult_sound k2 k1.tm hres
              rcases hx with rfl | rfl
              · exact ⟨hd0, v', g1, v', ρ', rfl, k2, k3⟩
              · exact ⟨hd0, v', g1, v', ρ', rfl, k2, k3⟩))
          refine hcd.mono ?_
          rintro e u' w' ⟨rfl, v, ρ', rfl, k2, k3⟩
          show Leaves P fn tmps R l' (settle .returning) w'
          exact ih l' s.st st' w' ρ' (hk.mono k3.le) k2 h fun w2 ρ2 m1 m2 => hR w2 ρ2 m1 (k3.trans m2)

/-- A CALL: a function's body with its deferred calls. -/
theorem evLeave_sound {X : Ext0} (hX : XOk X) {call : ACall} (hC : CallOk S G W call) {lf : Nat} {f : FuncId} {vs : List Value} {st st' : St} {v : Value}
    (h : evLeave (evBody P.funcs[f]? X G call lf vs st) X G call lf (resultsOf P.funcs[f]?) = some (v, st')) {ρ : Rho} {w : World} {vs' : List Value} (hS : Sim S G W ρ st w) (hv : VRs ρ vs vs') :
    Calls P f ⟨vs'⟩ w (Gives S G W ρ st v st') := by
  cases he : evBody P.funcs[f]? X G call lf vs st with
  | none => rw [he] at h; exact nn h
  | some s =>
    rw [he] at h
    obtain ⟨fn, c, xx, hf, hbody, hcode, hx⟩ := evBody_inv he
    have h : asReturn (evDefers X G call lf s.df s.st) s.tm (resultsOf P.funcs[f]?) = some (v, st') := h
    cases hd : evDefers X G call lf s.df s.st with
    | none => rw [hd] at h; exact nn h
    | some st2 =>
      rw [hd, hf] at h
      have h : (match aResult s.tm st2 fn.results.toList with | some v => some (v, st2) | none => none) = some (v, st') := h
      cases hr : aResult s.tm st2 fn.results.toList with
      | none => rw [hr] at h; exact nn h
      | some rv =>
        rw [hr] at h
        have h := Option.some.inj h
        injection h with h1 h2
        subst h1
        subst h2
        have fin : ∀ a' w' ρ', FrR (vs.length + (fn.ntmps - vs.length)) ρ' s a' → Sim S G W ρ' s.st w' → Ext ρ st ρ' s.st → Leaves P fn a'.tmps (Gives S G W ρ st rv st2) a'.defers .returning w' := by
          intro a' w' ρ' k1 k2 k3
          refine evDefers_sound hX hC s.df a'.defers s.st st2 w' ρ' k1.df k2 hd fun w2 ρ2 m1 m2 => ?_
          obtain ⟨v', g1, g2⟩ := aResult_sound (a := a') m1 (fun t => (k1.tm t).mono m2.le) hr
          exact ⟨v', g1, v', ρ2, rfl, g2, m1, k3.trans m2⟩
        refine calls_of_wp_defers hf hbody (evCode_sound (E := ⟨X, G, vs.length + (fn.ntmps - vs.length), call⟩) hX hC rfl lf c _ s xx _ w ρ _ hcode (begin_FrR hv fn.ntmps st) hS ?_)
        intro a' w' ρ' k1 k2 k3
        rcases hx with rfl | rfl
        · exact fin a' w' ρ' k1 k2 k3
        · exact fin a' w' ρ' k1 k2 k3

/-- What is known of functions is so. -/
def KnownOk (S : Rho) (G : Nat) (W : World) (O : Known) : Prop := ∀ f o, O f = some o → ∀ vs st v st', o vs st = some (v, st') → ∀ ρ w vs', Sim S G W ρ st w → VRs ρ vs vs' → Calls P f ⟨vs'⟩ w (Gives S G W ρ st v st')

theorem evCall_sound {X : Ext0} (hX : XOk X) {O : Known} (hO : KnownOk S G W O) (lf : Nat) (d : Nat) : CallOk S G W (evCall X G O lf d) := by
  induction d with
  | zero => exact fun f vs st v st' h => nn (show (none : Option (Value × St)) = some (v, st') from h)
  | succ d ih =>
    intro f vs st v st' h ρ w vs' hS hv
    rw [evCall] at h
    cases ho : O f with
    | some o =>
      rw [ho] at h
      exact hO f o ho vs st v st' h ρ w vs' hS hv
    | none =>
      rw [ho] at h
      have h2 : evLeave (evBody P.funcs[f]? X G (evCall X G O lf d) lf vs st) X G (evCall X G O lf d) lf (resultsOf P.funcs[f]?) = some (v, st') := h
      exact evLeave_sound hX ih h2 hS hv

end
end Go.Proofs.YtcgecgilkapjaaaGreatDoor
