/- The evaluator is sound: an operation. -/
import Derived.Test.YtcgecgilkapjaaaGreatDoorEn
namespace Go.Proofs.YtcgecgilkapjaaaGreatDoor
open Go Go.RowKit
variable {S : Rho}

/-- What the evaluator says an operation comes to, and the model. -/
def NextR (ρ : Rho) : ANext → Next → Prop
  | .value v, .value v' => VR ρ v v'
  | .value v, .skip => v = undef
  | .enter f vs, .enter g args => g = f ∧ VRs ρ vs args.toList ∧ hasBody f = true
  | .defer f vs, .defer d => (∃ cap, d.target = .fn (.func f) cap ∧ VRs ρ vs (d.args ++ cap).toList) ∧ hasBody f = true
  | _, _ => False

/-- The functions without a body do what is said of them. -/
def XOk (X : Ext0) : Prop := ∀ f g vs v, X f = some g → g vs = some v → ∀ (ρ : Rho) (vs' : List Value) (w : World), VRs ρ vs vs' → ∃ v', (callFunc f ⟨vs'⟩).run P w = .ok (.value v') w ∧ VR ρ v v'

theorem hasBody_spec {f : FuncId} (h : hasBody f = true) : ∃ fn c, P.funcs[f]? = some fn ∧ fn.body = some c ∧ ∀ (args : Array Value) (w : World), (callFunc f args).run P w = .ok (.enter f args) w := by
  unfold hasBody at h
  cases hf : P.funcs[f]? with
  | none => rw [hf] at h; cases h
  | some fn =>
    rw [hf] at h
    simp only at h
    cases hb : fn.body with
    | none => rw [hb] at h; cases h
    | some c =>
      rw [hb] at h
      simp only [Bool.not_eq_true'] at h
      refine ⟨fn, c, rfl, hb, fun args w => ?_⟩
      unfold callFunc
      simp only [Sem.run_bind, run_program, Result.andThen_ok, hf, h, hb, Option.isNone_some, Bool.false_eq_true, if_false, Sem.run_pure]

section
variable {G : Nat} {W : World} {ρ : Rho} {st : St} {w : World}

theorem aMethod_run {t : TypeId} {name : String} {f : FuncId} (h : aMethod t name = some f) (v : Value) (args : Array Value) :
    (callMethod (.iface t v) name args).run P w = (callFunc f (#[v] ++ args)).run P w := by
  unfold aMethod at h
  cases hi : P.info? t with
  | none => rw [hi] at h; exact nn h
  | some i =>
    rw [hi] at h
    simp only at h
    split at h
    · rename_i nm sig g p hm
      rw [Array.find?_toList] at hm
      have hdepth : ∃ k, P.types.size + Made.depth = k + 1 := Nat.exists_eq_succ_of_ne_zero (Nat.ne_of_gt (Nat.add_pos_right _ (show 0 < Made.depth by decide)))
      obtain ⟨k, hk⟩ := hdepth
      have run : (method (P.types.size + Made.depth) t v name).run P w = ((receiverAt t (.val v) p (some ((name.splitOn ".").getLastD name))).run P w).andThen fun r w => .ok (g, r) w := by
        rw [hk, method]
        simp only [Sem.run_bind, run_typeInfo hi, Result.andThen_ok, hm, follow, Sem.run_pure]
        rfl
      have fin : (receiverAt t (.val v) p (some ((name.splitOn ".").getLastD name))).run P w = .ok v w → g = f → (callMethod (.iface t v) name args).run P w = (callFunc f (#[v] ++ args)).run P w := by
        rintro hr rfl
        simp only [callMethod, Sem.run_bind, run_program, Result.andThen_ok, run, hr]
      split at h
      · rename_i el hu
        refine fin ?_ (Option.some.inj h)
        simp only [receiverAt, Sem.run_bind, run_underlying hu, Result.andThen_ok, Place.get, Sem.run_pure]
      · exact nn h
      · rename_i d hne1 hne2 hu
        refine fin ?_ (Option.some.inj h)
        simp only [receiverAt, Sem.run_bind, run_underlying hu, Result.andThen_ok]
        cases d <;> first | exact Sem.run_pure P w v | exact absurd rfl (hne1 _) | exact absurd rfl (hne2 _)
      · exact nn h
    · exact nn h

theorem extract_tail (x : Value) (l : List Value) : ((⟨x :: l⟩ : Array Value).extract 1 (⟨x :: l⟩ : Array Value).size) = ⟨l⟩ := by
  apply Array.ext'
  rw [Array.toList_extract]
  simp [List.extract_eq_take_drop]

theorem aTarget_run {c : Callee} {ev : Ev} {f : Operand → Value} {args : Array Operand} {ats : Array TypeId} {ty : TypeId} {g : FuncId} {vs : List Value}
    (hev : ∀ x ∈ (Call.mk c args ats).operands, ∀ v, ev x = some v → VR ρ v (f x)) (h : aTarget c ev args.toList = some (g, vs)) :
    ∃ vs', VRs ρ vs vs' ∧ (do let d ← resolve f ⟨c, args, ats⟩ ty; invoke d.target d.args : Sem Next).run P w = (callFunc g ⟨vs'⟩).run P w ∧
      (∀ x, c = .value x → ∃ d cap, (resolve f ⟨c, args, ats⟩ ty).run P w = .ok d w ∧ d.target = .fn (.func g) cap ∧ (d.args ++ cap).toList = vs') := by
  have hargs : ∀ vs, evalAll ev args.toList = some vs → VRs ρ vs (args.toList.map f) := fun vs hv => evalAll_rel (fun x hx => hev x (by simp [Call.operands]; exact .inr (by simpa using hx))) hv
  cases c with
  | builtin b => exact nn h
  | value x =>
    have hx := hev x (by simp [Call.operands])
    have key : ∀ (a b vs0 : List Value), ev x = some (.func (.func g) ⟨a⟩ ⟨b⟩) → evalAll ev args.toList = some vs0 → vs = a ++ vs0 ++ b → ∃ vs', VRs ρ vs vs' ∧
        (do let d ← resolve f ⟨.value x, args, ats⟩ ty; invoke d.target d.args : Sem Next).run P w = (callFunc g ⟨vs'⟩).run P w ∧
        (∀ y, Callee.value x = .value y → ∃ d cap, (resolve f ⟨.value x, args, ats⟩ ty).run P w = .ok d w ∧ d.target = .fn (.func g) cap ∧ (d.args ++ cap).toList = vs') := by
      rintro a b vs0 hfx hv rfl
      have hr := hx _ hfx
      have h1 := hargs _ hv
      cases hf : f x <;> rw [hf] at hr <;> cases hr
      rename_i a' b' ha hb
      refine ⟨a' ++ args.toList.map f ++ b', (ha.append h1).append hb, ?_, fun y hy => ?_⟩
      · simp only [resolve, hf, Deferred.ofValue, Sem.run_bind, Sem.run_pure, Result.andThen_ok, invoke]
        congr 2
        rw [map_arr]
        simp
      · refine ⟨_, ⟨b'⟩, by simp only [resolve, hf, Deferred.ofValue]; exact Sem.run_pure P w _, rfl, ?_⟩
        rw [map_arr]
        simp
    have h : (match ev x with
      | some (.func (.func f) ⟨[]⟩ ⟨[]⟩) => (evalAll ev args.toList).bind fun vs => some (f, vs)
      | some (.func (.func f) ⟨a⟩ ⟨b⟩) => (evalAll ev args.toList).bind fun vs => some (f, a ++ vs ++ b)
      | _ => none) = some (g, vs) := h
    split at h
    · rename_i g' hfx
      obtain ⟨vs0, h1, h2⟩ := bind_some h
      cases (Option.some.inj h2)
      exact key [] [] vs hfx h1 (by simp)
    · rename_i g' a b _ hfx
      obtain ⟨vs0, h1, h2⟩ := bind_some h
      have h2 := Option.some.inj h2
      injection h2 with h3 h4
      subst h3
      exact key a b vs0 hfx h1 h4.symm
    · exact nn h
  | invoke r name =>
    have hx := hev r (by simp [Call.operands])
    have h : (match ev r with
      | some (.iface t v) => (evalAll ev args.toList).bind fun vs => (aMethod t name).bind fun f => some (f, v :: vs)
      | _ => none) = some (g, vs) := h
    split at h
    · rename_i t v hfx
      obtain ⟨vs0, h1, h2⟩ := bind_some h
      obtain ⟨g', h3, h4⟩ := bind_some h2
      cases (Option.some.inj h4)
      have hr := hx _ hfx
      have h1 := hargs _ h1
      cases hf : f r <;> rw [hf] at hr <;> cases hr
      rename_i v' hv
      refine ⟨v' :: args.toList.map f, .cons hv h1, ?_, fun y hy => by cases hy⟩
      simp only [resolve, hf, Sem.run_bind, Sem.run_pure, Result.andThen_ok, invoke]
      have e1 : (#[Value.iface t v'] ++ args.map f) = ⟨.iface t v' :: args.toList.map f⟩ := by rw [map_arr]; simp
      rw [e1]
      have e2 := extract_tail (.iface t v') (args.toList.map f)
      have e3 : (⟨v' :: args.toList.map f⟩ : Array Value) = #[v'] ++ ⟨args.toList.map f⟩ := by simp
      rw [e3, ← aMethod_run h3 v' ⟨args.toList.map f⟩, ← e2]
      rfl
    · exact nn h


/-- What a step gives: the model's result, alike; the worlds stay alike. -/
def EGoes (S : Rho) (G : Nat) (W : World) (P : Program) (ρ : Rho) (st : St) (w : World) (s : Sem Next) (r : ANext) (st' : St) : Prop :=
  ∃ r' w' ρ', s.run P w = .ok r' w' ∧ NextR ρ' r r' ∧ Sim S G W ρ' st' w' ∧ Ext ρ st ρ' st'

theorem EGoes.value {s : Sem Value} {v : Value} {st' : St} (h : ∃ v' w' ρ', s.run P w = .ok v' w' ∧ VR ρ' v v' ∧ Sim S G W ρ' st' w' ∧ Ext ρ st ρ' st') :
    EGoes S G W P ρ st w (do pure (.value (← s))) (.value v) st' := by
  obtain ⟨v', w', ρ', h1, h2, h3, h4⟩ := h
  exact ⟨.value v', w', ρ', by rw [Sem.run_bind, h1]; exact Sem.run_pure P w' _, h2, h3, h4⟩

theorem EGoes.skip {s : Sem Unit} {st' : St} (h : ∃ w', s.run P w = .ok () w' ∧ Sim S G W ρ st' w' ∧ Ext ρ st ρ st') :
    EGoes S G W P ρ st w (do s; pure .skip) (.value undef) st' := by
  obtain ⟨w', h1, h2, h3⟩ := h
  exact ⟨.skip, w', ρ, by rw [Sem.run_bind, h1]; exact Sem.run_pure P w' _, rfl, h2, h3⟩

theorem asValue_some {o : Option (Value × St)} {r : ANext} {st' : St} (h : asValue o = some (r, st')) : ∃ v, o = some (v, st') ∧ r = .value v := by
  rcases o with _ | ⟨v, st1⟩
  · exact nn h
  · have h := Option.some.inj (show some (ANext.value v, st1) = some (r, st') from h)
    injection h with h1 h2
    exact ⟨v, by rw [h2], h1.symm⟩
theorem asSkip_some {o : Option St} {r : ANext} {st' : St} (h : asSkip o = some (r, st')) : o = some st' ∧ r = .value undef := by
  rcases o with _ | st1
  · exact nn h
  · have h := Option.some.inj (show some (ANext.value undef, st1) = some (r, st') from h)
    injection h with h1 h2
    exact ⟨by rw [h2], h1.symm⟩
theorem asNone_some {o : Option St} {r : ANext} {st' : St} (h : asNone o = some (r, st')) : o = some st' ∧ r = .value (.tuple ⟨[]⟩) := by
  rcases o with _ | st1
  · exact nn h
  · have h := Option.some.inj (show some (ANext.value (.tuple ⟨[]⟩), st1) = some (r, st') from h)
    injection h with h1 h2
    exact ⟨by rw [h2], h1.symm⟩

theorem aDo_run (hS : Sim S G W ρ st w) {b : Builtin} {vs vs' : List Value} {ats : List TypeId} {ty : TypeId} {cs : Array Bool} {r : ANext} {st' : St} (hv : VRs ρ vs vs') (h : aDo b vs ats st = some (r, st')) :
    EGoes S G W P ρ st w (builtin b ⟨ats⟩ ty cs ⟨vs'⟩) r st' := by
  unfold aDo at h
  split at h
  · obtain ⟨v, h1, rfl⟩ := asValue_some h
    cases hv with
    | cons hs hv => cases hv with
      | cons hx hv =>
        cases hv
        exact EGoes.value (aAppend_run hS hs hx h1)
  · obtain ⟨v, h1, rfl⟩ := asValue_some h
    cases hv with
    | cons hd hv => cases hv with
      | cons hs hv =>
        cases hv
        obtain ⟨w', g1, g2, g3, g4⟩ := aCopy_run (ty := ty) hS hd hs h1
        exact EGoes.value ⟨v, w', ρ, g1, g2, g3, g4⟩
  · split at h
    · rename_i hu
      obtain ⟨h1, rfl⟩ := asNone_some h
      cases hv with
      | cons hx hv =>
        cases hv
        obtain ⟨w', g1, g2, g3⟩ := aClear_run (ty := ty) hS hu hx h1
        exact EGoes.value ⟨.tuple #[], w', ρ, g1, .tuple .nil, g2, g3⟩
    · exact nn h
  · obtain ⟨h1, rfl⟩ := asNone_some h
    cases hv with
    | cons hm hv => cases hv with
      | cons hk hv =>
        cases hv
        obtain ⟨w', g1, g2, g3⟩ := aDelete_run (ty := ty) hS hm hk h1
        exact EGoes.value ⟨.tuple #[], w', ρ, g1, .tuple .nil, g2, g3⟩
  · exact nn h

theorem aCall_run {X : Ext0} (hX : XOk X) (hS : Sim S G W ρ st w) {c : Callee} {ev : Ev} {f : Operand → Value} {args : Array Operand} {ats : Array TypeId} {ty : TypeId} {r : ANext} {st' : St}
    (hev : ∀ x ∈ (Call.mk c args ats).operands, ∀ v, ev x = some v → VR ρ v (f x)) (h : aCall X (aTarget c ev args.toList) st = some (r, st')) :
    EGoes S G W P ρ st w (do let d ← resolve f ⟨c, args, ats⟩ ty; invoke d.target d.args) r st' := by
  cases ht : aTarget c ev args.toList with
  | none => rw [ht] at h; exact nn h
  | some gv =>
    obtain ⟨g, vs⟩ := gv
    rw [ht] at h
    obtain ⟨vs', h1, h2, -⟩ := aTarget_run (w := w) (ty := ty) hev ht
    have h : (bif hasBody g then some (ANext.enter g vs, st) else aCallOut (X g) vs st) = some (r, st') := h
    cases hb : hasBody g with
    | true =>
      rw [hb] at h
      obtain ⟨fn, c0, _, _, h3⟩ := hasBody_spec hb
      cases (Option.some.inj h)
      exact ⟨.enter g ⟨vs'⟩, w, ρ, by rw [h2, h3], ⟨rfl, h1, hb⟩, hS, .refl _ _⟩
    | false =>
      rw [hb] at h
      have h : aCallOut (X g) vs st = some (r, st') := h
      cases hx : X g with
      | none => rw [hx] at h; exact nn h
      | some q =>
        rw [hx] at h
        have h : (match q vs with | some v => some (ANext.value v, st) | none => none) = some (r, st') := h
        cases hq : q vs with
        | none => rw [hq] at h; exact nn h
        | some v =>
          rw [hq] at h
          cases (Option.some.inj h)
          obtain ⟨v', h3, h4⟩ := hX g q vs v hx hq ρ vs' w h1
          exact ⟨.value v', w, ρ, by rw [h2, h3], h4, hS, .refl _ _⟩

/-- The operations that do something. -/
theorem aAct_sound {X : Ext0} (hX : XOk X) (hS : Sim S G W ρ st w) {o : Oper} {ev : Ev} {f : Operand → Value} {r : ANext} {st' : St} (hev : ∀ x ∈ o.op.operands, ∀ v, ev x = some v → VR ρ v (f x))
    (h : aAct o.op X ev st = some (r, st')) : EGoes S G W P ρ st w (execOp f o) r st' := by
  obtain ⟨dst, op, ty, pos, after, guard⟩ := o
  cases op with
  | assign x =>
    obtain ⟨v, h1, h2⟩ := bind_some h
    cases (Option.some.inj h2)
    exact ⟨.value (f x), w, ρ, Sem.run_pure P w _, hev x (by simp [Op.operands]) v h1, hS, .refl _ _⟩
  | alloc t =>
    obtain ⟨v, h1, rfl⟩ := asValue_some (show asValue (aAlloc t st) = some (r, st') from h)
    exact EGoes.value (aAlloc_run hS h1)
  | box t x =>
    obtain ⟨u, h1, h2⟩ := bind_some h
    obtain ⟨v, h3, rfl⟩ := asValue_some h2
    exact EGoes.value (aBox_run hS (hev x (by simp [Op.operands]) u h1) h3)
  | buildSlice t n ps =>
    obtain ⟨l, h1, h2⟩ := bind_some h
    obtain ⟨v, h3, rfl⟩ := asValue_some h2
    have := evalParts_rel (ρ := ρ) (f := f) (fun x hx => hev x (by simpa [Op.operands] using hx)) h1
    have e : (ps.map fun (i, x) => (i, f x)) = (ps.toList.map fun p => (p.1, f p.2)).toArray := by cases ps; simp
    refine EGoes.value ?_
    rw [e]
    exact aBuildSlice_run hS this h3
  | store t a x =>
    obtain ⟨p, v, h1, h2, h3⟩ := two_some h
    obtain ⟨h4, rfl⟩ := asSkip_some h3
    exact EGoes.skip (aStore_run hS (hev a (by simp [Op.operands]) p h1) (hev x (by simp [Op.operands]) v h2) h4)
  | convert s d x =>
    obtain ⟨u, h1, h2⟩ := bind_some h
    obtain ⟨v, h3, rfl⟩ := asValue_some h2
    exact EGoes.value (aBytes_run hS (hev x (by simp [Op.operands]) u h1) h3)
  | makeMap t rsv =>
    cases rsv with
    | some x => exact nn h
    | none =>
      have h : some (ANext.value (.map (some st.next)), st.new (.map [] 0)) = some (r, st') := h
      cases (Option.some.inj h)
      obtain ⟨g1, g2⟩ := hS.new (a := .map [] 0) (o := .map #[] 0) (sz := 0) (u := 0) ⟨.nil, rfl⟩
      refine EGoes.value ⟨.map (some w.heap.size), _, _, ?_, VR.map (e := ⟨w.heap.size, 0, 0, 0⟩) (Rho.set_same ρ st.next _), g1, g2⟩
      simp only [Instr.makeMap, Option.map_none, Sem.run_bind, run_newObj, Result.andThen_ok, Sem.run_pure]
  | makeSlice t l c =>
    obtain ⟨x, y, h1, h2, h3⟩ := two_some h
    obtain ⟨v, h4, rfl⟩ := asValue_some h3
    exact EGoes.value (aMakeSlice_run hS (hev l (by simp [Op.operands]) x h1) (hev c (by simp [Op.operands]) y h2) h4)
  | mapUpdate t m k x =>
    obtain ⟨mv, kv, h1, h2, h3⟩ := two_some h
    obtain ⟨v, h4, h5⟩ := bind_some h3
    obtain ⟨h6, rfl⟩ := asSkip_some h5
    exact EGoes.skip (aMapUpdate_run hS (hev m (by simp [Op.operands]) mv h1) (hev k (by simp [Op.operands]) kv h2) (hev x (by simp [Op.operands]) v h4) h6)
  | insert t m k x =>
    obtain ⟨mv, kv, h1, h2, h3⟩ := two_some h
    obtain ⟨v, h4, h5⟩ := bind_some h3
    obtain ⟨h6, rfl⟩ := asSkip_some h5
    exact EGoes.skip (aMapUpdate_run hS (hev m (by simp [Op.operands]) mv h1) (hev k (by simp [Op.operands]) kv h2) (hev x (by simp [Op.operands]) v h4) h6)
  | range t x =>
    obtain ⟨u, h1, h2⟩ := bind_some h
    obtain ⟨v, h3, rfl⟩ := asValue_some h2
    exact EGoes.value (aRange_run hS (hev x (by simp [Op.operands]) u h1) h3)
  | next x s =>
    obtain ⟨u, h1, h2⟩ := bind_some h
    obtain ⟨v, h3, rfl⟩ := asValue_some h2
    exact EGoes.value (aNext_run hS (hev x (by simp [Op.operands]) u h1) h3)
  | defer c =>
    obtain ⟨callee, args, ats⟩ := c
    cases callee with
    | builtin b => exact nn h
    | invoke x m => exact nn h
    | value x =>
      have h : aDefer (aTarget (.value x) ev args.toList) st = some (r, st') := h
      cases ht : aTarget (.value x) ev args.toList with
      | none => rw [ht] at h; exact nn h
      | some gv =>
        obtain ⟨g, vs⟩ := gv
        rw [ht] at h
        have h : (bif hasBody g then some (ANext.defer g vs, st) else none) = some (r, st') := h
        cases hb : hasBody g with
        | false => rw [hb] at h; exact nn h
        | true =>
          rw [hb] at h
          cases (Option.some.inj h)
          obtain ⟨vs', h1, -, h2⟩ := aTarget_run (w := w) (ty := ty) (ats := ats) (fun y hy => hev y (by simpa [Op.operands] using hy)) ht
          obtain ⟨d, cap, h3, h4, h5⟩ := h2 x rfl
          refine ⟨.defer d, w, ρ, ?_, ⟨⟨cap, h4, by rw [h5]; exact h1⟩, hb⟩, hS, .refl _ _⟩
          simp only [execOp, Sem.run_bind, h3, Result.andThen_ok, Sem.run_pure]
  | call c =>
    obtain ⟨callee, args, ats⟩ := c
    have hev' : ∀ x ∈ (Call.mk callee args ats).operands, ∀ v, ev x = some v → VR ρ v (f x) := fun y hy => hev y (by simpa [Op.operands] using hy)
    cases callee with
    | builtin b =>
      obtain ⟨vs, h1, h2⟩ := bind_some h
      have hv := evalAll_rel (ρ := ρ) (f := f) (fun x hx => hev' x (by simp [Call.operands]; simpa using hx)) h1
      have := aDo_run (ty := ty) (cs := args.map fun | .const _ => true | _ => false) hS hv h2
      obtain ⟨r', w', ρ', g1, g2, g3, g4⟩ := this
      refine ⟨r', w', ρ', ?_, g2, g3, g4⟩
      simp only [execOp, resolve, Sem.run_bind, Sem.run_pure, Result.andThen_ok, invoke]
      rw [map_arr f args]
      exact g1
    | value x => exact aCall_run hX hS hev' h
    | invoke x m => exact aCall_run hX hS hev' h
  | _ => exact nn h

/-- AN OPERATION: what the evaluator says of it is so. -/
theorem aOp_sound {X : Ext0} (hX : XOk X) (hS : Sim S G W ρ st w) {o : Oper} {ev : Ev} {f : Operand → Value} {r : ANext} {st' : St} (hev : ∀ x ∈ o.op.operands, ∀ v, ev x = some v → VR ρ v (f x))
    (h : aOp o.op X ev st = some (r, st')) : EGoes S G W P ρ st w (execOp f o) r st' := by
  have h : aOpOr (aRead o.op ev st) o.op X ev st = some (r, st') := h
  cases hr : aRead o.op ev st with
  | none => rw [hr] at h; exact aAct_sound hX hS hev h
  | some v =>
    rw [hr] at h
    have h : some (ANext.value v, st) = some (r, st') := h
    cases (Option.some.inj h)
    obtain ⟨v', h1, h2⟩ := aRead_sound hS hev hr
    exact ⟨.value v', w, ρ, h1, h2, hS, .refl _ _⟩

end
end Go.Proofs.YtcgecgilkapjaaaGreatDoor
