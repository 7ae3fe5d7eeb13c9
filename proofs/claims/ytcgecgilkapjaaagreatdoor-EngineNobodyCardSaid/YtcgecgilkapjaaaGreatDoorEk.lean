/- The evaluator is sound: what only looks, all together. -/
import Derived.Test.YtcgecgilkapjaaaGreatDoorEj
import Derived.Laws.BytesString
namespace Go.Proofs.YtcgecgilkapjaaaGreatDoor
open Go Go.RowKit
variable {S : Rho}

section
variable {G : Nat} {W : World} {ρ : Rho} {st : St} {w : World}

theorem bytes_of : ∀ {l : List Value} {s : List UInt8}, l.mapM (fun v => match v with | .int .u8 m => some (UInt8.ofNat m.toNat) | _ => none) = some s →
    ∃ ns : List Int, l = ns.map (Value.int .u8) ∧ s = ns.map fun n => UInt8.ofNat n.toNat := by
  intro l
  induction l with
  | nil =>
    intro s h
    simp only [List.mapM_nil] at h
    cases h
    exact ⟨[], rfl, rfl⟩
  | cons x l ih =>
    intro s h
    rw [List.mapM_cons] at h
    cases hx : (match x with | .int .u8 m => some (UInt8.ofNat m.toNat) | _ => (none : Option UInt8)) with
    | none => rw [hx] at h; exact nn h
    | some b =>
      rw [hx] at h
      cases hr : l.mapM (fun v => match v with | .int .u8 m => some (UInt8.ofNat m.toNat) | _ => (none : Option UInt8)) with
      | none => rw [hr] at h; exact nn h
      | some r =>
        rw [hr] at h
        have : some (b :: r) = some s := h
        cases (Option.some.inj this)
        obtain ⟨ns, h1, h2⟩ := ih hr
        split at hx
        · rename_i m
          cases (Option.some.inj hx)
          exact ⟨m :: ns, by rw [h1]; rfl, by rw [h2]; rfl⟩
        · exact nn hx

theorem push_all : ∀ (ns : List Int) (s : List UInt8), ns.foldl (fun (r : ByteArray) n => r.push (UInt8.ofNat n.toNat)) ⟨⟨s⟩⟩ = ⟨⟨s ++ ns.map fun n => UInt8.ofNat n.toNat⟩⟩
  | [], s => by simp
  | n :: ns, s => by
    have e : ByteArray.push ⟨⟨s⟩⟩ (UInt8.ofNat n.toNat) = ⟨⟨s ++ [UInt8.ofNat n.toNat]⟩⟩ := by
      simp [ByteArray.push]
    rw [List.foldl_cons, e, push_all ns]
    simp

theorem ints_flat {ns : List Int} {l' : List Value} (h : VRs ρ (ns.map (Value.int .u8)) l') : l' = ns.map (Value.int .u8) := by
  induction ns generalizing l' with
  | nil => cases h; rfl
  | cons n ns ih =>
    cases h with
    | cons a b => cases a; rw [ih b]; rfl

theorem aConvert_run (hS : Sim S G W ρ st w) {src dst : TypeId} {x x' v : Value} (hx : VR ρ x x') (h : aConvert src dst x st = some v) :
    ∃ v', (convert src dst x').run P w = .ok v' w ∧ VR ρ v v' := by
  unfold aConvert at h
  split at h
  · cases hx
    split at h
    · rename_i e hs hd
      split at h
      · rename_i he
        cases (Option.some.inj h)
        refine ⟨_, ?_, .string _⟩
        rw [run_convert_bytes_string w src dst e none 0 0 hs he hd]
        exact Sem.run_pure P w _
      · exact nn h
    · exact nn h
  · rename_i k o n cp
    split at h
    · rename_i e hs hd
      split at h
      · rename_i ro u c he hk
        cases hl : cellsFrom c o n with
        | none => rw [hl] at h; exact nn h
        | some l =>
          rw [hl] at h
          simp only at h
          split at h
          · rename_i s hm
            cases (Option.some.inj h)
            obtain ⟨ns, rfl, rfl⟩ := bytes_of hm
            have fin : ∀ (ad : Addr) (c' : Nat), (loadCells ad n).run P w = .ok (ns.map (Value.int .u8)).toArray w →
                ∃ v', (convert src dst (.slice (some ad) n c')).run P w = .ok v' w ∧ VR ρ (.string ⟨⟨ns.map fun n => UInt8.ofNat n.toNat⟩⟩) v' := by
              intro ad c' hr
              refine ⟨_, ?_, .string _⟩
              rw [run_convert_bytes_string w src dst e (some ad) n c' hs he hd, run_bytesToString w ad n c' ns hr]
              rw [show ByteArray.empty = ⟨⟨[]⟩⟩ from rfl, push_all, List.nil_append]
            cases hx with
            | @slice _ f _ _ _ c' hf _ _ =>
              obtain ⟨l', h1, h2⟩ := hS.loadCells (P := P) hk hf hl
              rw [ints_flat h2] at h1
              exact fin _ _ h1
            | @slice0 _ f _ o' c' hf _ =>
              simp only [cellsFrom, Option.some.injEq] at hl
              have : ns = [] := by cases ns with | nil => rfl | cons => simp at hl
              subst this
              exact fin _ _ (by simp [loadCells, loadCellsFrom])
          · exact nn h
      · exact nn h
    · exact nn h
  · cases hf : flat x with
    | false => rw [hf] at h; exact nn h
    | true =>
      rw [hf] at h
      simp only [cond_true] at h
      rw [flat_eq hf hx]
      split at h
      · rename_i r hq
        cases hr : flat r with
        | false => rw [hr] at h; exact nn h
        | true =>
          rw [hr] at h
          cases (Option.some.inj h)
          exact ⟨_, quick_run hq w, flat_self hr⟩
      · exact nn h

theorem EntsR.length : ∀ {l l' : List MapEntry}, EntsR ρ l l' → l'.length = l.length
  | _, _, .nil => rfl
  | _, _, .cons _ k => by simp [k.length]

theorem aLen_run (hS : Sim S G W ρ st w) {t : TypeId} {x x' v : Value} {ts : List TypeId} {vs : List Value} {ty : TypeId} (hx : VR ρ x x') (h : aLen t x st = some v) :
    ∃ v', (Builtin.len_ ⟨t :: ts⟩ ty ⟨x' :: vs⟩).run P w = .ok v' w ∧ VR ρ v v' := by
  have e1 : (⟨t :: ts⟩ : Array TypeId)[0]? = some t := rfl
  have e2 : (⟨x' :: vs⟩ : Array Value)[0]? = some x' := rfl
  unfold aLen at h
  split at h
  · rename_i s hu
    cases hx
    cases (Option.some.inj h)
    exact ⟨_, by simp only [Builtin.len_, e1, e2, Sem.run_bind, run_underlying hu, Result.andThen_ok, Sem.run_pure]; rfl, .int _ _⟩
  · rename_i n el hu
    cases (Option.some.inj h)
    exact ⟨_, by simp only [Builtin.len_, e1, e2, Sem.run_bind, run_underlying hu, Result.andThen_ok, Sem.run_pure]; rfl, .int _ _⟩
  · rename_i el a n c hu
    cases (Option.some.inj h)
    have : ∃ a' c', x' = .slice a' n c' := by cases hx <;> exact ⟨_, _, rfl⟩
    obtain ⟨a', c', rfl⟩ := this
    exact ⟨_, by simp only [Builtin.len_, e1, e2, Sem.run_bind, run_underlying hu, Result.andThen_ok, Sem.run_pure]; rfl, .int _ _⟩
  · rename_i x0 _ _ k el hu
    cases hes : aEntries x0 st with
    | none => rw [hes] at h; exact nn h
    | some es =>
      rw [hes] at h
      cases (Option.some.inj h)
      rcases aEntries_run hS hx hes with ⟨rfl, rfl⟩ | ⟨r, e, es', clock, rfl, rfl, h1, h2, h3, h4⟩
      · exact ⟨_, by simp only [Builtin.len_, e1, e2, Sem.run_bind, run_underlying hu, Result.andThen_ok, Sem.run_pure]; rfl, .int _ _⟩
      · refine ⟨_, ?_, .int _ _⟩
        simp only [Builtin.len_, e1, e2, Sem.run_bind, run_underlying hu, run_getMap h3, Result.andThen_ok, Sem.run_pure]
        have := h4.length
        rw [Array.length_toList] at this
        rw [this]
        rfl
  · exact nn h

theorem EntsR.find {p : MapEntry → Bool} (hp : ∀ e e', EntR ρ e e' → p e' = p e) : ∀ {l l' : List MapEntry}, EntsR ρ l l' → ∀ {e : MapEntry}, l.find? p = some e → ∃ e', l'.find? p = some e' ∧ EntR ρ e e'
  | _, _, .nil, _, h => by simp at h
  | _, _, @EntsR.cons _ a a' l l' ha k, e, h => by
    rw [List.find?_cons] at h ⊢
    rw [hp a a' ha]
    cases hb : p a with
    | true => rw [hb] at h; cases (Option.some.inj h); exact ⟨a', rfl, ha⟩
    | false => rw [hb] at h; exact k.find hp h

theorem aEntry_run (hS : Sim S G W ρ st w) {x x' v : Value} (hx : VR ρ x x') (h : aEntry x st = some v) : ∃ v', (Instr.entry x').run P w = .ok v' w ∧ VR ρ v v' := by
  unfold aEntry at h
  split at h
  · rename_i k
    cases hx with
    | @ptr _ e _ he =>
      split at h
      · rename_i m since seen stepped hk
        split at h
        · rename_i stamp es clock hl hm
          cases hc : Nat.beq clock stepped with
          | false => rw [hc] at h; exact nn h
          | true =>
            rw [hc] at h
            simp only [cond_true] at h
            split at h
            · rename_i en hf
              cases (Option.some.inj h)
              obtain ⟨o, h1, h2, _⟩ := hS.obj k _ hk e he
              cases o <;> (try simp only [ObjR] at h2)
              rename_i mr since' seen' stepped'
              cases mr
              · exact h2.elim
              rename_i m'
              obtain ⟨h0, ⟨sp, h3, rfl⟩, rfl, rfl, rfl⟩ := h2
              obtain ⟨o, h4, h5, _⟩ := hS.obj m _ hm sp h3
              cases o <;> simp only [ObjR] at h5
              rename_i es' clock'
              obtain ⟨h6, rfl⟩ := h5
              have hc := Nat.eq_of_beq_eq_true hc
              subst hc
              have beq : ∀ a b : Nat, (a == b) = Nat.beq a b := fun a b => by rw [Bool.eq_iff_iff, Nat.beq_eq, beq_iff_eq]
              obtain ⟨en', h7, h8⟩ := h6.find (p := fun e => e.born == stamp) (fun e e' he => by rw [he.born]) (by
                rw [← hf]; congr 1; funext e; exact beq _ _)
              refine ⟨.tuple #[en'.key, en'.val], ?_, .tuple (.cons ?_ (.cons h8.val .nil))⟩
              · have hback : seen.toArray.back? = some stamp := by simp [hl]
                rw [h0]
                simp only [Instr.entry, Nat.add_zero, Sem.run_bind]
                have g1 : (getObj e.b).run P w = .ok (.mapIter (some sp.b) since' seen.toArray clock') w := by simp only [getObj, Sem.run, h1]
                simp only [g1, Result.andThen_ok, hback, Sem.run_bind, run_getMap h4]
                simp only [bne_self_eq_false, Bool.false_eq_true, if_false]
                rw [← Array.find?_toList, h7]
                exact Sem.run_pure P w _
              · rw [h8.key]
                exact h8.keyR
            · exact nn h
        · exact nn h
      · exact nn h
  · exact nn h


theorem evalAll_rel {ev : Ev} {f : Operand → Value} : ∀ {xs : List Operand} {vs : List Value}, (∀ x ∈ xs, ∀ v, ev x = some v → VR ρ v (f x)) → evalAll ev xs = some vs → VRs ρ vs (xs.map f)
  | [], vs, _, h => by cases (Option.some.inj h); exact .nil
  | x :: xs, vs, hev, h => by
    simp only [evalAll] at h
    cases hx : ev x with
    | none => rw [hx] at h; exact nn h
    | some v =>
      rw [hx] at h
      simp only at h
      cases hr : evalAll ev xs with
      | none => rw [hr] at h; exact nn h
      | some r =>
        rw [hr] at h
        cases (Option.some.inj h)
        exact .cons (hev x (by simp) v hx) (evalAll_rel (fun y hy => hev y (by simp [hy])) hr)

theorem evalParts_rel {ev : Ev} {f : Operand → Value} : ∀ {xs : List (Nat × Operand)} {vs : List (Nat × Value)}, (∀ x ∈ xs.map (·.2), ∀ v, ev x = some v → VR ρ v (f x)) → evalParts ev xs = some vs →
    PartsR ρ vs (xs.map fun p => (p.1, f p.2))
  | [], vs, _, h => by cases (Option.some.inj h); exact .nil
  | (i, x) :: xs, vs, hev, h => by
    simp only [evalParts] at h
    cases hx : ev x with
    | none => rw [hx] at h; exact nn h
    | some v =>
      rw [hx] at h
      simp only at h
      cases hr : evalParts ev xs with
      | none => rw [hr] at h; exact nn h
      | some r =>
        rw [hr] at h
        cases (Option.some.inj h)
        exact .cons (hev x (by simp) v hx) (evalParts_rel (fun y hy => hev y (by simp at hy ⊢; exact .inr hy)) hr)

theorem evalOpt_rel {ev : Ev} {f : Operand → Value} {x : Option Operand} {v : Option Value} (hev : ∀ y ∈ x.toArray, ∀ v, ev y = some v → VR ρ v (f y)) (h : evalOpt ev x = some v) : OptR ρ v (x.map f) := by
  cases x with
  | none => cases (Option.some.inj h); exact .none
  | some x =>
    simp only [evalOpt] at h
    cases hx : ev x with
    | none => rw [hx] at h; exact nn h
    | some u =>
      rw [hx] at h
      cases (Option.some.inj h)
      exact .some (hev x (by simp) u hx)

theorem bind_some {α β : Type} {x : Option α} {f : α → Option β} {b : β} (h : x.bind f = some b) : ∃ a, x = some a ∧ f a = some b := by
  cases x with
  | none => exact nn h
  | some a => exact ⟨a, rfl, h⟩

theorem two_some {α : Type} {a b : Option Value} {f : Value → Value → Option α} {r : α} (h : two a b f = some r) : ∃ x y, a = some x ∧ b = some y ∧ f x y = some r := by
  cases a with
  | none => exact nn h
  | some x =>
    cases b with
    | none => exact nn h
    | some y => exact ⟨x, y, rfl, rfl, h⟩

theorem arr1 {α : Type} {a : Array α} {l : List α} (h : a.toList = l) : a = ⟨l⟩ := by cases a; cases h; rfl

theorem aBuiltin_run (hS : Sim S G W ρ st w) {b : Builtin} {vs vs' : List Value} {ats : List TypeId} {ty : TypeId} {cs : Array Bool} {v : Value} (hv : VRs ρ vs vs') (h : aBuiltin b vs ats st = some v) :
    ∃ v', (builtin b ⟨ats⟩ ty cs ⟨vs'⟩).run P w = .ok (.value v') w ∧ VR ρ v v' := by
  unfold aBuiltin at h
  split at h
  · rename_i x vs t ts
    cases hv with
    | @cons _ x' _ vs' hx _ =>
      obtain ⟨v', h1, h2⟩ := aLen_run (ts := ts) (vs := vs') (ty := ty) hS hx h
      refine ⟨v', ?_, h2⟩
      simp only [builtin, Sem.run_bind, Sem.run_pure]
      rw [h1]
      rfl
  · rename_i n c vs t ts
    cases hv with
    | @cons _ x' _ vs' hx _ =>
      cases hx
      split at h
      · rename_i el hu
        cases (Option.some.inj h)
        refine ⟨.int .i64 c, ?_, .int _ _⟩
        have e1 : (⟨t :: ts⟩ : Array TypeId)[0]? = some t := rfl
        have e2 : (⟨Value.slice none n c :: vs'⟩ : Array Value)[0]? = some (.slice none n c) := rfl
        simp only [builtin, Builtin.cap_, e1, e2, Sem.run_bind, run_underlying hu, Result.andThen_ok, Sem.run_pure]
        rfl
      · exact nn h
  · rename_i k a k' b
    cases hv with
    | cons h1 h2 => cases h2 with
      | cons h2 h3 =>
        cases h3
        cases h1
        cases h2
        cases hk : Nat.beq (kindNo k) (kindNo k') with
        | false => rw [hk] at h; exact nn h
        | true =>
          rw [hk] at h
          cases (Option.some.inj h)
          refine ⟨_, ?_, .int _ _⟩
          simp only [builtin, Builtin.min_, Builtin.min2, List.foldlM_cons, List.foldlM_nil, Sem.run_bind, Sem.run_pure, Result.andThen_ok, intLt_eq]
          cases hd : decide (b < a)
          · rw [if_neg (of_decide_eq_false hd)]; rfl
          · rw [if_pos (of_decide_eq_true hd)]; rfl
  · rename_i k a k' b
    cases hv with
    | cons h1 h2 => cases h2 with
      | cons h2 h3 =>
        cases h3
        cases h1
        cases h2
        cases hk : Nat.beq (kindNo k) (kindNo k') with
        | false => rw [hk] at h; exact nn h
        | true =>
          rw [hk] at h
          cases (Option.some.inj h)
          refine ⟨_, ?_, .int _ _⟩
          simp only [builtin, Builtin.max_, Builtin.max2, List.foldlM_cons, List.foldlM_nil, Sem.run_bind, Sem.run_pure, Result.andThen_ok, intLt_eq]
          cases hd : decide (a < b)
          · rw [if_neg (show ¬ b > a from of_decide_eq_false hd)]; rfl
          · rw [if_pos (show b > a from of_decide_eq_true hd)]; rfl
  · exact nn h

theorem map_arr {α β : Type} (f : α → β) (a : Array α) : a.map f = ⟨a.toList.map f⟩ := by cases a; simp

/-- The operations that only look. -/
theorem aRead_sound (hS : Sim S G W ρ st w) {o : Oper} {ev : Ev} {f : Operand → Value} {v : Value} (hev : ∀ x ∈ o.op.operands, ∀ v, ev x = some v → VR ρ v (f x)) (h : aRead o.op ev st = some v) :
    ∃ v', (execOp f o).run P w = .ok (.value v') w ∧ VR ρ v v' := by
  obtain ⟨dst, op, ty, pos, after, guard⟩ := o
  have lift : ∀ {s : Sem Value}, (∃ v', s.run P w = .ok v' w ∧ VR ρ v v') → ∃ v', (do pure (.value (← s)) : Sem Next).run P w = .ok (.value v') w ∧ VR ρ v v' := by
    rintro s ⟨v', h1, h2⟩
    exact ⟨v', by rw [Sem.run_bind, h1]; exact Sem.run_pure P w _, h2⟩
  cases op with
  | move x => exact ⟨f x, Sem.run_pure P w _, hev x (by simp [Op.operands]) v h⟩
  | pick c a b =>
    have hc := hev c (by simp [Op.operands])
    have h : aPick (ev c) ev a b = some v := h
    rcases he : ev c with _ | ⟨_ | _⟩ | _ | _ | _ | _ | _ | _ | _ | _ | _ | _ | _ | _ | _ | _ <;> rw [he] at h <;> try exact nn h
    · have hv := hc _ he
      refine ⟨f b, ?_, hev b (by simp [Op.operands]) v h⟩
      cases hfc : f c <;> rw [hfc] at hv <;> cases hv
      simp only [execOp, hfc, asBool, Sem.run_bind, Sem.run_pure, Result.andThen_ok]
      rfl
    · have hv := hc _ he
      refine ⟨f a, ?_, hev a (by simp [Op.operands]) v h⟩
      cases hfc : f c <;> rw [hfc] at hv <;> cases hv
      simp only [execOp, hfc, asBool, Sem.run_bind, Sem.run_pure, Result.andThen_ok]
      rfl
  | build t ps =>
    obtain ⟨l, h1, h2⟩ := bind_some h
    have := evalParts_rel (ρ := ρ) (f := f) (fun x hx => hev x (by simpa [Op.operands] using hx)) h1
    refine lift ?_
    have e : (ps.map fun (i, x) => (i, f x)) = (ps.toList.map fun p => (p.1, f p.2)).toArray := by cases ps; simp
    rw [e]
    exact aBuild_sound this h2
  | load t a =>
    obtain ⟨x, h1, h2⟩ := bind_some h
    exact lift (aLoad_sound hS (hev a (by simp [Op.operands]) x h1) h2)
  | nilCheck x =>
    have hx := hev x (by simp [Op.operands])
    have h : aNilCheck (ev x) = some v := h
    rcases he : ev x with _ | u
    · rw [he] at h; exact nn h
    · rw [he] at h
      have hv := hx u he
      unfold aNilCheck at h
      split at h
      · rename_i a hh; cases (Option.some.inj hh); cases (Option.some.inj h)
        refine ⟨f x, ?_, hv⟩
        simp only [execOp]
        cases hfx : f x <;> rw [hfx] at hv <;> cases hv
        exact Sem.run_pure P w _
      · rename_i t y hh; cases (Option.some.inj hh); cases (Option.some.inj h)
        refine ⟨f x, ?_, hv⟩
        simp only [execOp]
        cases hfx : f x <;> rw [hfx] at hv <;> cases hv
        exact Sem.run_pure P w _
      · rename_i g a b hh; cases (Option.some.inj hh); cases (Option.some.inj h)
        refine ⟨f x, ?_, hv⟩
        simp only [execOp]
        cases hfx : f x <;> rw [hfx] at hv <;> cases hv
        exact Sem.run_pure P w _
      · exact nn h
  | binOp op t a b yt =>
    obtain ⟨x, y, h1, h2, h3⟩ := two_some h
    obtain ⟨h4, h5⟩ := aBin_run (w := w) (hev a (by simp [Op.operands]) x h1) (hev b (by simp [Op.operands]) y h2) h3
    exact lift ⟨v, h4, h5⟩
  | unOp op t x =>
    obtain ⟨u, h1, h2⟩ := bind_some h
    obtain ⟨h4, h5⟩ := aUn_run (w := w) (hev x (by simp [Op.operands]) u h1) h2
    exact lift ⟨v, h4, h5⟩
  | convert s d x =>
    obtain ⟨u, h1, h2⟩ := bind_some h
    exact lift (aConvert_run hS (hev x (by simp [Op.operands]) u h1) h2)
  | makeInterface t x =>
    obtain ⟨u, h1, h2⟩ := bind_some h
    refine lift ?_
    have hu := hev x (by simp [Op.operands]) u h1
    rcases hf : isFace t with _ | _ | _ <;> rw [hf] at h2 <;> try exact nn h2
    cases (Option.some.inj h2)
    obtain ⟨d, hd, hne⟩ := isFace_false hf
    refine ⟨.iface t (f x), ?_, .iface t hu⟩
    simp only [Instr.makeInterface, Sem.run_bind, run_underlying hd, Result.andThen_ok]
    cases d <;> first | exact Sem.run_pure P w _ | exact absurd rfl (hne _)
  | makeFunc fn a b =>
    obtain ⟨x, h1, h2⟩ := bind_some h
    obtain ⟨y, h3, h4⟩ := bind_some h2
    cases (Option.some.inj h4)
    refine lift ⟨.func fn (a.map f) (b.map f), ?_, ?_⟩
    · exact Sem.run_pure P w _
    · rw [map_arr, map_arr]
      exact .func fn (evalAll_rel (fun x hx => hev x (by simp [Op.operands]; exact .inl (by simpa using hx))) h1) (evalAll_rel (fun x hx => hev x (by simp [Op.operands]; exact .inr (by simpa using hx))) h3)
  | slice t x lo hi mx =>
    obtain ⟨u, h1, h2⟩ := bind_some h
    obtain ⟨l, h3, h4⟩ := bind_some h2
    obtain ⟨hh, h5, h6⟩ := bind_some h4
    obtain ⟨m, h7, h8⟩ := bind_some h6
    exact lift (aSlice_sound hS (hev x (by simp [Op.operands]) u h1) (evalOpt_rel (fun y hy => hev y (by simp [Op.operands] at hy ⊢; exact .inr (.inl hy))) h3)
      (evalOpt_rel (fun y hy => hev y (by simp [Op.operands] at hy ⊢; exact .inr (.inr (.inl hy)))) h5) (evalOpt_rel (fun y hy => hev y (by simp [Op.operands] at hy ⊢; exact .inr (.inr (.inr hy)))) h7) h8)
  | fieldAddr s x fd =>
    obtain ⟨u, h1, h2⟩ := bind_some h
    exact lift (aFieldAddr_sound (hev x (by simp [Op.operands]) u h1) h2)
  | field s x fd =>
    obtain ⟨u, h1, h2⟩ := bind_some h
    exact lift (aField_sound (hev x (by simp [Op.operands]) u h1) h2)
  | indexAddr t x i =>
    obtain ⟨u, j, h1, h2, h3⟩ := two_some h
    exact lift (aIndexAddr_sound (hev x (by simp [Op.operands]) u h1) (hev i (by simp [Op.operands]) j h2) h3)
  | index t x i =>
    obtain ⟨u, j, h1, h2, h3⟩ := two_some h
    exact lift (aIndex_sound (hev x (by simp [Op.operands]) u h1) (hev i (by simp [Op.operands]) j h2) h3)
  | lookup t x i ok =>
    obtain ⟨u, j, h1, h2, h3⟩ := two_some h
    exact lift (aLookup_run hS (hev x (by simp [Op.operands]) u h1) (hev i (by simp [Op.operands]) j h2) h3)
  | typeAssert x xt t ok =>
    obtain ⟨u, h1, h2⟩ := bind_some h
    exact lift (aTypeAssert_sound (hev x (by simp [Op.operands]) u h1) h2)
  | entry x =>
    obtain ⟨u, h1, h2⟩ := bind_some h
    exact lift (aEntry_run hS (hev x (by simp [Op.operands]) u h1) h2)
  | extract x i =>
    have hx := hev x (by simp [Op.operands])
    have h : aExtract (ev x) i = some v := h
    rcases he : ev x with _ | u
    · rw [he] at h; exact nn h
    · rw [he] at h
      have hv := hx u he
      rcases u with _ | _ | _ | _ | _ | _ | _ | _ | _ | _ | _ | _ | _ | _ | ⟨⟨l⟩⟩ <;> try exact nn h
      have h : l[i]? = some v := h
      cases hfx : f x <;> rw [hfx] at hv <;> cases hv
      rename_i l' hl
      obtain ⟨v', h1, h2⟩ := hl.get h
      refine lift ⟨v', ?_, h2⟩
      rw [hfx]
      have : (⟨l'⟩ : Array Value)[i]? = some v' := by simpa using h1
      simp only [Instr.extract, this, Sem.run_pure]
  | call c =>
    obtain ⟨callee, args, ats⟩ := c
    cases callee with
    | builtin b =>
      obtain ⟨vs, h1, h2⟩ := bind_some h
      have hv := evalAll_rel (ρ := ρ) (f := f) (fun x hx => hev x (by simp [Op.operands, Call.operands]; simpa using hx)) h1
      have := aBuiltin_run (ty := ty) (cs := args.map fun | .const _ => true | _ => false) hS hv h2
      obtain ⟨v', h3, h4⟩ := this
      refine ⟨v', ?_, h4⟩
      simp only [execOp, resolve, Sem.run_bind, Sem.run_pure, Result.andThen_ok, invoke]
      rw [map_arr f args]
      exact h3
    | value x => exact nn h
    | invoke r m => exact nn h
  | _ => exact nn h

end
end Go.Proofs.YtcgecgilkapjaaaGreatDoor
