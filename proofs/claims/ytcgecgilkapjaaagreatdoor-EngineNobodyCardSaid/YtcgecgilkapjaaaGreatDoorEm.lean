/- The evaluator is sound: stores, maps, iterators. -/
import Derived.Test.YtcgecgilkapjaaaGreatDoorEl
namespace Go.Proofs.YtcgecgilkapjaaaGreatDoor
open Go Go.RowKit
variable {S : Rho}

section
variable {G : Nat} {W : World} {ρ : Rho} {st : St} {w : World}

theorem aStore_inv {x : Value} {t : TypeId} {v : Value} {st' : St} (h : aStore x t v st = some st') : ∃ k o, x = .pointer (some ⟨k, o, none⟩) ∧ aStoreIn (st.heap.get k) k o (sizeIn t) v.cells.toList st = some st' := by
  rcases x with _ | _ | _ | _ | _ | (_ | ⟨k, o, _ | s⟩) | _ | _ | _ | _ | _ | _ | _ | _ | _ <;> first | exact ⟨k, o, rfl, h⟩ | exact nn h

theorem aStoreIn_inv {b : Option AObj} {k o : Nat} {n : Option Nat} {l : List Value} {st' : St} (h : aStoreIn b k o n l st = some st') :
    ∃ u c c', b = some (.cells false u c) ∧ n = some l.length ∧ putCells c o l = some c' ∧ st' = st.put k (.cells false u c') := by
  rcases b with _ | ⟨_ | _, u, c⟩ | _ | _ | _
  · exact nn h
  · cases n with
    | none => exact nn h
    | some n =>
      replace h : (bif Nat.beq l.length n then aStoreAs (putCells c o l) k u st else none) = some st' := h
      cases hb : Nat.beq l.length n with
      | false => rw [hb] at h; exact nn h
      | true =>
        rw [hb] at h
        replace h : aStoreAs (putCells c o l) k u st = some st' := h
        cases hp : putCells c o l with
        | none => rw [hp] at h; exact nn h
        | some c' =>
          rw [hp] at h
          exact ⟨u, c, c', rfl, by rw [Nat.eq_of_beq_eq_true hb], hp, (Option.some.inj (show some (st.put k (.cells false u c')) = some st' from h)).symm⟩
  · exact nn h
  · exact nn h
  · exact nn h
  · exact nn h

theorem aStore_run (hS : Sim S G W ρ st w) {t : TypeId} {x x' v v' : Value} {st' : St} (hx : VR ρ x x') (hv : VR ρ v v') (h : aStore x t v st = some st') :
    ∃ w', (Instr.storeAt t x' v').run P w = .ok () w' ∧ Sim S G W ρ st' w' ∧ Ext ρ st ρ st' := by
  obtain ⟨k, o, rfl, h⟩ := aStore_inv h
  obtain ⟨u, c, c', hk, hs, hp, rfl⟩ := aStoreIn_inv h
  cases hx with
  | @ptr _ e _ he =>
    have hcell := hv.cells
    obtain ⟨w', h1, h2⟩ := Sim.storeCells (P := P) he o v.cells.toList v'.cells.toList 0 c c' st w hS hk (by simpa using hp) hcell
    refine ⟨w', ?_, h2, .put he _⟩
    have hlen : v'.cells.size = v.cells.toList.length := by rw [hcell.length, Array.length_toList]
    simp only [Instr.storeAt, Instr.sureAddr, Sem.run_bind, Sem.run_pure, Result.andThen_ok, storeVar, run_sizeOf hs]
    rw [if_neg (by rw [hlen]; exact fun h => h rfl)]
    exact h1

theorem EntsR.modify {f g : MapEntry → MapEntry} (hfg : ∀ e e', EntR ρ e e' → EntR ρ (f e) (g e')) : ∀ {l l' : List MapEntry}, EntsR ρ l l' → ∀ i, EntsR ρ (l.modify i f) (l'.modify i g)
  | _, _, .nil, i => by simpa using .nil
  | _, _, .cons h k, 0 => by simpa using .cons (hfg _ _ h) k
  | _, _, .cons h k, i + 1 => by simpa using .cons h (k.modify hfg i)

theorem EntsR.append : ∀ {l l' m m' : List MapEntry}, EntsR ρ l l' → EntsR ρ m m' → EntsR ρ (l ++ m) (l' ++ m')
  | _, _, _, _, .nil, h => h
  | _, _, _, _, .cons h k, hm => .cons h (k.append hm)

theorem EntsR.eraseIdx : ∀ {l l' : List MapEntry}, EntsR ρ l l' → ∀ i, EntsR ρ (l.eraseIdx i) (l'.eraseIdx i)
  | _, _, .nil, i => by simpa using .nil
  | _, _, .cons h k, 0 => by simpa using k
  | _, _, .cons h k, i + 1 => by simpa using .cons h (k.eraseIdx i)

theorem plain_flat {d : TypeDesc} {k : Value} (h : plainKey d k = true) : flat k = true := by
  unfold plainKey at h
  split at h <;> first | rfl | cases h

theorem bytes_refl (s : ByteArray) : (s == s) = true := by
  rcases s with ⟨⟨l⟩⟩
  rw [bytes_beq, bytesEq_eq]
  exact beq_self_eq_true l

theorem plain_stays {d : TypeDesc} {k : Value} (h : plainKey d k = true) : (Instr.keyThatStays k k).run P w = .ok k w := by
  have : ∀ n, Instr.sameBits n k k = true := by
    intro n
    unfold plainKey at h
    split at h <;> first
      | (cases n <;> simp [Instr.sameBits, bytes_refl]; done)
      | (cases h)
  rw [Instr.keyThatStays, if_pos (this _)]
  exact Sem.run_pure P w k

theorem run_setObj {b : Nat} {o o' : Obj} (h : w.heap[b]? = some o) (hc : ∀ c e f, o ≠ .cells c e f) : (setObj b o').run P w = .ok () { w with heap := w.heap.setIfInBounds b o' } := by
  cases o <;> first | exact absurd rfl (hc _ _ _) | simp only [setObj, Sem.run, h]

theorem aMapUpdate_run (hS : Sim S G W ρ st w) {t : TypeId} {m m' k k' x x' : Value} {st' : St} (hm : VR ρ m m') (hk : VR ρ k k') (hx : VR ρ x x') (h : aMapUpdate t m k x st = some st') :
    ∃ w', (Instr.mapUpdate t m' k' x').run P w = .ok () w' ∧ Sim S G W ρ st' w' ∧ Ext ρ st ρ st' := by
  unfold aMapUpdate at h
  split at h
  · rename_i key el r hu
    cases hm with
    | @map _ e he =>
      split at h
      · rename_i d es clock hd hr
        cases hp : plainKey d k with
        | false => rw [hp] at h; exact nn h
        | true =>
          rw [hp] at h
          simp only [cond_true] at h
          have hkk : k' = k := flat_eq (plain_flat hp) hk
          subst hkk
          obtain ⟨o, h1, h2, _⟩ := hS.obj r _ hr e he
          cases o <;> simp only [ObjR] at h2
          rename_i es' clock'
          obtain ⟨h3, rfl⟩ := h2
          cases hf : aFind d k' es 0 with
          | none => rw [hf] at h; exact nn h
          | some f =>
            rw [hf] at h
            rcases aFind_run h3 hf with ⟨rfl, h4⟩ | ⟨j, en, en', rfl, h4, h5, h6, h7, h8⟩
            · have h : some (st.put r (.map (es ++ [⟨k', x, clock'⟩]) (clock' + 1))) = some st' := h
              cases (Option.some.inj h)
              refine ⟨_, ?_, hS.setObj (o := .map (es'.push ⟨k', x', clock'⟩) (clock' + 1)) hr he rfl ⟨?_, rfl⟩, .put he _⟩
              · simp only [Instr.mapUpdate, Sem.run_bind, run_underlying hu, Result.andThen_ok, run_getMap h1, plain_check hd hp, findKey_run hd h4]
                exact run_setObj h1 (by intro _ _ _ h; cases h)
              · rw [Array.toList_push]
                exact h3.append (.cons ⟨rfl, hx, rfl, hk⟩ .nil)
            · rw [Nat.zero_add] at h h8
              have h : some (st.put r (.map (es.modify j fun e => ⟨k', x, e.born⟩) clock')) = some st' := h
              cases (Option.some.inj h)
              refine ⟨_, ?_, hS.setObj (o := .map (es'.modify j fun e => { e with key := k', val := x' }) clock') hr he rfl ⟨?_, rfl⟩, .put he _⟩
              · have hold : ((es'[j]?).map (·.key)).getD k' = k' := by
                  rw [Array.getElem?_toList] at h5
                  rw [h5]
                  show en'.key = k'
                  rw [h6.key, h7]
                simp only [Instr.mapUpdate, Sem.run_bind, run_underlying hu, Result.andThen_ok, run_getMap h1, plain_check hd hp, findKey_run hd h8, hold, plain_stays hp]
                exact run_setObj h1 (by intro _ _ _ h; cases h)
              · rw [Array.toList_modify]
                exact h3.modify (fun a a' ha => (show EntR ρ ⟨k', x, a.born⟩ { a' with key := k', val := x' } from ⟨rfl, hx, ha.born, hk⟩)) j
      · exact nn h
  · exact nn h

theorem aDelete_run (hS : Sim S G W ρ st w) {t : TypeId} {ts : List TypeId} {ty : TypeId} {m m' k k' : Value} {st' : St} (hm : VR ρ m m') (hk : VR ρ k k') (h : aDelete t m k st = some st') :
    ∃ w', (Builtin.delete_ ⟨t :: ts⟩ ty ⟨[m', k']⟩).run P w = .ok (.tuple #[]) w' ∧ Sim S G W ρ st' w' ∧ Ext ρ st ρ st' := by
  have e0 : (⟨t :: ts⟩ : Array TypeId)[0]? = some t := rfl
  have e1 : (⟨[m', k']⟩ : Array Value)[0]? = some m' := rfl
  have e2 : (⟨[m', k']⟩ : Array Value)[1]? = some k' := rfl
  unfold aDelete at h
  split at h
  · rename_i key el r hu
    cases hm with
    | @map _ e he =>
      split at h
      · rename_i d es clock hd hr
        cases hp : plainKey d k with
        | false => rw [hp] at h; exact nn h
        | true =>
          rw [hp] at h
          simp only [cond_true] at h
          have hkk : k' = k := flat_eq (plain_flat hp) hk
          subst hkk
          obtain ⟨o, h1, h2, _⟩ := hS.obj r _ hr e he
          cases o <;> simp only [ObjR] at h2
          rename_i es' clock'
          obtain ⟨h3, rfl⟩ := h2
          cases hf : aFind d k' es 0 with
          | none => rw [hf] at h; exact nn h
          | some f =>
            rw [hf] at h
            rcases aFind_run h3 hf with ⟨rfl, h4⟩ | ⟨j, en, en', rfl, h4, h5, h6, h7, h8⟩
            · have h : some st = some st' := h
              cases (Option.some.inj h)
              refine ⟨_, ?_, (hS.setObj (o := .map es' clock') (a' := .map es clock') hr he rfl ⟨h3, rfl⟩).congr (fun j => ?_) rfl, .refl _ _⟩
              · simp only [Builtin.delete_, e0, e1, e2, Sem.run_bind, run_underlying hu, Result.andThen_ok, run_getMap h1, plain_check hd hp, findKey_run hd h4]
                rw [run_setObj h1 (by intro _ _ _ h; cases h)]
                exact Sem.run_pure P _ _
              · simp only [St.put, Tr.get_set]
                split
                · rename_i hj; rw [hj, hr]
                · rfl
            · rw [Nat.zero_add] at h h8
              have h : some (st.put r (.map (es.eraseIdx j) clock')) = some st' := h
              cases (Option.some.inj h)
              have hj : j < es'.size := by
                rcases Nat.lt_or_ge j es'.size with h' | h'
                · exact h'
                · rw [Array.getElem?_toList, Array.getElem?_eq_none h'] at h5; exact nn h5
              refine ⟨_, ?_, hS.setObj (o := .map (es'.eraseIdxIfInBounds j) clock') hr he rfl ⟨?_, rfl⟩, .put he _⟩
              · simp only [Builtin.delete_, e0, e1, e2, Sem.run_bind, run_underlying hu, Result.andThen_ok, run_getMap h1, plain_check hd hp, findKey_run hd h8]
                rw [run_setObj h1 (by intro _ _ _ h; cases h)]
                exact Sem.run_pure P _ _
              · have : (es'.eraseIdxIfInBounds j).toList = es'.toList.eraseIdx j := by
                  rw [Array.eraseIdxIfInBounds, dif_pos hj, Array.toList_eraseIdx]
                rw [this]
                exact h3.eraseIdx j
      · exact nn h
  · rename_i key el hu
    cases hm
    split at h
    · rename_i d hd
      cases hp : plainKey d k with
      | false => rw [hp] at h; exact nn h
      | true =>
        rw [hp] at h
        cases (Option.some.inj h)
        have hkk : k' = k := flat_eq (plain_flat hp) hk
        subst hkk
        refine ⟨w, ?_, hS, .refl _ _⟩
        simp only [Builtin.delete_, e0, e1, e2, Sem.run_bind, run_underlying hu, Result.andThen_ok, plain_check hd hp, Sem.run_pure]
    · exact nn h
  · exact nn h

theorem aRange_run (hS : Sim S G W ρ st w) {t : TypeId} {x x' v : Value} {st' : St} (hx : VR ρ x x') (h : aRange t x st = some (v, st')) :
    ∃ v' w' ρ', (Instr.range t x').run P w = .ok v' w' ∧ VR ρ' v v' ∧ Sim S G W ρ' st' w' ∧ Ext ρ st ρ' st' := by
  have fin : ∀ (a : AObj) (o : Obj), ObjR (ρ.set st.next ⟨w.heap.size, 0, 0, 0⟩) ⟨w.heap.size, 0, 0, 0⟩ a o → v = .pointer (some ⟨st.next, 0, none⟩) → st' = st.new a →
      (Instr.range t x').run P w = .ok (.pointer (some ⟨w.heap.size, 0, none⟩)) { w with heap := w.heap.push o } →
      ∃ v' w' ρ', (Instr.range t x').run P w = .ok v' w' ∧ VR ρ' v v' ∧ Sim S G W ρ' st' w' ∧ Ext ρ st ρ' st' := by
    rintro a o hr rfl rfl run
    obtain ⟨g1, g2⟩ := hS.new (sz := 0) (u := 0) hr
    exact ⟨_, _, _, run, VR.ptr (e := ⟨w.heap.size, 0, 0, 0⟩) 0 (Rho.set_same _ _ _), g1, g2⟩
  unfold aRange at h
  split at h
  · rename_i s hu
    cases hx
    cases (Option.some.inj h)
    refine fin (.sIter s 0) (.stringIter s 0) ⟨rfl, rfl, rfl⟩ rfl rfl ?_
    simp only [Instr.range, Sem.run_bind, run_underlying hu, Result.andThen_ok, Sem.run_pure, run_newObj]
  · rename_i k el hu
    cases hx
    cases (Option.some.inj h)
    refine fin (.mIter none 0 [] 0) (.mapIter none 0 #[] 0) ⟨rfl, rfl, rfl, rfl⟩ rfl rfl ?_
    simp only [Instr.range, Sem.run_bind, run_underlying hu, Result.andThen_ok, Sem.run_pure, run_newObj]
  · rename_i k el m hu
    cases hx with
    | @map _ e he =>
      split at h
      · rename_i es clock hm
        cases (Option.some.inj h)
        obtain ⟨o, h1, h2, _⟩ := hS.obj m _ hm e he
        cases o <;> simp only [ObjR] at h2
        rename_i es' clock'
        obtain ⟨h3, rfl⟩ := h2
        refine fin (.mIter (some m) clock' [] clock') (.mapIter (some e.b) clock' #[] clock') ⟨rfl, ⟨e, ?_, rfl⟩, rfl, rfl, rfl⟩ rfl rfl ?_
        · show (if m = st.next then _ else ρ m) = some e
          rw [if_neg (by rintro rfl; rw [hS.fresh _ (Nat.le_refl _)] at he; cases he)]
          exact he
        · simp only [Instr.range, Sem.run_bind, run_underlying hu, run_getMap h1, Result.andThen_ok, Sem.run_pure, run_newObj]
      · exact nn h
  · exact nn h


theorem EntsR.filter {p : MapEntry → Bool} (hp : ∀ e e', EntR ρ e e' → p e' = p e) : ∀ {l l' : List MapEntry}, EntsR ρ l l' → EntsR ρ (l.filter p) (l'.filter p)
  | _, _, .nil => .nil
  | _, _, @EntsR.cons _ a a' l l' ha k => by
    rw [List.filter_cons, List.filter_cons, hp a a' ha]
    split
    · exact .cons ha (k.filter hp)
    · exact k.filter hp

theorem EntsR.all {p : MapEntry → Bool} (hp : ∀ e e', EntR ρ e e' → p e' = p e) : ∀ {l l' : List MapEntry}, EntsR ρ l l' → l'.all p = l.all p
  | _, _, .nil => rfl
  | _, _, @EntsR.cons _ a a' l l' ha k => by rw [List.all_cons, List.all_cons, hp a a' ha, k.all hp]

theorem EntsR.isEmpty : ∀ {l l' : List MapEntry}, EntsR ρ l l' → l'.isEmpty = l.isEmpty
  | _, _, .nil => rfl
  | _, _, .cons _ _ => rfl

theorem aNext_run (hS : Sim S G W ρ st w) {x x' v : Value} {s : Bool} {ty : TypeId} {st' : St} (hx : VR ρ x x') (h : aNext x s st = some (v, st')) :
    ∃ v' w' ρ', (Instr.next x' s ty).run P w = .ok v' w' ∧ VR ρ' v v' ∧ Sim S G W ρ' st' w' ∧ Ext ρ st ρ' st' := by
  unfold aNext at h
  split at h
  · rename_i k
    cases hx with
    | @ptr _ e _ he =>
      split at h
      · rename_i t pos hk
        obtain ⟨o, h1, h2, _⟩ := hS.obj k _ hk e he
        cases o <;> try exact h2.elim
        rename_i t' pos'
        obtain ⟨h0, rfl, rfl⟩ := h2
        have g1 : (getObj e.b).run P w = .ok (.stringIter t' pos') w := by simp only [getObj, Sem.run, h1]
        cases hb : Nat.blt pos' t'.size with
        | false =>
          rw [hb] at h
          cases (Option.some.inj h)
          have hlt : ¬ pos' < t'.size := fun hh => by rw [show Nat.blt pos' t'.size = true from Nat.ble_eq_true_of_le hh] at hb; cases hb
          refine ⟨_, w, ρ, ?_, .tuple (.cons (.bool false) .nil), hS, .refl _ _⟩
          rw [h0]
          simp only [Instr.next, Nat.add_zero, Sem.run_bind, g1, Result.andThen_ok]
          rw [if_neg hlt]
          exact Sem.run_pure P w _
        | true =>
          rw [hb] at h
          have hlt : pos' < t'.size := Nat.le_of_ble_eq_true hb
          rcases hd : Utf8.decode t' pos' with ⟨c, width⟩
          rw [hd] at h
          cases (Option.some.inj h)
          refine ⟨_, _, ρ, ?_, .tuple (.cons (.bool true) (.cons (.int _ _) (.cons (.int _ _) .nil))), hS.setObj (o := .stringIter t' (pos' + width)) hk he rfl ⟨h0, rfl, rfl⟩, .put he _⟩
          rw [h0]
          simp only [Instr.next, Nat.add_zero, Sem.run_bind, g1, Result.andThen_ok]
          rw [if_pos hlt]
          simp only [hd, Sem.run_bind, run_setObj h1 (by intro _ _ _ h; cases h), Result.andThen_ok, Sem.run_pure]
          rfl
      · rename_i since seen stepped hk
        cases (Option.some.inj h)
        obtain ⟨o, h1, h2, _⟩ := hS.obj k _ hk e he
        cases o <;> try exact h2.elim
        rename_i mr since' seen' stepped'
        cases mr
        · simp only [ObjR] at h2
          obtain ⟨h0, rfl, rfl, rfl⟩ := h2
          have g1 : (getObj e.b).run P w = .ok (.mapIter none since' seen.toArray stepped') w := by simp only [getObj, Sem.run, h1]
          refine ⟨_, w, ρ, ?_, .tuple (.cons (.bool false) .nil), hS, .refl _ _⟩
          rw [h0]
          simp only [Instr.next, Nat.add_zero, Sem.run_bind, g1, Result.andThen_ok, Sem.run_pure]
        · exact h2.elim
      · rename_i m since seen last hk
        split at h
        · rename_i es clock hm
          obtain ⟨o, h1, h2, _⟩ := hS.obj k _ hk e he
          cases o <;> try exact h2.elim
          rename_i mr since' seen' stepped'
          cases mr
          · exact h2.elim
          rename_i m'
          obtain ⟨h0, ⟨sp, h3, rfl⟩, rfl, rfl, rfl⟩ := h2
          obtain ⟨o, h4, h5, _⟩ := hS.obj m _ hm sp h3
          cases o <;> simp only [ObjR] at h5
          rename_i es' clock'
          obtain ⟨h6, rfl⟩ := h5
          have g1 : (getObj e.b).run P w = .ok (.mapIter (some sp.b) since' seen.toArray stepped') w := by simp only [getObj, Sem.run, h1]
          cases hc : (!seen.isEmpty && !es.isEmpty && es.all (fun e => Nat.ble stepped' e.born)) with
          | true => rw [hc] at h; exact nn h
          | false =>
            rw [hc] at h
            simp only [cond_false] at h
            have hall : es'.all (fun x => decide (x.born ≥ stepped')) = es.all (fun e => Nat.ble stepped' e.born) := by
              rw [← Array.all_toList]
              have e1 : (fun x : MapEntry => decide (x.born ≥ stepped')) = fun e => Nat.ble stepped' e.born := by
                funext x
                rw [Bool.eq_iff_iff, decide_eq_true_iff, Nat.ble_eq]
              rw [e1]
              exact h6.all fun a a' ha => by rw [ha.born]
            have hc' : ¬ ((!seen.toArray.isEmpty && !es'.isEmpty && es'.all (fun x => decide (x.born ≥ stepped'))) = true) := by
              rw [hall]
              have e2 : es'.isEmpty = es.isEmpty := by rw [← h6.isEmpty]; simp [Array.isEmpty_toList]
              have e3 : seen.toArray.isEmpty = seen.isEmpty := by simp
              rw [e2, e3, hc]
              exact Bool.false_ne_true
            have hleft : EntsR ρ (es.filter fun e => !seen.contains e.born) (es'.filter fun e => !seen.toArray.contains e.born).toList := by
              rw [Array.toList_filter]
              have e1 : (fun e : MapEntry => !seen.toArray.contains e.born) = fun e => !seen.contains e.born := by funext x; simp
              rw [e1]
              exact h6.filter fun a a' ha => by rw [ha.born]
            generalize hL : (es'.filter fun e => !seen.toArray.contains e.born) = L at hleft
            generalize hA : (es.filter fun e => !seen.contains e.born) = A at hleft h
            have run : (Instr.next (.pointer (some ⟨e.b, 0, none⟩)) false ty).run P w = Sem.run P (do
                let old := L.filter (·.born < since')
                let new := L.filter (·.born ≥ since')
                let candidates := (if old.isEmpty then #[none] else #[]) ++ (old ++ new).map some
                match candidates[← choose (.mapNext candidates.size)]? with
                | some (some e') =>
                  setObj e.b (.mapIter (some sp.b) since' (seen.toArray.push e'.born) clock')
                  pure (.tuple #[.bool true, e'.key, e'.val])
                | some none => pure (.tuple #[.bool false])
                | none => stuck "Next: no such candidate") w := by
              simp only [Instr.next, Sem.run_bind, g1, Result.andThen_ok, run_getMap h4]
              rw [if_neg hc']
              simp only [Sem.run_bind, hL]
              rfl
            rw [h0, Nat.add_zero, run]
            rcases L with ⟨L⟩
            have hleft : EntsR ρ A L := hleft
            cases hleft with
            | nil =>
              cases (Option.some.inj h)
              refine ⟨_, w, ρ, ?_, .tuple (.cons (.bool false) .nil), hS, .refl _ _⟩
              simp [Question.forced]
            | @cons a a' l l' ha hl =>
              cases hl with
              | cons _ _ => exact nn h
              | nil =>
                replace h : (bif Nat.blt a.born since' then some (Value.tuple ⟨[.bool true, a.key, a.val]⟩, st.put k (.mIter (some m) since' (seen ++ [a.born]) clock')) else none) = some (v, st') := h
                cases hb : Nat.blt a.born since' with
                | false => rw [hb] at h; exact nn h
                | true =>
                  rw [hb] at h
                  cases (Option.some.inj h)
                  have hlt : a'.born < since' := by rw [ha.born]; exact Nat.le_of_ble_eq_true hb
                  refine ⟨_, _, ρ, ?_, .tuple (.cons (.bool true) (.cons (v' := a'.key) (by rw [ha.key]; exact ha.keyR) (.cons ha.val .nil))),
                    hS.setObj (o := .mapIter (some sp.b) since' (seen.toArray.push a'.born) clock') hk he rfl ⟨h0, ⟨sp, h3, rfl⟩, rfl, by rw [ha.born]; simp, rfl⟩, .put he _⟩
                  have n1 : ¬ since' ≤ a'.born := by omega
                  have f1 : Array.filter (fun x : MapEntry => decide (x.born < since')) #[a'] = #[a'] := by simp [hlt]
                  have f2 : Array.filter (fun x : MapEntry => decide (x.born ≥ since')) #[a'] = #[] := by simp [n1]
                  simp only [f1, f2]
                  simp [Question.forced]
                  rw [run_setObj h1 (by intro _ _ _ h; cases h)]
                  rfl
        · exact nn h
      · exact nn h
  · exact nn h

end
end Go.Proofs.YtcgecgilkapjaaaGreatDoor
