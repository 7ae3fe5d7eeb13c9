/- Maps keyed by texts: what a block of a map holds, and the operations on it. No program is named. -/
import Derived.Test.YtgmmeeikjofefaaGreatDoorOwn
import Derived.ChangeMaps4
import Derived.Maps.OwnOps
import Derived.Maps.OwnSet
namespace Go.Proofs.YtgmmeeikjofefaaGreatDoor
open Go Go.RowKit Go.ChangeMaps
def txt (l : List UInt8) : Value := .string ⟨l.toArray⟩
theorem txt_inj {a b : List UInt8} : txt a = txt b ↔ a = b := by
  unfold txt
  constructor
  · intro h
    have h1 := Value.string.inj h
    have h2 := congrArg (fun x : ByteArray => x.data.toList) h1
    simpa using h2
  · rintro rfl; rfl
abbrev KV := List (List UInt8 × Value)
def midx : KV → List UInt8 → Option (Nat × Value)
  | [], _ => none
  | (q, u) :: t, k => if k = q then some (0, u) else (midx t k).map fun p => (p.1 + 1, p.2)
def mfind : KV → List UInt8 → Option Value
  | [], _ => none
  | (q, u) :: t, k => if k = q then some u else mfind t k
def mput : KV → List UInt8 → Value → KV
  | [], k, v => [(k, v)]
  | (q, u) :: t, k, v => if k = q then (q, v) :: t else (q, u) :: mput t k v
def mdel : KV → List UInt8 → KV
  | [], _ => []
  | (q, u) :: t, k => if k = q then t else (q, u) :: mdel t k
theorem midx_find (kvs : KV) (k : List UInt8) : (midx kvs k).map (·.2) = mfind kvs k := by
  induction kvs with
  | nil => rfl
  | cons p t ih =>
    obtain ⟨q, u⟩ := p
    unfold midx mfind
    split
    · rfl
    · rw [← ih]; cases midx t k <;> rfl
theorem midx_none {kvs : KV} {k : List UInt8} (h : midx kvs k = none) : mput kvs k = (fun v => kvs ++ [(k, v)]) ∧ mdel kvs k = kvs := by
  induction kvs with
  | nil => exact ⟨rfl, rfl⟩
  | cons p t ih =>
    obtain ⟨q, u⟩ := p
    unfold midx at h
    split at h
    · cases h
    · rename_i hq
      have h2 : midx t k = none := by cases hm : midx t k with | none => rfl | some x => rw [hm] at h; cases h
      obtain ⟨h3, h4⟩ := ih h2
      refine ⟨funext fun v => ?_, ?_⟩
      · unfold mput; rw [if_neg hq, h3]; rfl
      · unfold mdel; rw [if_neg hq, h4]
theorem midx_some {kvs : KV} {k : List UInt8} {j : Nat} {u : Value} (h : midx kvs k = some (j, u)) : kvs[j]? = some (k, u) ∧ (∀ v, mput kvs k v = kvs.set j (k, v)) ∧ mdel kvs k = kvs.eraseIdx j := by
  induction kvs generalizing j with
  | nil => cases h
  | cons p t ih =>
    obtain ⟨q, x⟩ := p
    unfold midx at h
    split at h
    · rename_i hq; cases h; subst hq
      exact ⟨rfl, fun v => by unfold mput; rw [if_pos rfl]; rfl, by unfold mdel; rw [if_pos rfl]; rfl⟩
    · rename_i hq
      cases hm : midx t k with
      | none => rw [hm] at h; cases h
      | some y =>
        obtain ⟨i, y⟩ := y
        rw [hm] at h
        cases h
        obtain ⟨h1, h2, h3⟩ := ih hm
        exact ⟨by simpa using h1, fun v => by unfold mput; rw [if_neg hq, h2]; rfl, by unfold mdel; rw [if_neg hq, h3]; rfl⟩
theorem beq_bytes (a b : List UInt8) : ((⟨a.toArray⟩ : ByteArray) == ⟨b.toArray⟩) = decide (a = b) := by
  show (a.toArray == b.toArray) = decide (a = b)
  by_cases h : a = b
  · subst h; simp
  · rw [decide_eq_false h]
    rw [beq_eq_false_iff_ne]
    intro e
    have h2 := congrArg (fun x : Array UInt8 => x.toList) e
    exact h (by simpa using h2)
theorem findNow_txt (k : List UInt8) : ∀ (es : List MapEntry) (kvs : KV) (i : Nat), es.map (fun e => (e.key, e.val)) = kvs.map (fun p => (txt p.1, p.2)) →
    Instr.findNow .string (txt k) es i = some ((midx kvs k).map fun p => (i + p.1, p.2))
  | [], kvs, i, h => by
    have : kvs = [] := by simpa using h.symm
    subst this; rfl
  | e :: es, kvs, i, h => by
    cases kvs with
    | nil => simp at h
    | cons p t =>
      obtain ⟨q, u⟩ := p
      simp only [List.map_cons, List.cons.injEq, Prod.mk.injEq] at h
      obtain ⟨⟨h1, h2⟩, h3⟩ := h
      unfold Instr.findNow midx
      rw [h1]
      have hs : Instr.sameNow .string (txt k) (txt q) = some (decide (k = q)) := by
        show some ((⟨k.toArray⟩ : ByteArray) == ⟨q.toArray⟩) = _
        rw [beq_bytes]
      rw [hs]
      by_cases hq : k = q
      · rw [decide_eq_true hq, if_pos hq, h2]; rfl
      · rw [decide_eq_false hq, if_neg hq]
        simp only
        rw [findNow_txt k es t (i + 1) h3]
        cases midx t k with
        | none => rfl
        | some y => simp; omega
/-- Block b has role r and is a map that holds just these. -/
structure MBlk (o : Roles) (w : World) (r : List Nat) (b : Nat) (kvs : KV) : Prop where
  heap : ∃ es clock, w.heap[b]? = some (.map es clock) ∧ es.toList.map (fun e => (e.key, e.val)) = kvs.map (fun p => (txt p.1, p.2))
  role : o b = r
section
variable {P : Program} {o o' : Roles} {w w' : World} {r : List Nat} {b : Nat} {kvs : KV} {t kt e : TypeId}
theorem MBlk.lt (h : MBlk o w r b kvs) : b < w.heap.size := by
  obtain ⟨es, c, h1, _⟩ := h.heap
  exact (Array.getElem?_eq_some_iff.1 h1).1
theorem MBlk.keep {s : List Nat} (h : MBlk o w r b kvs) (st : Stp s o w o' w') (hn : ¬ s <+: r) : MBlk o' w' r b kvs := by
  refine ⟨?_, by rw [st.old b h.lt]; exact h.role⟩
  rw [st.block b h.lt (by rw [h.role]; exact hn)]; exact h.heap
theorem MBlk.below (h : MBlk o w r b kvs) (hb : Below w.heap.size w w') : MBlk o w' r b kvs := ⟨by rw [hb.block b h.lt]; exact h.heap, h.role⟩
theorem MBlk.drewN (h : MBlk o w r b kvs) (n : Nat) : MBlk o (w.drewN n) r b kvs := ⟨h.heap, h.role⟩
theorem MBlk.alloc (h : MBlk o w r b kvs) (x : Obj) (k : Nat) (s : List Nat) (hk : k = w.heap.size) : MBlk (o.put k s) (w.alloc x) r b kvs := by
  have hl := h.lt
  refine ⟨?_, by rw [Roles.put_other (by omega)]; exact h.role⟩
  rw [show (w.alloc x).heap[b]? = w.heap[b]? from Below.heap_alloc _ _ _ hl]
  exact h.heap
theorem MBlk.setCell (h : MBlk o w r b kvs) (a : Addr) (u : Value) (hn : o a.block ≠ r) : MBlk o (w.setCell a u) r b kvs :=
  ⟨by rw [Below.heap_setCell _ _ _ _ (fun e => hn (by rw [← e]; exact h.role))]; exact h.heap, h.role⟩
theorem MBlk.new (o : Roles) (w : World) (r : List Nat) (b : Nat) (hb : b = w.heap.size) : MBlk (o.put b r) (w.alloc (.map #[] 0)) r b [] := by
  subst hb
  exact ⟨⟨#[], 0, heap_alloc_new w _, rfl⟩, Roles.put_same _ _ _⟩
theorem run_look (h : MBlk o w r b kvs) (ht : P.underlying t = some (.map kt e)) (hk : P.underlying kt = some .string) (k : List UInt8) (c : Bool) {z : Value} (hz : (zeroValue e).run P w = .ok z w) :
    (Instr.lookup t (.map (some b)) (txt k) c).run P w = .ok (if c then .tuple #[(mfind kvs k).getD z, .bool (mfind kvs k).isSome] else (mfind kvs k).getD z) w := by
  obtain ⟨es, clock, hb, hes⟩ := h.heap
  have h1 := findNow_txt k es.toList kvs 0 hes
  rw [← midx_find]
  have hc : ∀ em n, (Instr.checkKey em (n + 1) kt (txt k)).run P w = .ok () w := fun em n => by
    unfold Instr.checkKey
    simp [Sem.run_bind, run_underlying hk, Result.andThen, txt]
  cases hm : midx kvs k with
  | none =>
    rw [hm] at h1
    simp [Instr.lookup, run_underlying ht, MapKept.run_getObj_map hb, hc, MapKept.run_findKey hk h1, hz, Result.andThen]
  | some y =>
    rw [hm] at h1
    simp [Instr.lookup, run_underlying ht, MapKept.run_getObj_map hb, hc, MapKept.run_findKey hk h1, Result.andThen]
theorem setBlock_heap {b k : Nat} {x : Obj} (hb : b < w.heap.size) : (setBlock w b x).heap[k]? = if k = b then some x else w.heap[k]? := by
  unfold setBlock
  simp only [Array.getElem?_setIfInBounds]
  by_cases h : b = k
  · subst h; simp [hb]
  · rw [if_neg h, if_neg (fun e => h e.symm)]
theorem Stp.setBlk {s : List Nat} (h : Stp s o w o' w') {b : Nat} (hb : s <+: o' b) (hl : b < w'.heap.size) (x : Obj) : Stp s o w o' (setBlock w' b x) :=
  h.trans ⟨rfl, rfl, rfl, by simp [Go.ChangeMaps.setBlock], fun _ _ => rfl, fun k _ hk => by
    rw [setBlock_heap hl, if_neg (fun e => hk (by rw [e]; exact hb))]⟩
theorem run_put (h : MBlk o w r b kvs) (ht : P.underlying t = some (.map kt e)) (hk : P.underlying kt = some .string) (k : List UInt8) (v : Value) :
    ∃ w', (Instr.mapUpdate t (.map (some b)) (txt k) v).run P w = .ok () w' ∧ MBlk o w' r b (mput kvs k v) ∧ Stp r o w o w' := by
  obtain ⟨es, clock, hb, hes⟩ := h.heap
  have h1 := findNow_txt k es.toList kvs 0 hes
  have hl := h.lt
  have hc : ∀ em n, (Instr.checkKey em (n + 1) kt (txt k)).run P w = .ok () w := fun em n => by
    unfold Instr.checkKey
    simp [Sem.run_bind, run_underlying hk, Result.andThen, txt]
  cases hm : midx kvs k with
  | none =>
    rw [hm] at h1
    refine ⟨Go.ChangeMaps.setBlock w b (.map (es.push { key := txt k, val := v, born := clock }) (clock + 1)), ?_, ⟨⟨_, _, by rw [setBlock_heap hl, if_pos rfl], ?_⟩, h.role⟩, (Stp.refl r o w).setBlk (by rw [h.role]; exact List.prefix_refl _) hl _⟩
    · simp [Instr.mapUpdate, run_underlying ht, MapKept.run_getObj_map hb, hc, MapKept.run_findKey hk h1, MapKept.run_setObj_map _ hb, Result.andThen, Go.ChangeMaps.setBlock]
    · rw [(midx_none hm).1]; simp [hes]
  | some y =>
    obtain ⟨j, u⟩ := y
    rw [hm] at h1
    obtain ⟨g1, g2, g3⟩ := midx_some hm
    have hlen : es.toList.length = kvs.length := by have := congrArg List.length hes; simpa using this
    have hj : j < kvs.length := (List.getElem?_eq_some_iff.1 g1).1
    have hje : j < es.size := by simp at hlen; omega
    have hkey : (es[j]'hje).key = txt k := by
      have := congrArg (fun l => l[j]?) hes
      simp [g1, hje] at this
      exact this.1
    have hst : (Instr.keyThatStays (txt k) (txt k)).run P w = .ok (txt k) w := by simp [Instr.keyThatStays, Instr.sameBits, txt, beq_bytes]
    refine ⟨Go.ChangeMaps.setBlock w b (.map (es.modify j fun e => { e with key := txt k, val := v }) clock), ?_, ⟨⟨_, _, by rw [setBlock_heap hl, if_pos rfl], ?_⟩, h.role⟩, (Stp.refl r o w).setBlk (by rw [h.role]; exact List.prefix_refl _) hl _⟩
    · simp [Instr.mapUpdate, run_underlying ht, MapKept.run_getObj_map hb, hc, MapKept.run_findKey hk h1, MapKept.run_setObj_map _ hb, Result.andThen, Go.ChangeMaps.setBlock, hje, hkey, hst]
    · rw [g2]
      apply List.ext_getElem?
      intro i
      have hi := congrArg (fun l => l[i]?) hes
      simp only [List.getElem?_map] at hi
      simp only [Array.toList_modify, List.getElem?_map, List.getElem?_modify, List.getElem?_set]
      by_cases hij : j = i
      · subst hij
        simp [hj, hje] at hi ⊢
      · simpa [hij] using hi
theorem run_del (h : MBlk o w r b kvs) (ht : P.underlying t = some (.map kt e)) (hk : P.underlying kt = some .string) (k : List UInt8) (ty kt' : TypeId) :
    ∃ w', (Builtin.delete_ #[t, kt'] ty #[.map (some b), txt k]).run P w = .ok (.tuple #[]) w' ∧ MBlk o w' r b (mdel kvs k) ∧ Stp r o w o w' := by
  obtain ⟨es, clock, hb, hes⟩ := h.heap
  have h1 := findNow_txt k es.toList kvs 0 hes
  have hl := h.lt
  have hc : ∀ em n, (Instr.checkKey em (n + 1) kt (txt k)).run P w = .ok () w := fun em n => by
    unfold Instr.checkKey
    simp [Sem.run_bind, run_underlying hk, Result.andThen, txt]
  cases hm : midx kvs k with
  | none =>
    rw [hm] at h1
    refine ⟨Go.ChangeMaps.setBlock w b (.map es clock), ?_, ⟨⟨_, _, by rw [setBlock_heap hl, if_pos rfl], ?_⟩, h.role⟩, (Stp.refl r o w).setBlk (by rw [h.role]; exact List.prefix_refl _) hl _⟩
    · simp [Builtin.delete_, run_underlying ht, MapKept.run_getObj_map hb, hc, MapKept.run_findKey hk h1, MapKept.run_setObj_map _ hb, Result.andThen, Go.ChangeMaps.setBlock]
    · rw [(midx_none hm).2]; exact hes
  | some y =>
    obtain ⟨j, u⟩ := y
    rw [hm] at h1
    obtain ⟨g1, g2, g3⟩ := midx_some hm
    have hlen : es.toList.length = kvs.length := by have := congrArg List.length hes; simpa using this
    have hj : j < kvs.length := (List.getElem?_eq_some_iff.1 g1).1
    have hje : j < es.size := by simp at hlen; omega
    have hsub : (es.eraseIdxIfInBounds j).toList = es.toList.eraseIdx j := by
      unfold Array.eraseIdxIfInBounds
      rw [dif_pos hje]
      simp
    refine ⟨Go.ChangeMaps.setBlock w b (.map (es.eraseIdxIfInBounds j) clock), ?_, ⟨⟨_, _, by rw [setBlock_heap hl, if_pos rfl], ?_⟩, h.role⟩, (Stp.refl r o w).setBlk (by rw [h.role]; exact List.prefix_refl _) hl _⟩
    · simp [Builtin.delete_, run_underlying ht, MapKept.run_getObj_map hb, hc, MapKept.run_findKey hk h1, MapKept.run_setObj_map _ hb, Result.andThen, Go.ChangeMaps.setBlock]
    · rw [g3, hsub, map_eraseIdx, map_eraseIdx, hes]
end
section
variable {P : Program} {o : Roles} {w : World} {r : List Nat} {b : Nat} {kvs : KV} {kt e : TypeId}
/-- m[k] = v, at the operation. -/
theorem wpList_put {ops : Array Oper} {rest : List Oper} {op : Oper} {a : Act} {Q : Exit → Act → World → Prop} (hg : op.guard = none) (m x v : Operand) (t : TypeId) (hop : op.op = Op.mapUpdate t m x v)
    (ht : P.underlying t = some (.map kt e)) (hk : P.underlying kt = some .string) (h : MBlk o w r b kvs) (hm : a.eval m = .map (some b)) {k : List UInt8} (hx : a.eval x = txt k) {val : Value} (hv : a.eval v = val)
    (hK : ∀ w', MBlk o w' r b (mput kvs k val) → Stp r o w o w' → wpList P ops Q rest (a.put op.dst undef) w') : wpList P ops Q (op :: rest) a w := by
  refine wpList_plain hg fun K' hK' => ?_
  obtain ⟨w', hrun, r1, r2⟩ := run_put h ht hk k val
  unfold Oper.wp
  simp [execOp, hop, hm, hx, hv, hrun, Result.andThen]
  exact hK' _ _ (hK w' r1 r2)
/-- delete(m, k), at the operation. -/
theorem wpList_del {ops : Array Oper} {rest : List Oper} {op : Oper} {a : Act} {Q : Exit → Act → World → Prop} (hg : op.guard = none) (m x : Operand) (t kt' : TypeId) (hop : op.op = .call { callee := .builtin .delete, args := #[m, x], argTypes := #[t, kt'] })
    (ht : P.underlying t = some (.map kt e)) (hk : P.underlying kt = some .string) (h : MBlk o w r b kvs) (hm : a.eval m = .map (some b)) {k : List UInt8} (hx : a.eval x = txt k)
    (hK : ∀ w', MBlk o w' r b (mdel kvs k) → Stp r o w o w' → wpList P ops Q rest (a.put op.dst (.tuple #[])) w') : wpList P ops Q (op :: rest) a w := by
  refine wpList_plain hg fun K' hK' => ?_
  obtain ⟨w', hrun, r1, r2⟩ := run_del h ht hk k op.type kt'
  unfold Oper.wp execOp
  simp only [hop, resolve, invoke, builtin, Sem.run_bind, Sem.run_pure, Result.andThen_ok, List.map_toArray, List.map_cons, List.map_nil, hm, hx, hrun]
  exact hK' _ _ (hK w' r1 r2)
end
end Go.Proofs.YtgmmeeikjofefaaGreatDoor
