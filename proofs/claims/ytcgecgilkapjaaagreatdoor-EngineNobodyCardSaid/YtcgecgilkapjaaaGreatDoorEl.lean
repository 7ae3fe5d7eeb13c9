/- The evaluator is sound: new blocks. -/
import Derived.Test.YtcgecgilkapjaaaGreatDoorEk
namespace Go.Proofs.YtcgecgilkapjaaaGreatDoor
open Go Go.RowKit
variable {S : Rho}

section
variable {G : Nat} {W : World} {ρ : Rho} {st : St} {w : World}

/-- A row of cells, alike as far as the tree goes. -/
def TrR (ρ : Rho) (c : Tr Value) (cs : Array Value) : Prop := ∀ i v, c.get i = some v → ∃ v', cs[i]? = some v' ∧ VR ρ v v'

theorem TrR.mono {ρ ρ' : Rho} (h : ρ.le ρ') {c : Tr Value} {cs : Array Value} (k : TrR ρ c cs) : TrR ρ' c cs :=
  fun i v hv => let ⟨v', a, b⟩ := k i v hv; ⟨v', a, b.mono h⟩

theorem TrR.ofList {l : List Value} {cs : Array Value} (h : ∀ (i : Nat) (v : Value), l[i]? = some v → ∃ v', cs[i]? = some v' ∧ VR ρ v v') : TrR ρ (Tr.fill .nil 0 l) cs := by
  intro i v hv
  rw [Tr.get_fill] at hv
  split at hv
  · exact h i v (by simpa using hv)
  · rw [Tr.get_nil] at hv; exact nn hv

theorem TrR.ofVRs {l : List Value} {cs : Array Value} (h : VRs ρ l cs.toList) : TrR ρ (Tr.fill .nil 0 l) cs :=
  .ofList fun i v hv => by
    obtain ⟨v', h1, h2⟩ := h.get hv
    exact ⟨v', by simpa using h1, h2⟩

/-- The place of a new block. -/
def Rho.set (ρ : Rho) (k : Nat) (e : Spot) : Rho := fun i => if i = k then some e else ρ i

theorem Rho.set_same (ρ : Rho) (k : Nat) (e : Spot) : ρ.set k e k = some e := by simp [Rho.set]

/-- A new row of cells. -/
theorem Sim.newRow (h : Sim S G W ρ st w) {c : Tr Value} {cs : Array Value} {elem : TypeId} {u : Nat} (hr : TrR ρ c cs) (hu : u < 65536) :
    (Go.newRow elem cs).run P w = .ok ⟨w.heap.size, 0, none⟩ { w with heap := w.heap.push (.cells cs elem) } ∧
    Sim S G W (ρ.set st.next ⟨w.heap.size, 0, cs.size, u⟩) (st.new (.cells false (mark elem u) c)) { w with heap := w.heap.push (.cells cs elem) } ∧
    Ext ρ st (ρ.set st.next ⟨w.heap.size, 0, cs.size, u⟩) (st.new (.cells false (mark elem u) c)) := by
  have hle : ρ.le (ρ.set st.next ⟨w.heap.size, 0, cs.size, u⟩) := by
    intro k e he
    show (if k = st.next then _ else ρ k) = some e
    rw [if_neg (by rintro rfl; rw [h.fresh _ (Nat.le_refl _)] at he; cases he)]
    exact he
  refine ⟨?_, h.new (sz := cs.size) (u := u) ?_⟩
  · simp only [Go.newRow, Sem.run_bind, run_newObj, Result.andThen_ok, Sem.run_pure]
  · refine ⟨(mark_mod hu).symm, rfl, fun _ => ⟨⟨mark_div hu, fun _ => rfl⟩, fun i _ hi => by simp at hi⟩, fun i v hv => ?_⟩
    obtain ⟨v', h1, h2⟩ := hr i v hv
    exact ⟨v', by simpa using h1, h2.mono hle⟩

theorem aAlloc_run (hS : Sim S G W ρ st w) {t : TypeId} {v : Value} {st' : St} (h : aAlloc t st = some (v, st')) :
    ∃ v' w' ρ', (Instr.alloc t true (.tuple #[])).run P w = .ok v' w' ∧ VR ρ' v v' ∧ Sim S G W ρ' st' w' ∧ Ext ρ st ρ' st' := by
  unfold aAlloc at h
  cases hz : aZero t with
  | none => rw [hz] at h; exact nn h
  | some z =>
    rw [hz] at h
    have hz := run_zero (w := w) hz
    cases (Option.some.inj h)
    obtain ⟨h1, h2, h3⟩ := hS.newRow (u := 65535) (elem := t) (TrR.ofVRs (flat_self (ρ := ρ) hz.2).cells) (by decide)
    refine ⟨_, _, _, ?_, VR.ptr (e := ⟨w.heap.size, 0, z.cells.size, 65535⟩) 0 (Rho.set_same _ _ _), h2, h3⟩
    simp only [Instr.alloc, Sem.run_bind, hz.1, Result.andThen_ok, newVar, h1, Sem.run_pure, Nat.add_zero]

theorem aBox_run (hS : Sim S G W ρ st w) {t : TypeId} {x x' v : Value} {st' : St} (hx : VR ρ x x') (h : aBox t x st = some (v, st')) :
    ∃ v' w' ρ', (Instr.box t x').run P w = .ok v' w' ∧ VR ρ' v v' ∧ Sim S G W ρ' st' w' ∧ Ext ρ st ρ' st' := by
  unfold aBox at h
  cases (Option.some.inj h)
  obtain ⟨h1, h2, h3⟩ := hS.newRow (u := 65535) (elem := t) (TrR.ofVRs hx.cells) (by decide)
  refine ⟨_, _, _, ?_, VR.ptr (e := ⟨w.heap.size, 0, x'.cells.size, 65535⟩) 0 (Rho.set_same _ _ _), h2, h3⟩
  simp only [Instr.box, Sem.run_bind, newVar, h1, Result.andThen_ok, Sem.run_pure, Nat.add_zero]

theorem repl_length (z : List Value) : ∀ n, (repl z n).length = n * z.length
  | 0 => by simp [repl]
  | n + 1 => by rw [repl, List.length_append, repl_length z n, Nat.succ_mul, Nat.add_comm]

theorem repl_get (z : List Value) : ∀ (n i : Nat), i < n * z.length → (repl z n)[i]? = z[i % z.length]?
  | 0, i, h => by simp at h
  | n + 1, i, h => by
    rw [repl, List.getElem?_append]
    split
    · rename_i hi; rw [Nat.mod_eq_of_lt hi]
    · rename_i hi
      rw [repl_get z n (i - z.length) (by rw [Nat.succ_mul] at h; omega)]
      congr 1
      obtain ⟨j, rfl⟩ : ∃ j, i = j + z.length := ⟨i - z.length, by omega⟩
      rw [Nat.add_sub_cancel, Nat.add_mod_right]

/-- Zeros in a row, as the model lays them. -/
theorem zeros_rel {z : List Value} {z' : Array Value} (hz : VRs ρ z z'.toList) {n m : Nat} (hm : m = n * z'.size) {i : Nat} {v : Value} (h : (repl z n)[i]? = some v) :
    ∃ v', ((Array.range m).map fun i => z'[i % z'.size]!)[i]? = some v' ∧ VR ρ v v' := by
  have hl : z.length = z'.size := by have := hz.length; simpa using this
  have hi : i < n * z.length := by
    rcases Nat.lt_or_ge i (n * z.length) with h' | h'
    · exact h'
    · rw [List.getElem?_eq_none (by rw [repl_length]; exact h')] at h; exact nn h
  rw [repl_get _ _ _ hi] at h
  rw [hl] at hi h
  have hlt : i < m := by omega
  obtain ⟨v', h1, h2⟩ := hz.get h
  rw [Array.getElem?_toList] at h1
  refine ⟨v', ?_, h2⟩
  simp only [Array.getElem?_map, Array.getElem?_range, hlt, if_true, Option.map_some]
  have h0 : i % z'.size < z'.size := Nat.mod_lt _ (by
    rcases Nat.eq_zero_or_pos z'.size with h0 | h0
    · rw [h0] at hi; simp at hi
    · exact h0)
  rw [getElem!_pos z' _ h0]
  rw [Array.getElem?_eq_getElem h0] at h1
  exact h1

/-- So many zeros: what the model makes of them. -/
theorem aZeros_run {elem : TypeId} {size len : Nat} {zs : List Value} (h : aZeros elem size len = some zs) :
    (len * size = 0 ∧ zs = []) ∨ (len * size ≠ 0 ∧ ∃ z, (zeroValue elem).run P w = .ok z w ∧ z.cells.size = size ∧ VRs ρ z.cells.toList z.cells.toList ∧ zs = repl z.cells.toList len) := by
  unfold aZeros at h
  cases h0 : Nat.beq (len * size) 0 with
  | true =>
    rw [h0] at h
    exact .inl ⟨Nat.eq_of_beq_eq_true h0, (Option.some.inj h).symm⟩
  | false =>
    rw [h0] at h
    simp only [cond_false] at h
    cases hz : aZero elem with
    | none => rw [hz] at h; exact nn h
    | some z =>
      rw [hz] at h
      simp only at h
      cases hq : Nat.beq z.cells.toList.length size with
      | false => rw [hq] at h; exact nn h
      | true =>
        rw [hq] at h
        have hq := Nat.eq_of_beq_eq_true hq
        rw [Array.length_toList] at hq
        have hz := run_zero (w := w) hz
        exact .inr ⟨Nat.ne_of_beq_eq_false h0, z, hz.1, hq, (flat_self hz.2).cells, (Option.some.inj h).symm⟩

theorem fill_step {c : Tr Value} {arr : Array Value} (hc : TrR ρ c arr) {l l' : List Value} (hl : VRs ρ l l') (off : Nat) (h : off + l.length ≤ arr.size) :
    TrR ρ (Tr.fill c off l) ((l'.zipIdx 0).foldl (fun (cs : Array Value) (p : Value × Nat) => cs.setIfInBounds (off + p.2) p.1) arr) ∧
    ((l'.zipIdx 0).foldl (fun (cs : Array Value) (p : Value × Nat) => cs.setIfInBounds (off + p.2) p.1) arr).size = arr.size := by
  have hlen := hl.length
  have a := lay_get l' arr off 0 (by omega)
  refine ⟨fun i v hv => ?_, a.1⟩
  rw [a.2]
  rw [Tr.get_fill] at hv
  split at hv
  · rename_i hi
    rw [if_pos (by omega)]
    exact hl.get hv
  · rename_i hi
    rw [if_neg (by omega)]
    exact hc i v hv

theorem aFill_run {place : Nat → Option (Nat × Nat)} {n : Nat} : ∀ {ps ps' : List (Nat × Value)}, PartsR ρ ps ps' → ∀ {c c' : Tr Value} {arr : Array Value}, arr.size = n → TrR ρ c arr →
    aFill place n c ps = some c' → ∃ arr', Instr.fill place arr ps' = some arr' ∧ arr'.size = n ∧ TrR ρ c' arr'
  | _, _, .nil, c, c', arr, hn, hc, h => by
    cases (Option.some.inj h)
    exact ⟨arr, rfl, hn, hc⟩
  | _, _, @PartsR.cons _ i v v' l l' hv k, c, c', arr, hn, hc, h => by
    simp only [aFill] at h
    simp only [Instr.fill]
    cases hp : place i with
    | none => rw [hp] at h; exact nn h
    | some x =>
      obtain ⟨off, size⟩ := x
      rw [hp] at h
      simp only at h ⊢
      cases hg : (Nat.beq v.cells.toList.length size && Nat.ble (off + size) n) with
      | false => rw [hg] at h; exact nn h
      | true =>
        rw [hg] at h
        simp only [cond_true] at h
        rw [Bool.and_eq_true] at hg
        have h1 := Nat.eq_of_beq_eq_true hg.1
        have h2 := ble_le hg.2
        have hcell := hv.cells
        have hlen : v'.cells.size = size := by rw [← h1, hcell.length, Array.length_toList]
        rw [if_neg (by simp only [hlen, hn, not_or, Bool.or_eq_true, decide_eq_true_eq, ne_eq, Decidable.not_not, gt_iff_lt, Nat.not_lt]; exact ⟨trivial, h2⟩)]
        obtain ⟨s1, s2⟩ := fill_step hc hcell off (by rw [h1, hn]; exact h2)
        rw [← Array.foldl_toList, Array.toList_zipIdx]
        exact aFill_run k (by rw [s2]; exact hn) s1 h

theorem aBuildSlice_run (hS : Sim S G W ρ st w) {t : TypeId} {len : Nat} {ps ps' : List (Nat × Value)} {v : Value} {st' : St} (hp : PartsR ρ ps ps') (h : aBuildSlice t len ps st = some (v, st')) :
    ∃ v' w' ρ', (Instr.buildSlice t len ps'.toArray).run P w = .ok v' w' ∧ VR ρ' v v' ∧ Sim S G W ρ' st' w' ∧ Ext ρ st ρ' st' := by
  unfold aBuildSlice at h
  split at h
  · rename_i elem hu
    cases hs : sizeIn elem with
    | none => rw [hs] at h; exact nn h
    | some size =>
      rw [hs] at h
      simp only at h
      cases hb : (Nat.ble (len * size) 16777216 && Nat.ble size 65534) with
      | false => rw [hb] at h; exact nn h
      | true =>
        rw [hb] at h
        simp only [cond_true] at h
        rw [Bool.and_eq_true] at hb
        have hs0 : size < 65536 := Nat.lt_of_le_of_lt (ble_le hb.2) (by decide)
        have hb := ble_le hb.1
        cases hzs : aZeros elem size len with
        | none => rw [hzs] at h; exact nn h
        | some zs =>
        rw [hzs] at h
        simp only at h
        obtain ⟨zero, h1, h3⟩ : ∃ (zero : Array Value), ((len * size = 0 ∧ zero = #[]) ∨ (len * size ≠ 0 ∧ ∃ z, (zeroValue elem).run P w = .ok z w ∧ zero = z.cells)) ∧
            TrR ρ (Tr.fill .nil 0 zs) ((Array.range (len * size)).map (zero[· % zero.size]!)) := by
          rcases aZeros_run (ρ := ρ) (w := w) hzs with ⟨h0, rfl⟩ | ⟨h0, z, hz, hq, hv, rfl⟩
          · exact ⟨#[], .inl ⟨h0, rfl⟩, fun i v hv => by rw [Tr.fill, Tr.get_nil] at hv; exact nn hv⟩
          · exact ⟨z.cells, .inr ⟨h0, z, hz, rfl⟩, .ofList fun i v hi => zeros_rel hv (by rw [hq]) hi⟩
        cases hf : aFill (fun i => some (i * size, size)) (len * size) (Tr.fill .nil 0 zs) ps with
        | none => rw [hf] at h; exact nn h
        | some c =>
          rw [hf] at h
          cases (Option.some.inj h)
          obtain ⟨arr', h4, h5, h6⟩ := aFill_run hp (by simp) h3 hf
          obtain ⟨g1, g2, g3⟩ := hS.newRow (u := size) (elem := elem) h6 hs0
          refine ⟨_, _, _, ?_, VR.slice (e := ⟨w.heap.size, 0, arr'.size, size⟩) 0 len len len (Rho.set_same _ _ _) (Nat.le_refl _) (.inl rfl), g2, g3⟩
          simp only [Instr.buildSlice, Sem.run_bind, run_underlying hu, Result.andThen_ok, run_sizeOf hs]
          rw [if_neg (by show ¬ len * size > 2 ^ 24; omega)]
          rcases h1 with ⟨h0, rfl⟩ | ⟨h0, z, hz, rfl⟩
          · rw [if_pos h0]
            simp only [Sem.run_bind, Sem.run_pure, Result.andThen_ok, h4, g1, Nat.add_zero]
          · rw [if_neg h0]
            simp only [Sem.run_bind, hz, Sem.run_pure, Result.andThen_ok, h4, g1, Nat.add_zero]
  · exact nn h


theorem modify_eq {h : Array Obj} {b : Nat} {o : Obj} (f : Obj → Obj) (hb : h[b]? = some o) : h.modify b f = h.setIfInBounds b (f o) := by
  apply Array.ext_getElem?
  intro i
  rw [Array.getElem?_modify, Array.getElem?_setIfInBounds]
  by_cases hi : b = i
  · subst hi
    have hlt : b < h.size := by
      rcases Nat.lt_or_ge b h.size with h' | h'
      · exact h'
      · rw [Array.getElem?_eq_none h'] at hb; exact nn hb
    rw [if_pos rfl, if_pos rfl, if_pos hlt, hb]
    rfl
  · rw [if_neg hi, if_neg hi]

/-- A byte row that a text gave: new cells, some of them spare. -/
theorem bytes_row (hS : Sim S G W ρ st w) (e : TypeId) (s : List UInt8) (cap : Nat) (hcap : s.length ≤ cap) :
    ∃ w' ρ', ((do
      let a ← newRow e (((⟨⟨s⟩⟩ : ByteArray).data.map fun b => Value.int .u8 b.toNat) ++ Array.replicate (cap - s.length) (.int .u8 0))
      markStringish a
      pure (.slice (some a) s.length cap)) : Sem Value).run P w = .ok (.slice (some ⟨w.heap.size, 0, none⟩) s.length cap) w' ∧
      Sim S G W ρ' (st.new (.cells false (mark e 1) (Tr.fill .nil 0 (s.map fun b => .int .u8 b.toNat)))) w' ∧
      Ext ρ st ρ' (st.new (.cells false (mark e 1) (Tr.fill .nil 0 (s.map fun b => .int .u8 b.toNat)))) ∧ ρ' st.next = some ⟨w.heap.size, 0, cap, 1⟩ := by
  generalize hcs : ((⟨⟨s⟩⟩ : ByteArray).data.map fun b => Value.int .u8 b.toNat) ++ Array.replicate (cap - s.length) (.int .u8 0) = cs
  have hsz : cs.size = cap := by rw [← hcs]; simp; omega
  have hr : TrR ρ (Tr.fill .nil 0 (s.map fun b => .int .u8 b.toNat)) cs := .ofList fun i v hv => by
    refine ⟨v, ?_, ?_⟩
    · rw [← hcs]
      have hlt : i < s.length := by
        rcases Nat.lt_or_ge i s.length with h' | h'
        · exact h'
        · rw [List.getElem?_eq_none (by simpa using h')] at hv; exact nn hv
      rw [Array.getElem?_append_left (by simpa using hlt)]
      simpa using hv
    · rw [List.getElem?_map] at hv
      cases hb : s[i]? with
      | none => rw [hb] at hv; exact nn hv
      | some b => rw [hb] at hv; cases (Option.some.inj hv); exact .int _ _
  obtain ⟨g1, g2, g3⟩ := hS.newRow (u := 1) (elem := e) hr (by decide)
  have hsame := Rho.set_same ρ st.next ⟨w.heap.size, 0, cs.size, 1⟩
  have hk : (st.new (.cells false (mark e 1) (Tr.fill .nil 0 (s.map fun b => .int .u8 b.toNat)))).heap.get st.next = some (.cells false (mark e 1) (Tr.fill .nil 0 (s.map fun b => .int .u8 b.toNat))) := by
    simp [St.new, Tr.get_set]
  have hb : (w.heap.push (.cells cs e))[w.heap.size]? = some (.cells cs e) := by simp
  have hset := g2.setObj (o := .cells cs e (cap, cap + 1)) (a' := .cells false (mark e 1) (Tr.fill .nil 0 (s.map fun b => .int .u8 b.toNat))) hk hsame rfl
    ⟨(mark_mod (t := e) (u := 1) (by decide)).symm, rfl, fun _ => ⟨⟨mark_div (t := e) (u := 1) (by decide), fun _ => rfl⟩, fun i hi => by rw [hsz] at hi; simp only; omega⟩, fun i v hv => by
      obtain ⟨v', h1, h2⟩ := hr i v hv
      exact ⟨v', by simpa using h1, h2.mono g3.le⟩⟩
  refine ⟨_, _, ?_, hset.congr (fun j => ?_) rfl, g3, by rw [hsame, hsz]⟩
  · simp only [Sem.run_bind, g1, Result.andThen_ok, markStringish, run_shape, Sem.run_pure]
    have hsh : World.shape? { heap := w.heap.push (Obj.cells cs e), tape := w.tape, drawn := w.drawn, os := w.os, output := w.output } w.heap.size = some (e, cs.size) := by
      simp [World.shape?]
    rw [hsh]
    simp only [run_freeze, Result.andThen_ok, World.freeze, hsz]
    rw [if_neg (by omega)]
    rw [modify_eq _ hb]
    rfl
  · simp only [St.put, St.new, Tr.get_set]
    split <;> rfl

theorem aBytes_run (hS : Sim S G W ρ st w) {src dst : TypeId} {x x' v : Value} {st' : St} (hx : VR ρ x x') (h : aBytes src dst x st = some (v, st')) :
    ∃ v' w' ρ', (convert src dst x').run P w = .ok v' w' ∧ VR ρ' v v' ∧ Sim S G W ρ' st' w' ∧ Ext ρ st ρ' st' := by
  unfold aBytes at h
  split at h
  · rename_i s
    cases hx
    split at h
    · rename_i e hs hd
      split at h
      · rename_i he
        cases (Option.some.inj h)
        have hsz : (⟨⟨s⟩⟩ : ByteArray).size = s.length := rfl
        have hcap : s.length ≤ (Question.appendCap s.length 0 e).cut (w.tape w.drawn (.appendCap s.length 0 e)) := Nat.le_add_right _ _
        obtain ⟨w', ρ', h1, h2, h3, h4⟩ := bytes_row hS.drew e s _ hcap
        refine ⟨_, w', ρ', ?_, VR.slice 0 _ _ _ h4 hcap (.inr (by simp)), h2, h3⟩
        simp only [convert, Sem.run_bind, run_underlying hs, run_underlying hd, run_underlying he, Result.andThen_ok, Conv.stringToBytes, run_choose, hsz]
        rw [if_neg (by simp [Question.forced])]
        simp only [Result.andThen_ok]
        simp only [Sem.run_bind] at h1
        rw [h1, Nat.add_zero]
      · exact nn h
    · exact nn h
  · exact nn h

theorem wrap_small (n : Nat) (h : n ≤ 16777216) : IntKind.i64.wrap (Int.ofNat n) = Int.ofNat n := Go.IntWalk.i64_in _ (by rw [Int.ofNat_eq_natCast]; omega)

theorem aMakeSlice_run (hS : Sim S G W ρ st w) {t : TypeId} {x x' y y' v : Value} {st' : St} (hx : VR ρ x x') (hy : VR ρ y y') (h : aMakeSlice t x y st = some (v, st')) :
    ∃ v' w' ρ', (Instr.makeSlice t x' y').run P w = .ok v' w' ∧ VR ρ' v v' ∧ Sim S G W ρ' st' w' ∧ Ext ρ st ρ' st' := by
  unfold aMakeSlice at h
  split at h
  · rename_i k l k' c
    cases hx
    cases hy
    split at h
    · rename_i elem hu
      cases hi : P.info? elem with
      | none => rw [hi] at h; exact nn h
      | some i =>
        rw [hi] at h
        simp only at h
        cases hg : (Nat.ble l c && Nat.ble c 16777216 && Nat.ble i.bytes 65536 && Nat.ble i.size 65534) with
        | false => rw [hg] at h; exact nn h
        | true =>
          rw [hg] at h
          simp only [cond_true] at h
          rw [Bool.and_eq_true, Bool.and_eq_true, Bool.and_eq_true] at hg
          obtain ⟨⟨⟨h1, h2⟩, h3⟩, hs0⟩ := hg
          have hs0 : i.size < 65536 := Nat.lt_of_le_of_lt (ble_le hs0) (by decide)
          have h1 := ble_le h1
          have h2 := ble_le h2
          have h3 := ble_le h3
          cases hzs : aZeros elem i.size c with
          | none => rw [hzs] at h; exact nn h
          | some zs =>
            rw [hzs] at h
            cases (Option.some.inj h)
            obtain ⟨zero, h4, h5⟩ : ∃ (zero : Array Value), ((c * i.size = 0 ∧ zero = #[]) ∨ (c * i.size ≠ 0 ∧ ∃ z, (zeroValue elem).run P w = .ok z w ∧ zero = z.cells)) ∧
                TrR ρ (Tr.fill .nil 0 zs) ((Array.range (c * i.size)).map (zero[· % zero.size]!)) := by
              rcases aZeros_run (ρ := ρ) (w := w) hzs with ⟨h0, rfl⟩ | ⟨h0, z, hz, hq, hv, rfl⟩
              · exact ⟨#[], .inl ⟨h0, rfl⟩, fun i v hv => by rw [Tr.fill, Tr.get_nil] at hv; exact nn hv⟩
              · exact ⟨z.cells, .inr ⟨h0, z, hz, rfl⟩, .ofList fun i v hi => zeros_rel hv (by rw [hq]) hi⟩
            obtain ⟨g1, g2, g3⟩ := hS.newRow (u := i.size) (elem := elem) h5 hs0
            refine ⟨_, _, _, ?_, VR.slice (e := ⟨w.heap.size, 0, _, i.size⟩) 0 l c c (Rho.set_same _ _ _) (Nat.le_refl _) (.inl rfl), g2, g3⟩
            simp only [Instr.makeSlice, Sem.run_bind, run_underlying hu, Result.andThen_ok, asInt, run_asIntOf, Sem.run_pure, run_typeInfo hi, wrap_small l (by omega), wrap_small c h2]
            have b1 : ¬ ((Int.ofNat c < 0 || (i.bytes : Int) * Int.ofNat c > 2 ^ 48) || (Int.ofNat l < 0) || (Int.ofNat l > Int.ofNat c)) = true := by
              have hm := Nat.mul_le_mul h3 h2
              have e : (i.bytes : Int) * Int.ofNat c = ((i.bytes * c : Nat) : Int) := by rw [Int.ofNat_eq_natCast]; exact (Int.natCast_mul _ _).symm
              rw [e]
              simp only [Bool.or_eq_true, decide_eq_true_eq, Int.ofNat_eq_natCast, not_or]
              omega
            rw [if_neg b1]
            simp only [Sem.run_bind, run_askRoom, Result.andThen_ok, run_sizeOf (show sizeIn elem = some i.size by simp [sizeIn, hi])]
            have e1 : (Int.ofNat c).toNat = c := rfl
            rw [e1]
            rcases h4 with ⟨h0, rfl⟩ | ⟨h0, z, hz, rfl⟩
            · rw [if_pos h0]
              simp only [Sem.run_bind, Sem.run_pure, Result.andThen_ok, g1, Nat.add_zero]
              rfl
            · rw [if_neg h0]
              simp only [Sem.run_bind, hz, Sem.run_pure, Result.andThen_ok, g1, Nat.add_zero]
              rfl
    · exact nn h
  · exact nn h

end
end Go.Proofs.YtcgecgilkapjaaaGreatDoor
