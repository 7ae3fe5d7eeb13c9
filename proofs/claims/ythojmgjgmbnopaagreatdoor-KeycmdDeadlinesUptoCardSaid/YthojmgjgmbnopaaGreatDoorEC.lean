/- The evaluator is sound: new blocks. -/
import Derived.Test.YthojmgjgmbnopaaGreatDoorEB
import Derived.Test.YthojmgjgmbnopaaGreatDoorEA
namespace Go.Proofs.YthojmgjgmbnopaaGreatDoor
open Go Go.RowKit

section
variable {G : Nat} {W : World} {ρ : Rho} {st : St} {w : World}

/-- A row of cells, alike as far as the tree goes. -/
def TrR (ρ : Rho) (c : Tr Value) (cs : Array Value) : Prop := ∀ i v, c.get i = some v → ∃ v', cs[i]? = some v' ∧ VR ρ v v'

theorem TrR.mono {ρ ρ' : Rho} (h : ρ.le ρ') {c : Tr Value} {cs : Array Value} (k : TrR ρ c cs) : TrR ρ' c cs :=
  fun i v hv => let ⟨v', a, b⟩ := k i v hv; ⟨v', a, b.mono h⟩

theorem TrR.ofList {l : List Value} {cs : Array Value} (h : ∀ (i : Nat) (v : Value), l[i]? = some v → ∃ v', cs[i]? = some v' ∧ VR ρ v v') : TrR ρ (Tr.fill .nil 0 l) cs := by
  intro i v hv
  rw [Tr.get_fill] at hv
  split at hv
  · exact h i v (by simpa using hv)
  · rw [Tr.get_nil] at hv; exact nn hv

theorem TrR.ofVRs {l : List Value} {cs : Array Value} (h : VRs ρ l cs.toList) : TrR ρ (Tr.fill .nil 0 l) cs :=
  .ofList fun i v hv => by
    obtain ⟨v', h1, h2⟩ := h.get hv
    exact ⟨v', by simpa using h1, h2⟩

/-- The place of a new block. -/
def Rho.set (ρ : Rho) (k : Nat) (e : Spot) : Rho := fun i => if i = k then some e else ρ i

theorem Rho.set_same (ρ : Rho) (k : Nat) (e : Spot) : ρ.set k e k = some e := by simp [Rho.set]

/-- A new row of cells. -/
theorem Sim.newRow (h : Sim G W ρ st w) {c : Tr Value} {cs : Array Value} {elem : TypeId} {u : Nat} (hr : TrR ρ c cs) :
    (Go.newRow elem cs).run P w = .ok ⟨w.heap.size, 0, none⟩ { w with heap := w.heap.push (.cells cs elem) } ∧
    Sim G W (ρ.set st.next ⟨w.heap.size, 0, cs.size, u⟩) (st.new (.cells false u c)) { w with heap := w.heap.push (.cells cs elem) } ∧
    Ext ρ st (ρ.set st.next ⟨w.heap.size, 0, cs.size, u⟩) (st.new (.cells false u c)) := by
  have hle : ρ.le (ρ.set st.next ⟨w.heap.size, 0, cs.size, u⟩) := by
    intro k e he
    show (if k = st.next then _ else ρ k) = some e
    rw [if_neg (by rintro rfl; rw [h.fresh _ (Nat.le_refl _)] at he; cases he)]
    exact he
  refine ⟨?_, h.new (sz := cs.size) (u := u) ?_⟩
  · simp only [Go.newRow, Sem.run_bind, run_newObj, Result.andThen_ok, Sem.run_pure]
  · refine ⟨rfl, rfl, fun _ i _ hi => by simp at hi, fun i v hv => ?_⟩
    obtain ⟨v', h1, h2⟩ := hr i v hv
    exact ⟨v', by simpa using h1, h2.mono hle⟩

theorem aAlloc_run (hS : Sim G W ρ st w) {t : TypeId} {v : Value} {st' : St} (h : aAlloc t st = some (v, st')) :
    ∃ v' w' ρ', (Instr.alloc t true (.tuple #[])).run P w = .ok v' w' ∧ VR ρ' v v' ∧ Sim G W ρ' st' w' ∧ Ext ρ st ρ' st' := by
  unfold aAlloc at h
  cases hz : aZero t with
  | none => rw [hz] at h; exact nn h
  | some z =>
    rw [hz] at h
    simp only at h
    cases hs : sizeIn t with
    | none => rw [hs] at h; exact nn h
    | some u =>
      rw [hs] at h
      have hz := run_zero (w := w) hz
      cases (Option.some.inj h)
      obtain ⟨h1, h2, h3⟩ := hS.newRow (u := u) (elem := t) (TrR.ofVRs (flat_self (ρ := ρ) hz.2).cells)
      refine ⟨_, _, _, ?_, VR.ptr (e := ⟨w.heap.size, 0, z.cells.size, u⟩) 0 (Rho.set_same _ _ _), h2, h3⟩
      simp only [Instr.alloc, Sem.run_bind, hz.1, Result.andThen_ok, newVar, h1, Sem.run_pure, Nat.add_zero]

theorem aBox_run (hS : Sim G W ρ st w) {t : TypeId} {x x' v : Value} {st' : St} (hx : VR ρ x x') (h : aBox t x st = some (v, st')) :
    ∃ v' w' ρ', (Instr.box t x').run P w = .ok v' w' ∧ VR ρ' v v' ∧ Sim G W ρ' st' w' ∧ Ext ρ st ρ' st' := by
  unfold aBox at h
  cases hs : sizeIn t with
  | none => rw [hs] at h; exact nn h
  | some u =>
    rw [hs] at h
    cases (Option.some.inj h)
    obtain ⟨h1, h2, h3⟩ := hS.newRow (u := u) (elem := t) (TrR.ofVRs hx.cells)
    refine ⟨_, _, _, ?_, VR.ptr (e := ⟨w.heap.size, 0, x'.cells.size, u⟩) 0 (Rho.set_same _ _ _), h2, h3⟩
    simp only [Instr.box, Sem.run_bind, newVar, h1, Result.andThen_ok, Sem.run_pure, Nat.add_zero]

theorem repl_length (z : List Value) : ∀ n, (repl z n).length = n * z.length
  | 0 => by simp [repl]
  | n + 1 => by rw [repl, List.length_append, repl_length z n, Nat.succ_mul, Nat.add_comm]

theorem repl_get (z : List Value) : ∀ (n i : Nat), i < n * z.length → (repl z n)[i]? = z[i % z.length]?
  | 0, i, h => by simp at h
  | n + 1, i, h => by
    rw [repl, List.getElem?_append]
    split
    · rename_i hi; rw [Nat.mod_eq_of_lt hi]
    · rename_i hi
      rw [repl_get z n (i - z.length) (by rw [Nat.succ_mul] at h; omega)]
      congr 1
      obtain ⟨j, rfl⟩ : ∃ j, i = j + z.length := ⟨i - z.length, by omega⟩
      rw [Nat.add_sub_cancel, Nat.add_mod_right]

/-- Zeros in a row, as the model lays them. -/
theorem zeros_rel {z : List Value} {z' : Array Value} (hz : VRs ρ z z'.toList) {n m : Nat} (hm : m = n * z'.size) {i : Nat} {v : Value} (h : (repl z n)[i]? = some v) :
    ∃ v', ((Array.range m).map fun i => z'[i % z'.size]!)[i]? = some v' ∧ VR ρ v v' := by
  have hl : z.length = z'.size := by have := hz.length; simpa using this
  have hi : i < n * z.length := by
    rcases Nat.lt_or_ge i (n * z.length) with h' | h'
    · exact h'
    · rw [List.getElem?_eq_none (by rw [repl_length]; exact h')] at h; exact nn h
  rw [repl_get _ _ _ hi] at h
  rw [hl] at hi h
  have hlt : i < m := by omega
  obtain ⟨v', h1, h2⟩ := hz.get h
  rw [Array.getElem?_toList] at h1
  refine ⟨v', ?_, h2⟩
  simp only [Array.getElem?_map, Array.getElem?_range, hlt, if_true, Option.map_some]
  have h0 : i % z'.size < z'.size := Nat.mod_lt _ (by
    rcases Nat.eq_zero_or_pos z'.size with h0 | h0
    · rw [h0] at hi; simp at hi
    · exact h0)
  rw [getElem!_pos z' _ h0]
  rw [Array.getElem?_eq_getElem h0] at h1
  exact h1

/-- So many zeros: what the model makes of them. -/
theorem aZeros_run {elem : TypeId} {size len : Nat} {zs : List Value} (h : aZeros elem size len = some zs) :
    (len * size = 0 ∧ zs = []) ∨ (len * size ≠ 0 ∧ ∃ z, (zeroValue elem).run P w = .ok z w ∧ z.cells.size = size ∧ VRs ρ z.cells.toList z.cells.toList ∧ zs = repl z.cells.toList len) := by
  unfold aZeros at h
  cases h0 : Nat.beq (len * size) 0 with
  | true =>
    rw [h0] at h
    exact .inl ⟨Nat.eq_of_beq_eq_true h0, (Option.some.inj h).symm⟩
  | false =>
    rw [h0] at h
    simp only [cond_false] at h
    cases hz : aZero elem with
    | none => rw [hz] at h; exact nn h
    | some z =>
      rw [hz] at h
      simp only at h
      cases hq : Nat.beq z.cells.toList.length size with
      | false => rw [hq] at h; exact nn h
      | true =>
        rw [hq] at h
        have hq := Nat.eq_of_beq_eq_true hq
        rw [Array.length_toList] at hq
        have hz := run_zero (w := w) hz
        exact .inr ⟨Nat.ne_of_beq_eq_false h0, z, hz.1, hq, (flat_self hz.2).cells, (Option.some.inj h).symm⟩

theorem fill_step {c : Tr Value} {arr : Array Value} (hc : TrR ρ c arr) {l l' : List Value} (hl : VRs ρ l l') (off : Nat) (h : off + l.length ≤ arr.size) :
    TrR ρ (Tr.fill c off l) ((l'.zipIdx 0).foldl (fun (cs : Array Value) (p : Value × Nat) => cs.setIfInBounds (off + p.2) p.1) arr) ∧
    ((l'.zipIdx 0).foldl (fun (cs : Array Value) (p : Value × Nat) => cs.setIfInBounds (off + p.2) p.1) arr).size = arr.size := by
  have hlen := hl.length
  have a := lay_get l' arr off 0 (by omega)
  refine ⟨fun i v hv => ?_, a.1⟩
  rw [a.2]
  rw [Tr.get_fill] at hv
  split at hv
  · rename_i hi
    rw [if_pos (by omega)]
    exact hl.get hv
  · rename_i hi
    rw [if_neg (by omega)]
    exact hc i v hv

theorem aFill_run {place : Nat → Option (Nat × Nat)} {n : Nat} : ∀ {ps ps' : List (Nat × Value)}, PartsR ρ ps ps' → ∀ {c c' : Tr Value} {arr : Array Value}, arr.size = n → TrR ρ c arr →
    aFill place n c ps = some c' → ∃ arr', Instr.fill place arr ps' = some arr' ∧ arr'.size = n ∧ TrR ρ c' arr'
  | _, _, .nil, c, c', arr, hn, hc, h => by
    cases (Option.some.inj h)
    exact ⟨arr, rfl, hn, hc⟩
  | _, _, @PartsR.cons _ i v v' l l' hv k, c, c', arr, hn, hc, h => by
    simp only [aFill] at h
    simp only [Instr.fill]
    cases hp : place i with
    | none => rw [hp] at h; exact nn h
    | some x =>
      obtain ⟨off, size⟩ := x
      rw [hp] at h
      simp only at h ⊢
      cases hg : (Nat.beq v.cells.toList.length size && Nat.ble (off + size) n) with
      | false => rw [hg] at h; exact nn h
      | true =>
        rw [hg] at h
        simp only [cond_true] at h
        rw [Bool.and_eq_true] at hg
        have h1 := Nat.eq_of_beq_eq_true hg.1
        have h2 := ble_le hg.2
        have hcell := hv.cells
        have hlen : v'.cells.size = size := by rw [← h1, hcell.length, Array.length_toList]
        rw [if_neg (by simp only [hlen, hn, not_or, Bool.or_eq_true, decide_eq_true_eq, ne_eq, Decidable.not_not, gt_iff_lt, Nat.not_lt]; exact ⟨trivial, h2⟩)]
        obtain ⟨s1, s2⟩ := fill_step hc hcell off (by rw [h1, hn]; exact h2)
        rw [← Array.foldl_toList, Array.toList_zipIdx]
        exact aFill_run k (by rw [s2]; exact hn) s1 h

theorem aBuildSlice_run (hS : Sim G W ρ st w) {t : TypeId} {len : Nat} {ps ps' : List (Nat × Value)} {v : Value} {st' : St} (hp : PartsR ρ ps ps') (h : aBuildSlice t len ps st = some (v, st')) :
    ∃ v' w' ρ', (Instr.buildSlice t len ps'.toArray).run P w = .ok v' w' ∧ VR ρ' v v' ∧ Sim G W ρ' st' w' ∧ Ext ρ st ρ' st' := by
  unfold aBuildSlice at h
  split at h
  · rename_i elem hu
    cases hs : sizeIn elem with
    | none => rw [hs] at h; exact nn h
    | some size =>
      rw [hs] at h
      simp only at h
      cases hb : Nat.ble (len * size) 16777216 with
      | false => rw [hb] at h; exact nn h
      | true =>
        rw [hb] at h
        simp only [cond_true] at h
        have hb := ble_le hb
        cases hzs : aZeros elem size len with
        | none => rw [hzs] at h; exact nn h
        | some zs =>
        rw [hzs] at h
        simp only at h
        obtain ⟨zero, h1, h3⟩ : ∃ (zero : Array Value), ((len * size = 0 ∧ zero = #[]) ∨ (len * size ≠ 0 ∧ ∃ z, (zeroValue elem).run P w = .ok z w ∧ zero = z.cells)) ∧
            TrR ρ (Tr.fill .nil 0 zs) ((Array.range (len * size)).map (zero[· % zero.size]!)) := by
          rcases aZeros_run (ρ := ρ) (w := w) hzs with ⟨h0, rfl⟩ | ⟨h0, z, hz, hq, hv, rfl⟩
          · exact ⟨#[], .inl ⟨h0, rfl⟩, fun i v hv => by rw [Tr.fill, Tr.get_nil] at hv; exact nn hv⟩
          · exact ⟨z.cells, .inr ⟨h0, z, hz, rfl⟩, .ofList fun i v hi => zeros_rel hv (by rw [hq]) hi⟩
        cases hf : aFill (fun i => some (i * size, size)) (len * size) (Tr.fill .nil 0 zs) ps with
        | none => rw [hf] at h; exact nn h
        | some c =>
          rw [hf] at h
          cases (Option.some.inj h)
          obtain ⟨arr', h4, h5, h6⟩ := aFill_run hp (by simp) h3 hf
          obtain ⟨g1, g2, g3⟩ := hS.newRow (u := size) (elem := elem) h6
          refine ⟨_, _, _, ?_, VR.slice (e := ⟨w.heap.size, 0, arr'.size, size⟩) 0 len len len (Rho.set_same _ _ _) (Nat.le_refl _) (.inl rfl), g2, g3⟩
          simp only [Instr.buildSlice, Sem.run_bind, run_underlying hu, Result.andThen_ok, run_sizeOf hs]
          rw [if_neg (by show ¬ len * size > 2 ^ 24; omega)]
          rcases h1 with ⟨h0, rfl⟩ | ⟨h0, z, hz, rfl⟩
          · rw [if_pos h0]
            simp only [Sem.run_bind, Sem.run_pure, Result.andThen_ok, h4, g1, Nat.add_zero]
          · rw [if_neg h0]
            simp only [Sem.run_bind, hz, Sem.run_pure, Result.andThen_ok, h4, g1, Nat.add_zero]
  · exact nn h


theorem modify_eq {h : Array Obj} {b : Nat} {o : Obj} (f : Obj → Obj) (hb : h[b]? = some o) : h.modify b f = h.setIfInBounds b (f o) := by
  apply Array.ext_getElem?
  intro i
  rw [Array.getElem?_modify, Array.getElem?_setIfInBounds]
  by_cases hi : b = i
  · subst hi
    have hlt : b < h.size := by
      rcases Nat.lt_or_ge b h.size with h' | h'
      · exact h'
      · rw [Array.getElem?_eq_none h'] at hb; exact nn hb
    rw [if_pos rfl, if_pos rfl, if_pos hlt, hb]
    rfl
  · rw [if_neg hi, if_neg hi]

/-- A byte row that a text gave: new cells, some of them spare. -/
theorem bytes_row (hS : Sim G W ρ st w) (e : TypeId) (s : List UInt8) (cap : Nat) (hcap : s.length ≤ cap) :
    ∃ w' ρ', ((do
      let a ← newRow e (((⟨⟨s⟩⟩ : ByteArray).data.map fun b => Value.int .u8 b.toNat) ++ Array.replicate (cap - s.length) (.int .u8 0))
      markStringish a
      pure (.slice (some a) s.length cap)) : Sem Value).run P w = .ok (.slice (some ⟨w.heap.size, 0, none⟩) s.length cap) w' ∧
      Sim G W ρ' (st.new (.cells false 1 (Tr.fill .nil 0 (s.map fun b => .int .u8 b.toNat)))) w' ∧
      Ext ρ st ρ' (st.new (.cells false 1 (Tr.fill .nil 0 (s.map fun b => .int .u8 b.toNat)))) ∧ ρ' st.next = some ⟨w.heap.size, 0, cap, 1⟩ := by
  generalize hcs : ((⟨⟨s⟩⟩ : ByteArray).data.map fun b => Value.int .u8 b.toNat) ++ Array.replicate (cap - s.length) (.int .u8 0) = cs
  have hsz : cs.size = cap := by rw [← hcs]; simp; omega
  have hr : TrR ρ (Tr.fill .nil 0 (s.map fun b => .int .u8 b.toNat)) cs := .ofList fun i v hv => by
    refine ⟨v, ?_, ?_⟩
    · rw [← hcs]
      have hlt : i < s.length := by
        rcases Nat.lt_or_ge i s.length with h' | h'
        · exact h'
        · rw [List.getElem?_eq_none (by simpa using h')] at hv; exact nn hv
      rw [Array.getElem?_append_left (by simpa using hlt)]
      simpa using hv
    · rw [List.getElem?_map] at hv
      cases hb : s[i]? with
      | none => rw [hb] at hv; exact nn hv
      | some b => rw [hb] at hv; cases (Option.some.inj hv); exact .int _ _
  obtain ⟨g1, g2, g3⟩ := hS.newRow (u := 1) (elem := e) hr
  have hsame := Rho.set_same ρ st.next ⟨w.heap.size, 0, cs.size, 1⟩
  have hk : (st.new (.cells false 1 (Tr.fill .nil 0 (s.map fun b => .int .u8 b.toNat)))).heap.get st.next = some (.cells false 1 (Tr.fill .nil 0 (s.map fun b => .int .u8 b.toNat))) := by
    simp [St.new, Tr.get_set]
  have hb : (w.heap.push (.cells cs e))[w.heap.size]? = some (.cells cs e) := by simp
  have hset := g2.setObj (o := .cells cs e (cap, cap + 1)) (a' := .cells false 1 (Tr.fill .nil 0 (s.map fun b => .int .u8 b.toNat))) hk hsame rfl
    ⟨rfl, rfl, fun _ i hi => by rw [hsz] at hi; simp only; omega, fun i v hv => by
      obtain ⟨v', h1, h2⟩ := hr i v hv
      exact ⟨v', by simpa using h1, h2.mono g3.le⟩⟩
  refine ⟨_, _, ?_, hset.congr (fun j => ?_) rfl, g3, by rw [hsame, hsz]⟩
  · simp only [Sem.run_bind, g1, Result.andThen_ok, markStringish, run_shape, Sem.run_pure]
    have hsh : World.shape? { heap := w.heap.push (Obj.cells cs e), tape := w.tape, drawn := w.drawn, os := w.os, output := w.output } w.heap.size = some (e, cs.size) := by
      simp [World.shape?]
    rw [hsh]
    simp only [run_freeze, Result.andThen_ok, World.freeze, hsz]
    rw [if_neg (by omega)]
    rw [modify_eq _ hb]
    rfl
  · simp only [St.put, St.new, Tr.get_set]
    split <;> rfl

theorem aBytes_run (hS : Sim G W ρ st w) {src dst : TypeId} {x x' v : Value} {st' : St} (hx : VR ρ x x') (h : aBytes src dst x st = some (v, st')) :
    ∃ v' w' ρ', (convert src dst x').run P w = .ok v' w' ∧ VR ρ' v v' ∧ Sim G W ρ' st' w' ∧ Ext ρ st ρ' st' := by
  unfold aBytes at h
  split at h
  · rename_i s
    cases hx
    split at h
    · rename_i e hs hd
      split at h
      · rename_i he
        cases (Option.some.inj h)
        have hsz : (⟨⟨s⟩⟩ : ByteArray).size = s.length := rfl
        have hcap : s.length ≤ (Question.appendCap s.length 0 e).cut (w.tape w.drawn (.appendCap s.length 0 e)) := Nat.le_add_right _ _
        obtain ⟨w', ρ', h1, h2, h3, h4⟩ := bytes_row hS.drew e s _ hcap
        refine ⟨_, w', ρ', ?_, VR.slice 0 _ _ _ h4 hcap (.inr (by simp)), h2, h3⟩
        simp only [convert, Sem.run_bind, run_underlying hs, run_underlying hd, run_underlying he, Result.andThen_ok, Conv.stringToBytes, run_choose, hsz]
        rw [if_neg (by simp [Question.forced])]
        simp only [Result.andThen_ok]
        simp only [Sem.run_bind] at h1
        rw [h1, Nat.add_zero]
      · exact nn h
    · exact nn h
  · exact nn h

theorem wrap_small (n : Nat) (h : n ≤ 16777216) : IntKind.i64.wrap (Int.ofNat n) = Int.ofNat n := Go.IntWalk.i64_in _ (by rw [Int.ofNat_eq_natCast]; omega)

theorem aMakeSlice_run (hS : Sim G W ρ st w) {t : TypeId} {x x' y y' v : Value} {st' : St} (hx : VR ρ x x') (hy : VR ρ y y') (h : aMakeSlice t x y st = some (v, st')) :
    ∃ v' w' ρ', (Instr.makeSlice t x' y').run P w = .ok v' w' ∧ VR ρ' v v' ∧ Sim G W ρ' st' w' ∧ Ext ρ st ρ' st' := by
  unfold aMakeSlice at h
  split at h
  · rename_i k l k' c
    cases hx
    cases hy
    split at h
    · rename_i elem hu
      cases hi : P.info? elem with
      | none => rw [hi] at h; exact nn h
      | some i =>
        rw [hi] at h
        simp only at h
        cases hg : (Nat.ble l c && Nat.ble c 16777216 && Nat.ble i.bytes 65536) with
        | false => rw [hg] at h; exact nn h
        | true =>
          rw [hg] at h
          simp only [cond_true] at h
          rw [Bool.and_eq_true, Bool.and_eq_true] at hg
          obtain ⟨⟨h1, h2⟩, h3⟩ := hg
          have h1 := ble_le h1
          have h2 := ble_le h2
          have h3 := ble_le h3
          cases hzs : aZeros elem i.size c with
          | none => rw [hzs] at h; exact nn h
          | some zs =>
            rw [hzs] at h
            cases (Option.some.inj h)
            obtain ⟨zero, h4, h5⟩ : ∃ (zero : Array Value), ((c * i.size = 0 ∧ zero = #[]) ∨ (c * i.size ≠ 0 ∧ ∃ z, (zeroValue elem).run P w = .ok z w ∧ zero = z.cells)) ∧
                TrR ρ (Tr.fill .nil 0 zs) ((Array.range (c * i.size)).map (zero[· % zero.size]!)) := by
              rcases aZeros_run (ρ := ρ) (w := w) hzs with ⟨h0, rfl⟩ | ⟨h0, z, hz, hq, hv, rfl⟩
              · exact ⟨#[], .inl ⟨h0, rfl⟩, fun i v hv => by rw [Tr.fill, Tr.get_nil] at hv; exact nn hv⟩
              · exact ⟨z.cells, .inr ⟨h0, z, hz, rfl⟩, .ofList fun i v hi => zeros_rel hv (by rw [hq]) hi⟩
            obtain ⟨g1, g2, g3⟩ := hS.newRow (u := i.size) (elem := elem) h5
            refine ⟨_, _, _, ?_, VR.slice (e := ⟨w.heap.size, 0, _, i.size⟩) 0 l c c (Rho.set_same _ _ _) (Nat.le_refl _) (.inl rfl), g2, g3⟩
            simp only [Instr.makeSlice, Sem.run_bind, run_underlying hu, Result.andThen_ok, asInt, run_asIntOf, Sem.run_pure, run_typeInfo hi, wrap_small l (by omega), wrap_small c h2]
            have b1 : ¬ ((Int.ofNat c < 0 || (i.bytes : Int) * Int.ofNat c > 2 ^ 48) || (Int.ofNat l < 0) || (Int.ofNat l > Int.ofNat c)) = true := by
              have hm := Nat.mul_le_mul h3 h2
              have e : (i.bytes : Int) * Int.ofNat c = ((i.bytes * c : Nat) : Int) := by rw [Int.ofNat_eq_natCast]; exact (Int.natCast_mul _ _).symm
              rw [e]
              simp only [Bool.or_eq_true, decide_eq_true_eq, Int.ofNat_eq_natCast, not_or]
              omega
            rw [if_neg b1]
            simp only [Sem.run_bind, run_askRoom, Result.andThen_ok, run_sizeOf (show sizeIn elem = some i.size by simp [sizeIn, hi])]
            have e1 : (Int.ofNat c).toNat = c := rfl
            rw [e1]
            rcases h4 with ⟨h0, rfl⟩ | ⟨h0, z, hz, rfl⟩
            · rw [if_pos h0]
              simp only [Sem.run_bind, Sem.run_pure, Result.andThen_ok, g1, Nat.add_zero]
              rfl
            · rw [if_neg h0]
              simp only [Sem.run_bind, hz, Sem.run_pure, Result.andThen_ok, g1, Nat.add_zero]
              rfl
    · exact nn h
  · exact nn h

end
end Go.Proofs.YthojmgjgmbnopaaGreatDoor
/- The evaluator is sound: stores, maps, iterators. -/
namespace Go.Proofs.YthojmgjgmbnopaaGreatDoor
open Go Go.RowKit

section
variable {G : Nat} {W : World} {ρ : Rho} {st : St} {w : World}

theorem aStore_inv {x : Value} {t : TypeId} {v : Value} {st' : St} (h : aStore x t v st = some st') : ∃ k o, x = .pointer (some ⟨k, o, none⟩) ∧ aStoreIn (st.heap.get k) k o (sizeIn t) v.cells.toList st = some st' := by
  rcases x with _ | _ | _ | _ | _ | (_ | ⟨k, o, _ | s⟩) | _ | _ | _ | _ | _ | _ | _ | _ | _ <;> first | exact ⟨k, o, rfl, h⟩ | exact nn h

theorem aStoreIn_inv {b : Option AObj} {k o : Nat} {n : Option Nat} {l : List Value} {st' : St} (h : aStoreIn b k o n l st = some st') :
    ∃ u c c', b = some (.cells false u c) ∧ n = some l.length ∧ putCells c o l = some c' ∧ st' = st.put k (.cells false u c') := by
  rcases b with _ | ⟨_ | _, u, c⟩ | _ | _ | _
  · exact nn h
  · cases n with
    | none => exact nn h
    | some n =>
      replace h : (bif Nat.beq l.length n then aStoreAs (putCells c o l) k u st else none) = some st' := h
      cases hb : Nat.beq l.length n with
      | false => rw [hb] at h; exact nn h
      | true =>
        rw [hb] at h
        replace h : aStoreAs (putCells c o l) k u st = some st' := h
        cases hp : putCells c o l with
        | none => rw [hp] at h; exact nn h
        | some c' =>
          rw [hp] at h
          exact ⟨u, c, c', rfl, by rw [Nat.eq_of_beq_eq_true hb], hp, (Option.some.inj (show some (st.put k (.cells false u c')) = some st' from h)).symm⟩
  · exact nn h
  · exact nn h
  · exact nn h
  · exact nn h

theorem aStore_run (hS : Sim G W ρ st w) {t : TypeId} {x x' v v' : Value} {st' : St} (hx : VR ρ x x') (hv : VR ρ v v') (h : aStore x t v st = some st') :
    ∃ w', (Instr.storeAt t x' v').run P w = .ok () w' ∧ Sim G W ρ st' w' ∧ Ext ρ st ρ st' := by
  obtain ⟨k, o, rfl, h⟩ := aStore_inv h
  obtain ⟨u, c, c', hk, hs, hp, rfl⟩ := aStoreIn_inv h
  cases hx with
  | @ptr _ e _ he =>
    have hcell := hv.cells
    obtain ⟨w', h1, h2⟩ := Sim.storeCells (P := P) he o v.cells.toList v'.cells.toList 0 c c' st w hS hk (by simpa using hp) hcell
    refine ⟨w', ?_, h2, .put he _⟩
    have hlen : v'.cells.size = v.cells.toList.length := by rw [hcell.length, Array.length_toList]
    simp only [Instr.storeAt, Instr.sureAddr, Sem.run_bind, Sem.run_pure, Result.andThen_ok, storeVar, run_sizeOf hs]
    rw [if_neg (by rw [hlen]; exact fun h => h rfl)]
    exact h1

theorem EntsR.modify {f g : MapEntry → MapEntry} (hfg : ∀ e e', EntR ρ e e' → EntR ρ (f e) (g e')) : ∀ {l l' : List MapEntry}, EntsR ρ l l' → ∀ i, EntsR ρ (l.modify i f) (l'.modify i g)
  | _, _, .nil, i => by simpa using .nil
  | _, _, .cons h k, 0 => by simpa using .cons (hfg _ _ h) k
  | _, _, .cons h k, i + 1 => by simpa using .cons h (k.modify hfg i)

theorem EntsR.append : ∀ {l l' m m' : List MapEntry}, EntsR ρ l l' → EntsR ρ m m' → EntsR ρ (l ++ m) (l' ++ m')
  | _, _, _, _, .nil, h => h
  | _, _, _, _, .cons h k, hm => .cons h (k.append hm)

theorem EntsR.eraseIdx : ∀ {l l' : List MapEntry}, EntsR ρ l l' → ∀ i, EntsR ρ (l.eraseIdx i) (l'.eraseIdx i)
  | _, _, .nil, i => by simpa using .nil
  | _, _, .cons h k, 0 => by simpa using k
  | _, _, .cons h k, i + 1 => by simpa using .cons h (k.eraseIdx i)

theorem plain_flat {d : TypeDesc} {k : Value} (h : plainKey d k = true) : flat k = true := by
  unfold plainKey at h
  split at h <;> first | rfl | cases h

theorem bytes_refl (s : ByteArray) : (s == s) = true := by
  rcases s with ⟨⟨l⟩⟩
  rw [bytes_beq, bytesEq_eq]
  exact beq_self_eq_true l

theorem plain_stays {d : TypeDesc} {k : Value} (h : plainKey d k = true) : (Instr.keyThatStays k k).run P w = .ok k w := by
  have : ∀ n, Instr.sameBits n k k = true := by
    intro n
    unfold plainKey at h
    split at h <;> first
      | (cases n <;> simp [Instr.sameBits, bytes_refl]; done)
      | (cases h)
  rw [Instr.keyThatStays, if_pos (this _)]
  exact Sem.run_pure P w k

theorem run_setObj {b : Nat} {o o' : Obj} (h : w.heap[b]? = some o) (hc : ∀ c e f, o ≠ .cells c e f) : (setObj b o').run P w = .ok () { w with heap := w.heap.setIfInBounds b o' } := by
  cases o <;> first | exact absurd rfl (hc _ _ _) | simp only [setObj, Sem.run, h]

theorem aMapUpdate_run (hS : Sim G W ρ st w) {t : TypeId} {m m' k k' x x' : Value} {st' : St} (hm : VR ρ m m') (hk : VR ρ k k') (hx : VR ρ x x') (h : aMapUpdate t m k x st = some st') :
    ∃ w', (Instr.mapUpdate t m' k' x').run P w = .ok () w' ∧ Sim G W ρ st' w' ∧ Ext ρ st ρ st' := by
  unfold aMapUpdate at h
  split at h
  · rename_i key el r hu
    cases hm with
    | @map _ e he =>
      split at h
      · rename_i d es clock hd hr
        cases hp : plainKey d k with
        | false => rw [hp] at h; exact nn h
        | true =>
          rw [hp] at h
          simp only [cond_true] at h
          have hkk : k' = k := flat_eq (plain_flat hp) hk
          subst hkk
          obtain ⟨o, h1, h2, _⟩ := hS.obj r _ hr e he
          cases o <;> simp only [ObjR] at h2
          rename_i es' clock'
          obtain ⟨h3, rfl⟩ := h2
          cases hf : aFind d k' es 0 with
          | none => rw [hf] at h; exact nn h
          | some f =>
            rw [hf] at h
            rcases aFind_run h3 hf with ⟨rfl, h4⟩ | ⟨j, en, en', rfl, h4, h5, h6, h7, h8⟩
            · have h : some (st.put r (.map (es ++ [⟨k', x, clock'⟩]) (clock' + 1))) = some st' := h
              cases (Option.some.inj h)
              refine ⟨_, ?_, hS.setObj (o := .map (es'.push ⟨k', x', clock'⟩) (clock' + 1)) hr he rfl ⟨?_, rfl⟩, .put he _⟩
              · simp only [Instr.mapUpdate, Sem.run_bind, run_underlying hu, Result.andThen_ok, run_getMap h1, plain_check hd hp, findKey_run hd h4]
                exact run_setObj h1 (by intro _ _ _ h; cases h)
              · rw [Array.toList_push]
                exact h3.append (.cons ⟨rfl, hx, rfl, hk⟩ .nil)
            · rw [Nat.zero_add] at h h8
              have h : some (st.put r (.map (es.modify j fun e => ⟨k', x, e.born⟩) clock')) = some st' := h
              cases (Option.some.inj h)
              refine ⟨_, ?_, hS.setObj (o := .map (es'.modify j fun e => { e with key := k', val := x' }) clock') hr he rfl ⟨?_, rfl⟩, .put he _⟩
              · have hold : ((es'[j]?).map (·.key)).getD k' = k' := by
                  rw [Array.getElem?_toList] at h5
                  rw [h5]
                  show en'.key = k'
                  rw [h6.key, h7]
                simp only [Instr.mapUpdate, Sem.run_bind, run_underlying hu, Result.andThen_ok, run_getMap h1, plain_check hd hp, findKey_run hd h8, hold, plain_stays hp]
                exact run_setObj h1 (by intro _ _ _ h; cases h)
              · rw [Array.toList_modify]
                exact h3.modify (fun a a' ha => (show EntR ρ ⟨k', x, a.born⟩ { a' with key := k', val := x' } from ⟨rfl, hx, ha.born, hk⟩)) j
      · exact nn h
  · exact nn h

theorem aDelete_run (hS : Sim G W ρ st w) {t : TypeId} {ts : List TypeId} {ty : TypeId} {m m' k k' : Value} {st' : St} (hm : VR ρ m m') (hk : VR ρ k k') (h : aDelete t m k st = some st') :
    ∃ w', (Builtin.delete_ ⟨t :: ts⟩ ty ⟨[m', k']⟩).run P w = .ok (.tuple #[]) w' ∧ Sim G W ρ st' w' ∧ Ext ρ st ρ st' := by
  have e0 : (⟨t :: ts⟩ : Array TypeId)[0]? = some t := rfl
  have e1 : (⟨[m', k']⟩ : Array Value)[0]? = some m' := rfl
  have e2 : (⟨[m', k']⟩ : Array Value)[1]? = some k' := rfl
  unfold aDelete at h
  split at h
  · rename_i key el r hu
    cases hm with
    | @map _ e he =>
      split at h
      · rename_i d es clock hd hr
        cases hp : plainKey d k with
        | false => rw [hp] at h; exact nn h
        | true =>
          rw [hp] at h
          simp only [cond_true] at h
          have hkk : k' = k := flat_eq (plain_flat hp) hk
          subst hkk
          obtain ⟨o, h1, h2, _⟩ := hS.obj r _ hr e he
          cases o <;> simp only [ObjR] at h2
          rename_i es' clock'
          obtain ⟨h3, rfl⟩ := h2
          cases hf : aFind d k' es 0 with
          | none => rw [hf] at h; exact nn h
          | some f =>
            rw [hf] at h
            rcases aFind_run h3 hf with ⟨rfl, h4⟩ | ⟨j, en, en', rfl, h4, h5, h6, h7, h8⟩
            · have h : some st = some st' := h
              cases (Option.some.inj h)
              refine ⟨_, ?_, (hS.setObj (o := .map es' clock') (a' := .map es clock') hr he rfl ⟨h3, rfl⟩).congr (fun j => ?_) rfl, .refl _ _⟩
              · simp only [Builtin.delete_, e0, e1, e2, Sem.run_bind, run_underlying hu, Result.andThen_ok, run_getMap h1, plain_check hd hp, findKey_run hd h4]
                rw [run_setObj h1 (by intro _ _ _ h; cases h)]
                exact Sem.run_pure P _ _
              · simp only [St.put, Tr.get_set]
                split
                · rename_i hj; rw [hj, hr]
                · rfl
            · rw [Nat.zero_add] at h h8
              have h : some (st.put r (.map (es.eraseIdx j) clock')) = some st' := h
              cases (Option.some.inj h)
              have hj : j < es'.size := by
                rcases Nat.lt_or_ge j es'.size with h' | h'
                · exact h'
                · rw [Array.getElem?_toList, Array.getElem?_eq_none h'] at h5; exact nn h5
              refine ⟨_, ?_, hS.setObj (o := .map (es'.eraseIdxIfInBounds j) clock') hr he rfl ⟨?_, rfl⟩, .put he _⟩
              · simp only [Builtin.delete_, e0, e1, e2, Sem.run_bind, run_underlying hu, Result.andThen_ok, run_getMap h1, plain_check hd hp, findKey_run hd h8]
                rw [run_setObj h1 (by intro _ _ _ h; cases h)]
                exact Sem.run_pure P _ _
              · have : (es'.eraseIdxIfInBounds j).toList = es'.toList.eraseIdx j := by
                  rw [Array.eraseIdxIfInBounds, dif_pos hj, Array.toList_eraseIdx]
                rw [this]
                exact h3.eraseIdx j
      · exact nn h
  · rename_i key el hu
    cases hm
    split at h
    · rename_i d hd
      cases hp : plainKey d k with
      | false => rw [hp] at h; exact nn h
      | true =>
        rw [hp] at h
        cases (Option.some.inj h)
        have hkk : k' = k := flat_eq (plain_flat hp) hk
        subst hkk
        refine ⟨w, ?_, hS, .refl _ _⟩
        simp only [Builtin.delete_, e0, e1, e2, Sem.run_bind, run_underlying hu, Result.andThen_ok, plain_check hd hp, Sem.run_pure]
    · exact nn h
  · exact nn h

theorem aRange_run (hS : Sim G W ρ st w) {t : TypeId} {x x' v : Value} {st' : St} (hx : VR ρ x x') (h : aRange t x st = some (v, st')) :
    ∃ v' w' ρ', (Instr.range t x').run P w = .ok v' w' ∧ VR ρ' v v' ∧ Sim G W ρ' st' w' ∧ Ext ρ st ρ' st' := by
  have fin : ∀ (a : AObj) (o : Obj), ObjR (ρ.set st.next ⟨w.heap.size, 0, 0, 0⟩) ⟨w.heap.size, 0, 0, 0⟩ a o → v = .pointer (some ⟨st.next, 0, none⟩) → st' = st.new a →
      (Instr.range t x').run P w = .ok (.pointer (some ⟨w.heap.size, 0, none⟩)) { w with heap := w.heap.push o } →
      ∃ v' w' ρ', (Instr.range t x').run P w = .ok v' w' ∧ VR ρ' v v' ∧ Sim G W ρ' st' w' ∧ Ext ρ st ρ' st' := by
    rintro a o hr rfl rfl run
    obtain ⟨g1, g2⟩ := hS.new (sz := 0) (u := 0) hr
    exact ⟨_, _, _, run, VR.ptr (e := ⟨w.heap.size, 0, 0, 0⟩) 0 (Rho.set_same _ _ _), g1, g2⟩
  unfold aRange at h
  split at h
  · rename_i s hu
    cases hx
    cases (Option.some.inj h)
    refine fin (.sIter s 0) (.stringIter s 0) ⟨rfl, rfl, rfl⟩ rfl rfl ?_
    simp only [Instr.range, Sem.run_bind, run_underlying hu, Result.andThen_ok, Sem.run_pure, run_newObj]
  · rename_i k el hu
    cases hx
    cases (Option.some.inj h)
    refine fin (.mIter none 0 [] 0) (.mapIter none 0 #[] 0) ⟨rfl, rfl, rfl, rfl⟩ rfl rfl ?_
    simp only [Instr.range, Sem.run_bind, run_underlying hu, Result.andThen_ok, Sem.run_pure, run_newObj]
  · rename_i k el m hu
    cases hx with
    | @map _ e he =>
      split at h
      · rename_i es clock hm
        cases (Option.some.inj h)
        obtain ⟨o, h1, h2, _⟩ := hS.obj m _ hm e he
        cases o <;> simp only [ObjR] at h2
        rename_i es' clock'
        obtain ⟨h3, rfl⟩ := h2
        refine fin (.mIter (some m) clock' [] clock') (.mapIter (some e.b) clock' #[] clock') ⟨rfl, ⟨e, ?_, rfl⟩, rfl, rfl, rfl⟩ rfl rfl ?_
        · show (if m = st.next then _ else ρ m) = some e
          rw [if_neg (by rintro rfl; rw [hS.fresh _ (Nat.le_refl _)] at he; cases he)]
          exact he
        · simp only [Instr.range, Sem.run_bind, run_underlying hu, run_getMap h1, Result.andThen_ok, Sem.run_pure, run_newObj]
      · exact nn h
  · exact nn h


theorem EntsR.filter {p : MapEntry → Bool} (hp : ∀ e e', EntR ρ e e' → p e' = p e) : ∀ {l l' : List MapEntry}, EntsR ρ l l' → EntsR ρ (l.filter p) (l'.filter p)
  | _, _, .nil => .nil
  | _, _, @EntsR.cons _ a a' l l' ha k => by
    rw [List.filter_cons, List.filter_cons, hp a a' ha]
    split
    · exact .cons ha (k.filter hp)
    · exact k.filter hp

theorem EntsR.all {p : MapEntry → Bool} (hp : ∀ e e', EntR ρ e e' → p e' = p e) : ∀ {l l' : List MapEntry}, EntsR ρ l l' → l'.all p = l.all p
  | _, _, .nil => rfl
  | _, _, @EntsR.cons _ a a' l l' ha k => by rw [List.all_cons, List.all_cons, hp a a' ha, k.all hp]

theorem EntsR.isEmpty : ∀ {l l' : List MapEntry}, EntsR ρ l l' → l'.isEmpty = l.isEmpty
  | _, _, .nil => rfl
  | _, _, .cons _ _ => rfl

theorem aNext_run (hS : Sim G W ρ st w) {x x' v : Value} {s : Bool} {ty : TypeId} {st' : St} (hx : VR ρ x x') (h : aNext x s st = some (v, st')) :
    ∃ v' w' ρ', (Instr.next x' s ty).run P w = .ok v' w' ∧ VR ρ' v v' ∧ Sim G W ρ' st' w' ∧ Ext ρ st ρ' st' := by
  unfold aNext at h
  split at h
  · rename_i k
    cases hx with
    | @ptr _ e _ he =>
      split at h
      · rename_i t pos hk
        obtain ⟨o, h1, h2, _⟩ := hS.obj k _ hk e he
        cases o <;> try exact h2.elim
        rename_i t' pos'
        obtain ⟨h0, rfl, rfl⟩ := h2
        have g1 : (getObj e.b).run P w = .ok (.stringIter t' pos') w := by simp only [getObj, Sem.run, h1]
        cases hb : Nat.blt pos' t'.size with
        | false =>
          rw [hb] at h
          cases (Option.some.inj h)
          have hlt : ¬ pos' < t'.size := fun hh => by rw [show Nat.blt pos' t'.size = true from Nat.ble_eq_true_of_le hh] at hb; cases hb
          refine ⟨_, w, ρ, ?_, .tuple (.cons (.bool false) .nil), hS, .refl _ _⟩
          rw [h0]
          simp only [Instr.next, Nat.add_zero, Sem.run_bind, g1, Result.andThen_ok]
          rw [if_neg hlt]
          exact Sem.run_pure P w _
        | true =>
          rw [hb] at h
          have hlt : pos' < t'.size := Nat.le_of_ble_eq_true hb
          rcases hd : Utf8.decode t' pos' with ⟨c, width⟩
          rw [hd] at h
          cases (Option.some.inj h)
          refine ⟨_, _, ρ, ?_, .tuple (.cons (.bool true) (.cons (.int _ _) (.cons (.int _ _) .nil))), hS.setObj (o := .stringIter t' (pos' + width)) hk he rfl ⟨h0, rfl, rfl⟩, .put he _⟩
          rw [h0]
          simp only [Instr.next, Nat.add_zero, Sem.run_bind, g1, Result.andThen_ok]
          rw [if_pos hlt]
          simp only [hd, Sem.run_bind, run_setObj h1 (by intro _ _ _ h; cases h), Result.andThen_ok, Sem.run_pure]
          rfl
      · rename_i since seen stepped hk
        cases (Option.some.inj h)
        obtain ⟨o, h1, h2, _⟩ := hS.obj k _ hk e he
        cases o <;> try exact h2.elim
        rename_i mr since' seen' stepped'
        cases mr
        · simp only [ObjR] at h2
          obtain ⟨h0, rfl, rfl, rfl⟩ := h2
          have g1 : (getObj e.b).run P w = .ok (.mapIter none since' seen.toArray stepped') w := by simp only [getObj, Sem.run, h1]
          refine ⟨_, w, ρ, ?_, .tuple (.cons (.bool false) .nil), hS, .refl _ _⟩
          rw [h0]
          simp only [Instr.next, Nat.add_zero, Sem.run_bind, g1, Result.andThen_ok, Sem.run_pure]
        · exact h2.elim
      · rename_i m since seen last hk
        split at h
        · rename_i es clock hm
          obtain ⟨o, h1, h2, _⟩ := hS.obj k _ hk e he
          cases o <;> try exact h2.elim
          rename_i mr since' seen' stepped'
          cases mr
          · exact h2.elim
          rename_i m'
          obtain ⟨h0, ⟨sp, h3, rfl⟩, rfl, rfl, rfl⟩ := h2
          obtain ⟨o, h4, h5, _⟩ := hS.obj m _ hm sp h3
          cases o <;> simp only [ObjR] at h5
          rename_i es' clock'
          obtain ⟨h6, rfl⟩ := h5
          have g1 : (getObj e.b).run P w = .ok (.mapIter (some sp.b) since' seen.toArray stepped') w := by simp only [getObj, Sem.run, h1]
          cases hc : (!seen.isEmpty && !es.isEmpty && es.all (fun e => Nat.ble stepped' e.born)) with
          | true => rw [hc] at h; exact nn h
          | false =>
            rw [hc] at h
            simp only [cond_false] at h
            have hall : es'.all (fun x => decide (x.born ≥ stepped')) = es.all (fun e => Nat.ble stepped' e.born) := by
              rw [← Array.all_toList]
              have e1 : (fun x : MapEntry => decide (x.born ≥ stepped')) = fun e => Nat.ble stepped' e.born := by
                funext x
                rw [Bool.eq_iff_iff, decide_eq_true_iff, Nat.ble_eq]
              rw [e1]
              exact h6.all fun a a' ha => by rw [ha.born]
            have hc' : ¬ ((!seen.toArray.isEmpty && !es'.isEmpty && es'.all (fun x => decide (x.born ≥ stepped'))) = true) := by
              rw [hall]
              have e2 : es'.isEmpty = es.isEmpty := by rw [← h6.isEmpty]; simp [Array.isEmpty_toList]
              have e3 : seen.toArray.isEmpty = seen.isEmpty := by simp
              rw [e2, e3, hc]
              exact Bool.false_ne_true
            have hleft : EntsR ρ (es.filter fun e => !seen.contains e.born) (es'.filter fun e => !seen.toArray.contains e.born).toList := by
              rw [Array.toList_filter]
              have e1 : (fun e : MapEntry => !seen.toArray.contains e.born) = fun e => !seen.contains e.born := by funext x; simp
              rw [e1]
              exact h6.filter fun a a' ha => by rw [ha.born]
            generalize hL : (es'.filter fun e => !seen.toArray.contains e.born) = L at hleft
            generalize hA : (es.filter fun e => !seen.contains e.born) = A at hleft h
            have run : (Instr.next (.pointer (some ⟨e.b, 0, none⟩)) false ty).run P w = Sem.run P (do
                let old := L.filter (·.born < since')
                let new := L.filter (·.born ≥ since')
                let candidates := (if old.isEmpty then #[none] else #[]) ++ (old ++ new).map some
                match candidates[← choose (.mapNext candidates.size)]? with
                | some (some e') =>
                  setObj e.b (.mapIter (some sp.b) since' (seen.toArray.push e'.born) clock')
                  pure (.tuple #[.bool true, e'.key, e'.val])
                | some none => pure (.tuple #[.bool false])
                | none => stuck "Next: no such candidate") w := by
              simp only [Instr.next, Sem.run_bind, g1, Result.andThen_ok, run_getMap h4]
              rw [if_neg hc']
              simp only [Sem.run_bind, hL]
              rfl
            rw [h0, Nat.add_zero, run]
            rcases L with ⟨L⟩
            have hleft : EntsR ρ A L := hleft
            cases hleft with
            | nil =>
              cases (Option.some.inj h)
              refine ⟨_, w, ρ, ?_, .tuple (.cons (.bool false) .nil), hS, .refl _ _⟩
              simp [Question.forced]
            | @cons a a' l l' ha hl =>
              cases hl with
              | cons _ _ => exact nn h
              | nil =>
                replace h : (bif Nat.blt a.born since' then some (Value.tuple ⟨[.bool true, a.key, a.val]⟩, st.put k (.mIter (some m) since' (seen ++ [a.born]) clock')) else none) = some (v, st') := h
                cases hb : Nat.blt a.born since' with
                | false => rw [hb] at h; exact nn h
                | true =>
                  rw [hb] at h
                  cases (Option.some.inj h)
                  have hlt : a'.born < since' := by rw [ha.born]; exact Nat.le_of_ble_eq_true hb
                  refine ⟨_, _, ρ, ?_, .tuple (.cons (.bool true) (.cons (v' := a'.key) (by rw [ha.key]; exact ha.keyR) (.cons ha.val .nil))),
                    hS.setObj (o := .mapIter (some sp.b) since' (seen.toArray.push a'.born) clock') hk he rfl ⟨h0, ⟨sp, h3, rfl⟩, rfl, by rw [ha.born]; simp, rfl⟩, .put he _⟩
                  have n1 : ¬ since' ≤ a'.born := by omega
                  have f1 : Array.filter (fun x : MapEntry => decide (x.born < since')) #[a'] = #[a'] := by simp [hlt]
                  have f2 : Array.filter (fun x : MapEntry => decide (x.born ≥ since')) #[a'] = #[] := by simp [n1]
                  simp only [f1, f2]
                  simp [Question.forced]
                  rw [run_setObj h1 (by intro _ _ _ h; cases h)]
                  rfl
        · exact nn h
      · exact nn h
  · exact nn h

end
end Go.Proofs.YthojmgjgmbnopaaGreatDoor
/- The evaluator is sound: copy, clear, append. -/
namespace Go.Proofs.YthojmgjgmbnopaaGreatDoor
open Go Go.RowKit

section
variable {G : Nat} {W : World} {ρ : Rho} {st : St} {w : World}

theorem aLenOf_run {x x' : Value} {n : Nat} (hx : VR ρ x x') (h : aLenOf x = some n) (w : World) : (Builtin.lenOf x').run P w = .ok n w := by
  unfold aLenOf at h
  split at h
  · cases (Option.some.inj h)
    cases hx <;> exact Sem.run_pure P w _
  · cases (Option.some.inj h)
    cases hx
    exact Sem.run_pure P w _
  · exact nn h

theorem aSource_run (hS : Sim G W ρ st w) {x x' : Value} {size n m : Nat} {l : List Value} (hx : VR ρ x x') (hm : aLenOf x = some m) (hn : n ≤ m) (h : aSource size n x st = some l) :
    ∃ l', (Builtin.firstCells size n x').run P w = .ok ⟨l'⟩ w ∧ VRs ρ l l' := by
  unfold aSource at h
  split at h
  · cases hx
    cases hb : Nat.beq n 0 with
    | false => rw [hb] at h; exact nn h
    | true =>
      rw [hb] at h
      cases (Option.some.inj h)
      exact ⟨[], Sem.run_pure P w _, .nil⟩
  · rename_i k o len cap
    cases hb : Nat.beq n 0 with
    | true =>
      rw [hb] at h
      cases (Option.some.inj h)
      cases Nat.eq_of_beq_eq_true hb
      refine ⟨[], ?_, .nil⟩
      cases hx <;> simp [Builtin.firstCells, loadCells, loadCellsFrom]
    | false =>
      rw [hb] at h
      have hb := Nat.ne_of_beq_eq_false hb
      simp only [cond_false] at h
      split at h
      · rename_i ro u c hk
        cases hx with
        | @slice _ e _ _ _ c' he _ _ =>
          obtain ⟨l', h1, h2⟩ := hS.loadCells (P := P) hk he h
          exact ⟨l', h1, h2⟩
        | slice0 _ _ _ he _ =>
          exfalso
          have : (0 : Nat) = m := Option.some.inj hm
          omega
      · exact nn h
  · rename_i s
    cases hx
    cases (Option.some.inj h)
    refine ⟨(s.take n).map fun b => .int .u8 b.toNat, ?_, ?_⟩
    · simp only [Builtin.firstCells, extract_mk, List.drop_zero]
      simp
    · generalize s.take n = r
      induction r with
      | nil => exact .nil
      | cons b r ih => exact .cons (.int _ _) ih
  · exact nn h

theorem putCells_nil {c : Tr Value} {o : Nat} : putCells c o [] = some c := rfl

theorem aCopy_run (hS : Sim G W ρ st w) {t : TypeId} {ts : List TypeId} {ty : TypeId} {d d' s s' v : Value} {st' : St} (hd : VR ρ d d') (hs : VR ρ s s') (h : aCopy t d s st = some (v, st')) :
    ∃ w', (Builtin.copy_ ⟨t :: ts⟩ ty ⟨[d', s']⟩).run P w = .ok v w' ∧ VR ρ v v ∧ Sim G W ρ st' w' ∧ Ext ρ st ρ st' := by
  have e0 : (⟨t :: ts⟩ : Array TypeId)[0]? = some t := rfl
  have e1 : (⟨[d', s']⟩ : Array Value)[0]? = some d' := rfl
  have e2 : (⟨[d', s']⟩ : Array Value)[1]? = some s' := rfl
  unfold aCopy at h
  split at h
  · rename_i elem hu
    split at h
    · rename_i size m base dl dcap hsz hm
      cases hl : aSource size (Nat.min m dl) s st with
      | none => rw [hl] at h; exact nn h
      | some l =>
        rw [hl] at h
        obtain ⟨l', h1, h2⟩ := aSource_run hS hs hm (Nat.min_le_left _ _) hl
        have run : ∀ (b : Option Addr) (c : Nat), d' = .slice b dl c → (Builtin.copy_ ⟨t :: ts⟩ ty ⟨[d', s']⟩).run P w =
            Sem.run P (do
              if let some a := b then storeCells a l'
              pure (goInt ((Nat.min m dl : Nat) : Int))) w := by
          rintro b c rfl
          simp only [Builtin.copy_, e0, e1, e2, Sem.run_bind, run_underlying hu, Result.andThen_ok, aLenOf_run hs hm, run_sizeOf hsz, h1]
          rfl
        have hnil : l = [] → v = .int .i64 ((Nat.min m dl : Nat) : Int) → st' = st → ∃ w', (Builtin.copy_ ⟨t :: ts⟩ ty ⟨[d', s']⟩).run P w = .ok v w' ∧ VR ρ v v ∧ Sim G W ρ st' w' ∧ Ext ρ st ρ st' := by
          rintro rfl rfl rfl
          cases h2
          refine ⟨w, ?_, .int _ _, hS, .refl _ _⟩
          have : ∃ b c, d' = .slice b dl c := by cases hd <;> exact ⟨_, _, rfl⟩
          obtain ⟨b, c, hd'⟩ := this
          rw [run b c hd']
          cases b with
          | none => simp only [Sem.run_pure]; rfl
          | some a => simp only [Sem.run_bind, Go.storeCells, Sem.run_pure, Result.andThen_ok]; rfl
        rcases l with _ | ⟨y, l⟩
        · rcases base with _ | ⟨k, o, _ | sp⟩
          · cases (Option.some.inj h); exact hnil rfl rfl rfl
          · cases (Option.some.inj h); exact hnil rfl rfl rfl
          · exact nn h
        · rcases base with _ | ⟨k, o, _ | sp⟩
          · exact nn h
          · simp only at h
            split at h
            · rename_i u c hk
              cases hp : putCells c o (y :: l) with
              | none => rw [hp] at h; exact nn h
              | some c' =>
                rw [hp] at h
                cases (Option.some.inj h)
                cases hd with
                | @slice _ e _ _ _ cc he _ _ =>
                  obtain ⟨w', g1, g2⟩ := Sim.storeCells (P := P) he o (y :: l) l' 0 c c' st w hS hk (by simpa using hp) h2
                  refine ⟨w', ?_, .int _ _, g2, .put he _⟩
                  rw [run _ _ rfl]
                  simp only [Sem.run_bind, g1, Result.andThen_ok, Sem.run_pure]
                  rfl
                | slice0 =>
                  exfalso
                  have : Nat.min m 0 = 0 := Nat.min_zero m
                  rw [this] at hl
                  unfold aSource at hl
                  split at hl
                  · simp at hl
                  · simp at hl
                  · simp at hl
                  · exact nn hl
            · exact nn h
          · exact nn h
    · exact nn h
  · exact nn h

theorem zeroCells_rel {z : Array Value} (hz : VRs ρ z.toList z.toList) (n : Nat) : VRs ρ (repl z.toList n) (Builtin.zeroCells z n).toList := by
  refine VRs.of_get ?_ fun i v hv => ?_
  · rw [repl_length]; simp [Builtin.zeroCells]
  · obtain ⟨v', h1, h2⟩ := zeros_rel (m := n * z.size) hz rfl hv
    exact ⟨v', by rw [Builtin.zeroCells, Array.getElem?_toList]; exact h1, h2⟩

theorem aClear_run (hS : Sim G W ρ st w) {t : TypeId} {ts : List TypeId} {ty : TypeId} {x x' : Value} {st' : St} {d : TypeDesc} (hu : P.underlying t = some d) (hx : VR ρ x x') (h : aClear t x st = some st') :
    ∃ w', (Builtin.clear_ ⟨t :: ts⟩ ty ⟨[x']⟩).run P w = .ok (.tuple #[]) w' ∧ Sim G W ρ st' w' ∧ Ext ρ st ρ st' := by
  have e0 : (⟨t :: ts⟩ : Array TypeId)[0]? = some t := rfl
  have e1 : (⟨[x']⟩ : Array Value)[0]? = some x' := rfl
  unfold aClear at h
  split at h
  · cases hx
    cases (Option.some.inj h)
    exact ⟨w, by simp only [Builtin.clear_, e0, e1, Sem.run_bind, run_underlying hu, Result.andThen_ok, Sem.run_pure], hS, .refl _ _⟩
  · cases hx
    cases (Option.some.inj h)
    exact ⟨w, by simp only [Builtin.clear_, e0, e1, Sem.run_bind, run_underlying hu, Result.andThen_ok, Sem.run_pure], hS, .refl _ _⟩
  · rename_i k o n cp
    cases hb : Nat.beq n 0 with
    | true =>
      rw [hb] at h
      cases (Option.some.inj h)
      cases Nat.eq_of_beq_eq_true hb
      refine ⟨w, ?_, hS, .refl _ _⟩
      cases hx <;> simp only [Builtin.clear_, e0, e1, Sem.run_bind, run_underlying hu, Result.andThen_ok, Sem.run_pure]
    | false =>
      rw [hb] at h
      simp only [cond_false] at h
      have hb := Nat.ne_of_beq_eq_false hb
      split at h
      · rename_i elem u c hu' hk
        cases hz : aZero elem with
        | none => rw [hz] at h; exact nn h
        | some z =>
          rw [hz] at h
          have hz := run_zero (w := w) hz
          simp only at h
          cases hp : putCells c o (repl z.cells.toList n) with
          | none => rw [hp] at h; exact nn h
          | some c' =>
            rw [hp] at h
            cases (Option.some.inj h)
            rw [hu] at hu'
            have hd : d = .slice elem := Option.some.inj hu'
            subst hd
            cases hx with
            | slice0 => exact absurd rfl hb
            | @slice _ e _ _ _ cc he _ _ =>
              obtain ⟨w', g1, g2⟩ := Sim.storeCells (P := P) he o _ _ 0 c c' st w hS hk (by simpa using hp) (zeroCells_rel (flat_self (ρ := ρ) hz.2).cells n)
              refine ⟨w', ?_, g2, .put he _⟩
              cases n with
              | zero => exact absurd rfl hb
              | succ n => simp only [Builtin.clear_, e0, e1, Sem.run_bind, run_underlying hu, Result.andThen_ok, hz.1, g1, Sem.run_pure]
      · exact nn h
  · rename_i r
    cases hx with
    | @map _ e he =>
      split at h
      · rename_i es clock hr
        cases (Option.some.inj h)
        obtain ⟨o, h1, h2, _⟩ := hS.obj r _ hr e he
        cases o <;> try exact h2.elim
        rename_i es' clock'
        obtain ⟨h3, rfl⟩ := h2
        refine ⟨_, ?_, hS.setObj (o := .map #[] clock') hr he rfl ⟨.nil, rfl⟩, .put he _⟩
        simp only [Builtin.clear_, e0, e1, Sem.run_bind, run_underlying hu, Result.andThen_ok, run_getMap h1, run_setObj h1 (by intro _ _ _ h; cases h), Sem.run_pure]
      · exact nn h
  · exact nn h


theorem growBy_le (n : Nat) : ∀ (r c : Nat), c ≤ n → Builtin.growBy n r c ≤ 2 * n + 192
  | 0, c, h => by simp only [Builtin.growBy]; omega
  | r + 1, c, h => by
    simp only [Builtin.growBy]
    split
    · omega
    · rename_i hc
      by_cases h2 : c + (c + 768) / 4 ≤ n
      · exact growBy_le n r _ h2
      · cases r with
        | zero => simp only [Builtin.growBy]; omega
        | succ r => simp only [Builtin.growBy]; rw [if_pos (by omega)]; omega

theorem nextcap_le {need cap : Nat} (h : cap < need) : Builtin.nextslicecap need cap ≤ 2 * need + 192 := by
  unfold Builtin.nextslicecap
  split
  · omega
  · split
    · omega
    · exact growBy_le _ _ _ (by omega)

/-- What is appended: how many elements, which cells; in every world with this heap. -/
structure Appends (elem : TypeId) (i : TypeInfo) (d : TypeDesc) (x' : Value) (ρ : Rho) (n : Nat) (new : List Value) (w : World) : Prop where
  shape : (∃ k k', d = .int k' ∧ x' = .int k (Int.ofNat n) ∧ n ≤ 16777216) ∨ ((∀ k, d ≠ .int k) ∧ (Builtin.lenOf x').run P w = .ok n w)
  cells : ∃ new', VRs ρ new new' ∧ (∀ k, d = .int k → (if n * i.size = 0 then pure #[] else do pure (Builtin.zeroCells (← zeroValue elem).cells n) : Sem (Array Value)).run P w = .ok ⟨new'⟩ w) ∧
    ((∀ k, d ≠ .int k) → (Builtin.firstCells i.size n x').run P w = .ok ⟨new'⟩ w)

theorem aNew_run (hS : Sim G W ρ st w) {elem : TypeId} {i : TypeInfo} {d : TypeDesc} {x x' : Value} {n : Nat} {new : List Value} (hx : VR ρ x x') (h : aNew elem i d x st = some (n, new)) :
    Appends elem i d x' ρ n new w := by
  unfold aNew at h
  split at h
  · rename_i kd k m
    cases hx
    cases hb : Nat.ble m 16777216 with
    | false => rw [hb] at h; exact nn h
    | true =>
      rw [hb] at h
      simp only [cond_true] at h
      cases hzs : aZeros elem i.size m with
      | none => rw [hzs] at h; exact nn h
      | some zs =>
        rw [hzs] at h
        cases (Option.some.inj h)
        refine ⟨.inl ⟨k, kd, rfl, rfl, ble_le hb⟩, ?_⟩
        rcases aZeros_run (ρ := ρ) (w := w) hzs with ⟨h0, rfl⟩ | ⟨h0, z, hz, hq, hv, rfl⟩
        · exact ⟨[], .nil, fun _ _ => by rw [if_pos h0]; exact Sem.run_pure P w _, fun hn => absurd rfl (hn _)⟩
        · refine ⟨(Builtin.zeroCells z.cells n).toList, zeroCells_rel hv n, fun _ _ => ?_, fun hn => absurd rfl (hn _)⟩
          rw [if_neg h0, Sem.run_bind, hz]
          exact Sem.run_pure P w _
  · exact nn h
  · rename_i hne1 hne2
    cases hl : aLenOf x with
    | none => rw [hl] at h; exact nn h
    | some m =>
      rw [hl] at h
      simp only at h
      cases hs : aSource i.size m x st with
      | none => rw [hs] at h; exact nn h
      | some l =>
        rw [hs] at h
        cases (Option.some.inj h)
        obtain ⟨l', h1, h2⟩ := aSource_run hS hx hl (Nat.le_refl _) hs
        have hd : ∀ k, d ≠ .int k := fun k hk => hne1 k hk
        exact ⟨.inr ⟨hd, aLenOf_run hx hl w⟩, l', h2, fun k hk => absurd hk (hd k), fun _ => h1⟩


section
variable {t t' elem ty : TypeId} {d : TypeDesc} {i : TypeInfo} {z : Value} {x' : Value} {n : Nat} {new : List Value} {base : Option Addr} {sl sc : Nat}
  (hu : P.underlying t = some (.slice elem)) (hu' : P.underlying t' = some d) (hi : P.info? elem = some i) (hb : i.bytes ≤ 65536)
include hu hu' hi hb

theorem append_room (ha : Appends elem i d x' ρ n new w) (h : sl + n ≤ sc) : ∃ new', VRs ρ new new' ∧
    (Builtin.append_ ⟨[t, t']⟩ ty ⟨[.slice base sl sc, x']⟩).run P w = Sem.run P (do
      if let some a := base then storeCells (a.add (sl * i.size)) new'
      pure (.slice base (sl + n) sc)) w := by
  have e0 : (⟨[t, t']⟩ : Array TypeId)[0]? = some t := rfl
  have e1 : (⟨[t, t']⟩ : Array TypeId)[1]? = some t' := rfl
  have e2 : (⟨[.slice base sl sc, x']⟩ : Array Value)[0]? = some (.slice base sl sc) := rfl
  have e3 : (⟨[.slice base sl sc, x']⟩ : Array Value)[1]? = some x' := rfl
  have hsz : sizeIn elem = some i.size := by simp [sizeIn, hi]
  obtain ⟨new', hv, hc1, hc2⟩ := ha.cells
  refine ⟨new', hv, ?_⟩
  rcases ha.shape with ⟨k, k', rfl, rfl, hn⟩ | ⟨hd, hlen⟩
  · have hc1 := hc1 _ rfl
    simp only [Builtin.append_, e0, e1, e2, e3, Sem.run_bind, run_underlying hu, run_underlying hu', Result.andThen_ok, run_sizeOf hsz, Sem.run_pure, asInt, run_asIntOf, if_true, wrap_small n hn]
    rw [if_neg (by rw [Int.ofNat_eq_natCast]; omega)]
    simp only [Sem.run_bind, run_typeInfo hi, Result.andThen_ok]
    have hm := Nat.mul_le_mul hn hb
    rw [if_neg (by rw [Int.ofNat_eq_natCast, ← Int.natCast_mul]; omega)]
    simp only [Sem.run_bind, Sem.run_pure, Result.andThen_ok]
    have e4 : (Int.ofNat n).toNat = n := rfl
    rw [e4, if_pos h]
    simp only [Bool.not_true, Bool.false_eq_true, if_false, Sem.run_bind]
    rw [hc1]
    simp only [Result.andThen_ok]
    cases base <;> rfl
  · have hc2 := hc2 hd
    simp only [Builtin.append_, e0, e1, e2, e3, Sem.run_bind, run_underlying hu, run_underlying hu', Result.andThen_ok, run_sizeOf hsz, Sem.run_pure, Bool.false_eq_true, if_false, hlen]
    rw [if_pos h]
    simp only [Bool.not_false, if_true, Sem.run_bind, hc2, Result.andThen_ok]
    cases base <;> rfl

theorem append_grow {old' : List Value} (ha : Appends elem i d x' ρ n new w) (hd : Appends elem i d x' ρ n new { w with drawn := w.drawn + 1 }) (h : ¬ sl + n ≤ sc) (hs : sl + n ≤ 16777216)
    (hz : ∀ w, (zeroValue elem).run P w = .ok z w)
    (hold : (Builtin.firstCells i.size sl (.slice base sl sc)).run P { w with drawn := w.drawn + 1 } = .ok ⟨old'⟩ { w with drawn := w.drawn + 1 }) :
    ∃ new' cap, VRs ρ new new' ∧ sl + n ≤ cap ∧
    (Builtin.append_ ⟨[t, t']⟩ ty ⟨[.slice base sl sc, x']⟩).run P w =
      ((Go.newRow elem (⟨old'⟩ ++ ⟨new'⟩ ++ Builtin.zeroCells z.cells (cap - (sl + n)))).run P { w with drawn := w.drawn + 1 }).andThen fun a w => .ok (.slice (some a) (sl + n) cap) w := by
  have e0 : (⟨[t, t']⟩ : Array TypeId)[0]? = some t := rfl
  have e1 : (⟨[t, t']⟩ : Array TypeId)[1]? = some t' := rfl
  have e2 : (⟨[.slice base sl sc, x']⟩ : Array Value)[0]? = some (.slice base sl sc) := rfl
  have e3 : (⟨[.slice base sl sc, x']⟩ : Array Value)[1]? = some x' := rfl
  have hsz : sizeIn elem = some i.size := by simp [sizeIn, hi]
  obtain ⟨new', hv, hc1, hc2⟩ := hd.cells
  have hcap : Builtin.nextslicecap (sl + n) sc * i.bytes ≤ 2 ^ 48 := by
    have h1 := nextcap_le (need := sl + n) (cap := sc) (by omega)
    have h2 := Nat.mul_le_mul (show Builtin.nextslicecap (sl + n) sc ≤ 67108864 by omega) hb
    omega
  have hbig : ¬ (((sl + n : Nat) : Int) > IntKind.i64.max) := by
    have e : IntKind.i64.max = 9223372036854775807 := by decide
    rw [e]; omega
  refine ⟨new', (Question.appendCap (sl + n) sc elem).cut (w.tape w.drawn (.appendCap (sl + n) sc elem)), hv, Nat.le_add_right _ _, ?_⟩
  have hforced : ¬ ((Question.appendCap (sl + n) sc elem).forced = true) := by simp [Question.forced]
  rcases ha.shape with ⟨k, k', rfl, rfl, hn⟩ | ⟨hne, hlen⟩
  · have hc1 := hc1 _ rfl
    simp only [Builtin.append_, e0, e1, e2, e3, Sem.run_bind, run_underlying hu, run_underlying hu', Result.andThen_ok, run_sizeOf hsz, Sem.run_pure, asInt, run_asIntOf, if_true, wrap_small n hn]
    rw [if_neg (by rw [Int.ofNat_eq_natCast]; omega)]
    simp only [Sem.run_bind, run_typeInfo hi, Result.andThen_ok]
    have hm := Nat.mul_le_mul hn hb
    rw [if_neg (by rw [Int.ofNat_eq_natCast, ← Int.natCast_mul]; omega)]
    simp only [Sem.run_bind, Sem.run_pure, Result.andThen_ok]
    have e4 : (Int.ofNat n).toNat = n := rfl
    rw [e4, if_neg h]
    simp only [Sem.run_bind, run_typeInfo hi, Result.andThen_ok]
    rw [if_neg (fun hh => hbig hh.1)]
    simp only [Sem.run_bind, run_typeInfo hi, Result.andThen_ok]
    rw [if_neg (by omega)]
    simp only [Sem.run_bind, run_choose, run_typeInfo hi, Result.andThen_ok]
    rw [if_neg hforced]
    simp only [Bool.not_true, Bool.false_eq_true, if_false, run_askRoom, hold, hc1, hz, Result.andThen_ok, Sem.run_pure]
  · have hc2 := hc2 hne
    simp only [Builtin.append_, e0, e1, e2, e3, Sem.run_bind, run_underlying hu, run_underlying hu', Result.andThen_ok, run_sizeOf hsz, Sem.run_pure, Bool.false_eq_true, if_false, hlen]
    rw [if_neg h]
    simp only [Sem.run_bind, run_typeInfo hi, Result.andThen_ok]
    rw [if_neg (fun hh => hbig hh.1)]
    simp only [Sem.run_bind, run_typeInfo hi, Result.andThen_ok]
    rw [if_neg (by omega)]
    simp only [Sem.run_bind, run_choose, run_typeInfo hi, Result.andThen_ok]
    rw [if_neg hforced]
    simp only [Bool.not_false, if_true, run_askRoom, hold, hc2, hz, Result.andThen_ok, Sem.run_pure]
end


theorem storeCells_block {b off : Nat} {el : TypeId} {fr : Nat × Nat} : ∀ (vs : List Value) (i : Nat) (cs : Array Value) (w : World), w.heap[b]? = some (.cells cs el fr) → off + i + vs.length ≤ cs.size →
    (∀ j, j < cs.size → ¬ (fr.1 ≤ j ∧ j < fr.2)) → (∀ v ∈ vs, v.oneCell' = true) →
    (Go.storeCells ⟨b, off, none⟩ vs i).run P w = .ok () { w with heap := w.heap.setIfInBounds b (.cells ((vs.zipIdx i).foldl (fun (cs : Array Value) (p : Value × Nat) => cs.setIfInBounds (off + p.2) p.1) cs) el fr) } := by
  intro vs
  induction vs with
  | nil =>
    intro i cs w hb _ _ _
    have : w.heap.setIfInBounds b (.cells cs el fr) = w.heap := by
      apply Array.ext_getElem?
      intro j
      rw [Array.getElem?_setIfInBounds]
      by_cases hj : b = j
      · subst hj
        rw [if_pos rfl]
        split
        · exact hb.symm
        · rename_i hlt; rw [Array.getElem?_eq_none (by omega)] at hb; exact nn hb
      · rw [if_neg hj]
    simp only [Go.storeCells, List.zipIdx_nil, List.foldl_nil, this]
    exact Sem.run_pure P w ()
  | cons v vs ih =>
    intro i cs w hb hle hfr hone
    simp only [List.length_cons] at hle
    have hlt : off + i < cs.size := by omega
    have hbl : b < w.heap.size := by
      rcases Nat.lt_or_ge b w.heap.size with h' | h'
      · exact h'
      · rw [Array.getElem?_eq_none h'] at hb; exact nn hb
    have hc : w.cell? ⟨b, off + i, none⟩ = some cs[off + i] := by simp [World.cell?, hb, hlt]
    have hf : w.frozen? ⟨b, off + i, none⟩ = false := by
      simp only [World.frozen?, hb]
      have := hfr (off + i) hlt
      simpa using this
    have hset : w.setCell ⟨b, off + i, none⟩ v = { w with heap := w.heap.setIfInBounds b (.cells (cs.setIfInBounds (off + i) v) el fr) } := by
      simp only [World.setCell]
      rw [modify_eq _ hb]
      rfl
    rw [Go.storeCells, add_none, Sem.run_bind, run_store P w _ v .plain (hone v (by simp)), hc]
    simp only [hf, Bool.false_eq_true, if_false, Result.andThen_ok]
    rw [hset, ih (i + 1) (cs.setIfInBounds (off + i) v) _ (by simp [hbl]) (by simp only [Array.size_setIfInBounds]; omega) (by simpa using hfr) (fun x hx => hone x (by simp [hx]))]
    simp [List.zipIdx_cons]

/-- A block of the world's that no block of the evaluator's holds any more is taken by a new one. -/
theorem Sim.adopt (h : Sim G W ρ st w) {b sh sz u : Nat} {c : Tr Value} {o o' : Obj} (hfree : ∀ k a e, st.heap.get k = some a → ρ k = some e → e.b ≠ b) (hb : w.heap[b]? = some o) (hB : W.heap.size ≤ b)
    (hr : ObjR (ρ.set st.next ⟨b, sh, sz, u⟩) ⟨b, sh, sz, u⟩ (.cells false u c) o') :
    Sim G W (ρ.set st.next ⟨b, sh, sz, u⟩) (st.new (.cells false u c)) { w with heap := w.heap.setIfInBounds b o' } ∧ Ext ρ st (ρ.set st.next ⟨b, sh, sz, u⟩) (st.new (.cells false u c)) := by
  have hle : ρ.le (ρ.set st.next ⟨b, sh, sz, u⟩) := by
    intro k e he
    show (if k = st.next then _ else ρ k) = some e
    rw [if_neg (by rintro rfl; rw [h.fresh _ (Nat.le_refl _)] at he; cases he)]
    exact he
  have old : ∀ k e, k ≠ st.next → (ρ.set st.next ⟨b, sh, sz, u⟩) k = some e → ρ k = some e := by
    intro k e hk he
    rw [← he]; show _ = (if k = st.next then _ else ρ k); rw [if_neg hk]
  have new : ∀ e, (ρ.set st.next ⟨b, sh, sz, u⟩) st.next = some e → e = ⟨b, sh, sz, u⟩ := by
    intro e he; rw [Rho.set_same] at he; exact (Option.some.inj he).symm
  have hbl : b < w.heap.size := by
    rcases Nat.lt_or_ge b w.heap.size with h' | h'
    · exact h'
    · rw [Array.getElem?_eq_none h'] at hb; exact nn hb
  refine ⟨⟨h.below.trans ⟨rfl, rfl, rfl, by simp, fun i hi => by rw [Array.getElem?_setIfInBounds_ne (by omega)]⟩, ?_, Nat.le_succ_of_le h.low, ?_, ?_, ?_, ?_⟩, hle, Nat.le_succ _, ?_⟩
  · intro k hk
    simp only [St.new] at hk
    show (if k = st.next then _ else ρ k) = none
    rw [if_neg (by omega)]
    exact h.fresh k (by omega)
  · intro k e hk he
    have := h.low
    exact h.glob k e hk (old k e (by omega) he)
  · intro k a hk ha
    have := h.low
    simp only [St.new, Tr.get_set] at ha
    rw [if_neg (by omega)] at ha
    obtain ⟨e, he⟩ := h.globB k a hk ha
    exact ⟨e, hle _ _ he⟩
  · intro k a ha e he
    simp only [St.new, Tr.get_set] at ha
    by_cases hk : k = st.next
    · subst hk
      rw [if_pos rfl] at ha
      cases (Option.some.inj ha)
      cases new e he
      exact ⟨o', by simp [hbl], hr, fun _ => hB⟩
    · rw [if_neg hk] at ha
      have he' := old k e hk he
      obtain ⟨o1, h1, h2, h3⟩ := h.obj k a ha e he'
      exact ⟨o1, by rw [Array.getElem?_setIfInBounds_ne (Ne.symm (hfree k a e ha he'))]; exact h1, h2.mono hle, h3⟩
  · intro k k' a a' e e' ha ha' he he' hbb
    simp only [St.new, Tr.get_set] at ha ha'
    by_cases h1 : k = st.next <;> by_cases h2 : k' = st.next
    · rw [h1, h2]
    · exfalso
      subst h1
      rw [if_neg h2] at ha'
      cases new e he
      exact hfree k' a' e' ha' (old k' e' h2 he') hbb.symm
    · exfalso
      subst h2
      rw [if_neg h1] at ha
      cases new e' he'
      exact hfree k a e ha (old k e h1 he) hbb
    · rw [if_neg h1] at ha
      rw [if_neg h2] at ha'
      exact h.inj k k' a a' e e' ha ha' (old k e h1 he) (old k' e' h2 he') hbb
  · intro k hk hn
    exact ⟨by show (if k = st.next then _ else ρ k) = none; rw [if_neg (by omega)]; exact hn, by simp only [St.new, Tr.get_set]; rw [if_neg (by omega)]⟩

theorem oneCells_all : ∀ {l l' : List Value}, VRs ρ l l' → oneCells l = true → ∀ v ∈ l', v.oneCell' = true
  | _, _, .nil, _, v, hv => by cases hv
  | _, _, @VRs.cons _ x x' _ _ hx k, h, v, hv => by
    simp only [oneCells, Bool.and_eq_true] at h
    rcases List.mem_cons.1 hv with rfl | hv
    · exact hx.one (by cases x <;> first | rfl | exact h.1)
    · exact oneCells_all k h.2 v hv

theorem cellsFrom_length : ∀ {c : Tr Value} {n o : Nat} {l : List Value}, cellsFrom c o n = some l → l.length = n
  | c, 0, o, l, h => by cases (Option.some.inj h); rfl
  | c, n + 1, o, l, h => by
    simp only [cellsFrom] at h
    cases hv : c.get o with
    | none => rw [hv] at h; exact nn h
    | some v =>
      rw [hv] at h
      simp only at h
      cases hr : cellsFrom c (o + 1) n with
      | none => rw [hr] at h; exact nn h
      | some r =>
        rw [hr] at h
        cases (Option.some.inj h)
        simp [cellsFrom_length hr]

theorem cellsFrom_get : ∀ {c : Tr Value} {n o : Nat} {l : List Value}, cellsFrom c o n = some l → ∀ {i : Nat} {v : Value}, l[i]? = some v → c.get (o + i) = some v
  | c, 0, o, l, h, i, v, hv => by cases (Option.some.inj h); simp at hv
  | c, n + 1, o, l, h, i, v, hv => by
    simp only [cellsFrom] at h
    cases hx : c.get o with
    | none => rw [hx] at h; exact nn h
    | some x =>
      rw [hx] at h
      simp only at h
      cases hr : cellsFrom c (o + 1) n with
      | none => rw [hr] at h; exact nn h
      | some r =>
        rw [hr] at h
        cases (Option.some.inj h)
        cases i with
        | zero => simp at hv; rw [← hv]; exact hx
        | succ i =>
          have := cellsFrom_get hr (i := i) (v := v) (by simpa using hv)
          rw [← this]; congr 1; omega

theorem aAppend_run (hS : Sim G W ρ st w) {t t' ty : TypeId} {s s' x x' v : Value} {st' : St} (hs : VR ρ s s') (hx : VR ρ x x') (h : aAppend [t, t'] s x st = some (v, st')) :
    ∃ v' w' ρ', (Builtin.append_ ⟨[t, t']⟩ ty ⟨[s', x']⟩).run P w = .ok v' w' ∧ VR ρ' v v' ∧ Sim G W ρ' st' w' ∧ Ext ρ st ρ' st' := by
  unfold aAppend at h
  simp only at h
  split at h
  · rename_i elem d hu hu'
    split at h
    · rename_i i z hi hz
      cases hg : (Nat.ble i.bytes 65536 && Nat.blt 0 i.size && Nat.blt 0 i.bytes && Nat.beq z.cells.toList.length i.size) with
      | false => rw [hg] at h; exact nn h
      | true =>
        rw [hg] at h
        simp only [cond_true] at h
        simp only [Bool.and_eq_true] at hg
        obtain ⟨⟨⟨hb, hsz⟩, -⟩, hzl⟩ := hg
        have hb := ble_le hb
        have hsz : 0 < i.size := Nat.le_of_ble_eq_true hsz
        have hzl := Nat.eq_of_beq_eq_true hzl
        rw [Array.length_toList] at hzl
        have hzr : ∀ w, (zeroValue elem).run P w = .ok z w := fun w => (run_zero hz).1
        cases hn : aNew elem i d x st with
        | none => rw [hn] at h; exact nn h
        | some nn' =>
          obtain ⟨n, new⟩ := nn'
          rw [hn] at h
          simp only at h
          cases hlen : Nat.beq new.length (Nat.mul n i.size) with
          | false => rw [hlen] at h; exact nn h
          | true =>
            rw [hlen] at h
            simp only [cond_true] at h
            have hlen : new.length = n * i.size := Nat.eq_of_beq_eq_true hlen
            have ha := aNew_run hS hx hn
            have hd := aNew_run hS.drew hx hn
            -- a new block with all in it
            have grow : ∀ (st1 : St) (hS1 : Sim G W ρ st1 { w with drawn := w.drawn + 1 }) (old old' : List Value) (base : Option Addr) (sl sc : Nat), VRs ρ old old' → old.length = sl * i.size → ¬ sl + n ≤ sc → sl + n ≤ 16777216 →
                s' = .slice base sl sc → (Builtin.firstCells i.size sl (.slice base sl sc)).run P { w with drawn := w.drawn + 1 } = .ok ⟨old'⟩ { w with drawn := w.drawn + 1 } →
                v = .slice (some ⟨st1.next, 0, none⟩) (sl + n) (sl + n) → st' = st1.new (.cells false i.size (Tr.fill .nil 0 (old ++ new))) →
                ∃ v' w' ρ', (Builtin.append_ ⟨[t, t']⟩ ty ⟨[s', x']⟩).run P w = .ok v' w' ∧ VR ρ' v v' ∧ Sim G W ρ' st' w' ∧ Ext ρ st1 ρ' st' := by
              rintro st1 hS1 old old' base sl sc ho hol hgt hsm rfl hold rfl rfl
              obtain ⟨new', cap, hv, hcap, run⟩ := append_grow (ty := ty) hu hu' hi hb ha hd hgt hsm hzr hold
              have l1 := ho.length
              have l2 := hv.length
              have hzc : (Builtin.zeroCells z.cells (cap - (sl + n))).size = (cap - (sl + n)) * i.size := by simp [Builtin.zeroCells, hzl]
              have hsize : ((⟨old'⟩ : Array Value) ++ ⟨new'⟩ ++ Builtin.zeroCells z.cells (cap - (sl + n))).size = cap * i.size := by
                simp only [Array.size_append, hzc]
                show old'.length + new'.length + _ = _
                have e : sl * i.size + n * i.size + (cap - (sl + n)) * i.size = cap * i.size := by
                  rw [← Nat.add_mul, ← Nat.add_mul, Nat.add_sub_of_le hcap]
                rw [← l1, ← l2, hol, hlen]
                exact e
              have hr : TrR ρ (Tr.fill .nil 0 (old ++ new)) ((⟨old'⟩ : Array Value) ++ ⟨new'⟩ ++ Builtin.zeroCells z.cells (cap - (sl + n))) := .ofList fun j u hj => by
                obtain ⟨u', g1, g2⟩ := (ho.append hv).get hj
                refine ⟨u', ?_, g2⟩
                have hjl : j < (old' ++ new').length := by
                  rcases Nat.lt_or_ge j (old' ++ new').length with h' | h'
                  · exact h'
                  · rw [List.getElem?_eq_none h'] at g1; exact nn g1
                rw [Array.getElem?_append_left (by simpa using hjl)]
                simpa using g1
              obtain ⟨g1, g2, g3⟩ := hS1.newRow (u := i.size) (elem := elem) hr
              refine ⟨_, _, _, ?_, VR.slice (e := ⟨w.heap.size, 0, _, i.size⟩) 0 (sl + n) (sl + n) cap (Rho.set_same _ _ _) hcap (.inr (by simp only [Nat.zero_add]; exact hsize.symm)), g2, g3⟩
              rw [run, g1]
              simp only [Result.andThen_ok, Nat.add_zero]
            unfold aLay at h
            split at h
            · cases hs
              cases h0 : Nat.beq n 0 with
              | true =>
                rw [h0] at h
                cases (Option.some.inj h)
                cases Nat.eq_of_beq_eq_true h0
                obtain ⟨new', hv, run⟩ := append_room (ty := ty) (base := none) (sl := 0) (sc := 0) hu hu' hi hb ha (Nat.le_refl _)
                exact ⟨.slice none 0 0, w, ρ, by rw [run]; exact Sem.run_pure P w _, .nilSlice 0 0, hS, .refl _ _⟩
              | false =>
                rw [h0] at h
                simp only [cond_false] at h
                have h0 := Nat.ne_of_beq_eq_false h0
                cases hsm : Nat.ble n 16777216 with
                | false => rw [hsm] at h; exact nn h
                | true =>
                  rw [hsm] at h
                  have h : some (Value.slice (some ⟨st.next, 0, none⟩) n n, st.new (.cells false i.size (Tr.fill .nil 0 new))) = some (v, st') := h
                  injection h with h
                  injection h with h1 h2
                  exact grow st hS.drew [] [] none 0 0 .nil (by simp) (by omega) (by rw [Nat.zero_add]; exact ble_le hsm) rfl (Sem.run_pure P _ _) (by rw [Nat.zero_add]; exact h1.symm) (by rw [List.nil_append]; exact h2.symm)
            · rename_i k o len cap
              obtain ⟨e, ad, c', he, rfl, hcc, hz', had⟩ : ∃ e ad c', ρ k = some e ∧ s' = .slice (some ⟨e.b, ad, none⟩) len c' ∧ cap ≤ c' ∧ (c' = cap ∨ ad + c' * e.u = e.sz) ∧ (ad = o + e.sh ∨ (len = 0 ∧ cap = 0)) := by
                cases hs with
                | @slice _ e _ _ _ c' he hc hz => exact ⟨e, _, c', he, rfl, hc, hz, .inl rfl⟩
                | @slice0 _ e _ o' c' he hz => exact ⟨e, o', c', he, rfl, Nat.zero_le _, hz.imp id id, .inr ⟨rfl, rfl⟩⟩
              cases hroom : Nat.ble (len + n) cap with
              | true =>
                rw [hroom] at h
                simp only [cond_true] at h
                have hroom := ble_le hroom
                obtain ⟨new', hv, run⟩ := append_room (ty := ty) (base := some ⟨e.b, ad, none⟩) (sl := len) (sc := c') hu hu' hi hb ha (Nat.le_trans hroom hcc)
                cases h0 : Nat.beq n 0 with
                | true =>
                  rw [h0] at h
                  cases (Option.some.inj h)
                  cases Nat.eq_of_beq_eq_true h0
                  have hnil : new = [] := List.length_eq_zero_iff.1 (by rw [hlen, Nat.zero_mul])
                  subst hnil
                  cases hv
                  exact ⟨.slice (some ⟨e.b, ad, none⟩) len c', w, ρ, by rw [run]; exact Sem.run_pure P w _, hs, hS, .refl _ _⟩
                | false =>
                  rw [h0] at h
                  simp only [cond_false] at h
                  have h0 := Nat.ne_of_beq_eq_false h0
                  have had : ad = o + e.sh := by omega
                  subst had
                  split at h
                  · rename_i u c hk
                    cases hp : putCells c (o + len * i.size) new with
                    | none => rw [hp] at h; exact nn h
                    | some c2 =>
                      rw [hp] at h
                      cases (Option.some.inj h)
                      obtain ⟨w', g1, g2⟩ := Sim.storeCells (P := P) he (o + len * i.size) new new' 0 c c2 st w hS hk (by simpa using hp) hv
                      refine ⟨.slice (some ⟨e.b, o + e.sh, none⟩) (len + n) c', w', ρ, ?_, .slice _ _ _ _ he hcc hz', g2, .put he _⟩
                      rw [run]
                      simp only [add_none, Sem.run_bind]
                      rw [show o + e.sh + len * i.size = o + len * i.size + e.sh by omega, g1]
                      exact Sem.run_pure P w' _
                  · exact nn h
              | false =>
                rw [hroom] at h
                simp only [cond_false] at h
                have hroom : ¬ len + n ≤ cap := fun hh => by rw [Nat.ble_eq_true_of_le hh] at hroom; cases hroom
                cases hsm : (Nat.ble (len + n) 16777216 && oneCells new) with
                | false => rw [hsm] at h; exact nn h
                | true =>
                  rw [hsm] at h
                  simp only [cond_true] at h
                  rw [Bool.and_eq_true] at hsm
                  have hone := hsm.2
                  have hsm := ble_le hsm.1
                  split at h
                  · rename_i u c hk
                    cases hus : Nat.beq u i.size with
                    | false => rw [hus] at h; exact nn h
                    | true =>
                      rw [hus] at h
                      simp only [cond_true] at h
                      cases Nat.eq_of_beq_eq_true hus
                      cases hold : cellsFrom c o (len * i.size) with
                      | none => rw [hold] at h; exact nn h
                      | some old =>
                        rw [hold] at h
                        have h : some (Value.slice (some ⟨st.next, 0, none⟩) (len + n) (len + n), (St.mk (st.heap.set k none) st.next).new (.cells false i.size (Tr.fill .nil 0 (old ++ new)))) = some (v, st') := h
                        injection h with h
                        injection h with h1 h2
                        subst h1
                        subst h2
                        by_cases hin : len + n ≤ c'
                        · obtain ⟨new', hv, run⟩ := append_room (ty := ty) (base := some ⟨e.b, ad, none⟩) (sl := len) (sc := c') hu hu' hi hb ha hin
                          obtain ⟨ob, ho, hr, hB⟩ := hS.obj k _ hk e he
                          cases ob <;> try exact hr.elim
                          rename_i cs el fr
                          obtain ⟨r1, r2, r3, r4⟩ := hr
                          have r3 := r3 rfl
                          have hzz : ad + c' * i.size = e.sz := by
                            rw [r1]
                            rcases hz' with hz' | hz'
                            · omega
                            · exact hz'
                          have l2 := hv.length
                          have hmul : len * i.size + n * i.size ≤ c' * i.size := by rw [← Nat.add_mul]; exact Nat.mul_le_mul_right _ hin
                          have hbound : ad + len * i.size + 0 + new'.length ≤ cs.size := by rw [r2, ← hzz, ← l2, hlen]; omega
                          have hst := storeCells_block (off := ad + len * i.size) new' 0 cs w ho hbound r3 (oneCells_all hv hone)
                          have lay := lay_get new' cs (ad + len * i.size) 0 hbound
                          generalize hcs : (new'.zipIdx 0).foldl (fun (cs : Array Value) (p : Value × Nat) => cs.setIfInBounds (ad + len * i.size + p.2) p.1) cs = cs2 at lay hst
                          have hle : ρ.le (ρ.set st.next ⟨e.b, ad, e.sz, i.size⟩) := by
                            intro q f hf
                            show (if q = st.next then _ else ρ q) = some f
                            rw [if_neg (by rintro rfl; rw [hS.fresh _ (Nat.le_refl _)] at hf; cases hf)]
                            exact hf
                          have hol := cellsFrom_length hold
                          obtain ⟨g1, g2⟩ := (hS.kill k).adopt (b := e.b) (sh := ad) (sz := e.sz) (u := i.size) (c := Tr.fill .nil 0 (old ++ new)) (o' := .cells cs2 el fr)
                            (fun q a f hq hf hbb => by
                              rw [Tr.get_set] at hq
                              split at hq
                              · exact nn hq
                              · rename_i hne
                                exact hne (hS.inj q k a _ f e hq hk hf he hbb)) ho (hB rfl)
                            ⟨rfl, by rw [lay.1]; exact r2, fun _ j hj => r3 j (by rw [lay.1] at hj; exact hj), fun j y hy => by
                              rw [Tr.get_fill] at hy
                              split at hy
                              · rename_i hj
                                rw [Nat.sub_zero, List.getElem?_append] at hy
                                show ∃ v', cs2[j + ad]? = some v' ∧ _
                                rw [lay.2]
                                split at hy
                                · rename_i hjo
                                  rw [hol] at hjo
                                  rw [if_neg (by omega)]
                                  rcases had with rfl | ⟨rfl, rfl⟩
                                  · obtain ⟨y', k1, k2⟩ := r4 (o + j) y (cellsFrom_get hold hy)
                                    exact ⟨y', by rw [show j + (o + e.sh) = o + j + e.sh by omega]; exact k1, k2.mono hle⟩
                                  · rw [Nat.zero_mul] at hjo; omega
                                · rename_i hjo
                                  rw [hol] at hjo hy
                                  obtain ⟨y', k1, k2⟩ := hv.get hy
                                  have hjl : j - len * i.size < new'.length := by
                                    rcases Nat.lt_or_ge (j - len * i.size) new'.length with h' | h'
                                    · exact h'
                                    · rw [List.getElem?_eq_none h'] at k1; exact nn k1
                                  rw [if_pos (by omega)]
                                  exact ⟨y', by rw [show j + ad - (ad + len * i.size) - 0 = j - len * i.size by omega]; exact k1, k2.mono hle⟩
                              · rw [Tr.get_nil] at hy; exact nn hy⟩
                          refine ⟨.slice (some ⟨e.b, ad, none⟩) (len + n) c', _, _, ?_, ?_, g1, (Ext.kill he).trans g2⟩
                          · rw [run]
                            simp only [add_none, Sem.run_bind]
                            rw [hst]
                            exact Sem.run_pure P _ _
                          · have := VR.slice (ρ := ρ.set st.next ⟨e.b, ad, e.sz, i.size⟩) (e := ⟨e.b, ad, e.sz, i.size⟩) 0 (len + n) (len + n) c' (Rho.set_same _ _ _) hin (.inr (by simp only [Nat.zero_add]; exact hzz))
                            simpa using this
                        · obtain ⟨old', g1, g2⟩ : ∃ old', (Builtin.firstCells i.size len (.slice (some ⟨e.b, ad, none⟩) len c')).run P { w with drawn := w.drawn + 1 } = .ok ⟨old'⟩ { w with drawn := w.drawn + 1 } ∧ VRs ρ old old' := by
                            rcases had with rfl | ⟨rfl, rfl⟩
                            · exact hS.drew.loadCells (P := P) hk he hold
                            · rw [Nat.zero_mul] at hold
                              cases (Option.some.inj hold)
                              exact ⟨[], by simp [Builtin.firstCells, loadCells, loadCellsFrom], .nil⟩
                          obtain ⟨v', w', ρ', a1, a2, a3, a4⟩ := grow ⟨st.heap.set k none, st.next⟩ (hS.drew.kill k) old old' _ len c' g2 (cellsFrom_length hold) hin hsm rfl g1 rfl rfl
                          exact ⟨v', w', ρ', a1, a2, a3, (Ext.kill he).trans a4⟩
                  · exact nn h
            · exact nn h
    · exact nn h
  · exact nn h

end
end Go.Proofs.YthojmgjgmbnopaaGreatDoor
/- The evaluator is sound: an operation. -/
namespace Go.Proofs.YthojmgjgmbnopaaGreatDoor
open Go Go.RowKit

/-- What the evaluator says an operation comes to, and the model. -/
def NextR (ρ : Rho) : ANext → Next → Prop
  | .value v, .value v' => VR ρ v v'
  | .value v, .skip => v = undef
  | .enter f vs, .enter g args => g = f ∧ VRs ρ vs args.toList ∧ hasBody f = true
  | .defer f vs, .defer d => (∃ cap, d.target = .fn (.func f) cap ∧ VRs ρ vs (d.args ++ cap).toList) ∧ hasBody f = true
  | _, _ => False

/-- The functions without a body do what is said of them. -/
def XOk (X : Ext0) : Prop := ∀ f g vs v, X f = some g → g vs = some v → ∀ (ρ : Rho) (vs' : List Value) (w : World), VRs ρ vs vs' → ∃ v', (callFunc f ⟨vs'⟩).run P w = .ok (.value v') w ∧ VR ρ v v'

theorem hasBody_spec {f : FuncId} (h : hasBody f = true) : ∃ fn c, P.funcs[f]? = some fn ∧ fn.body = some c ∧ ∀ (args : Array Value) (w : World), (callFunc f args).run P w = .ok (.enter f args) w := by
  unfold hasBody at h
  cases hf : P.funcs[f]? with
  | none => rw [hf] at h; cases h
  | some fn =>
    rw [hf] at h
    simp only at h
    cases hb : fn.body with
    | none => rw [hb] at h; cases h
    | some c =>
      rw [hb] at h
      simp only [Bool.not_eq_true'] at h
      refine ⟨fn, c, rfl, hb, fun args w => ?_⟩
      unfold callFunc
      simp only [Sem.run_bind, run_program, Result.andThen_ok, hf, h, hb, Option.isNone_some, Bool.false_eq_true, if_false, Sem.run_pure]

section
variable {G : Nat} {W : World} {ρ : Rho} {st : St} {w : World}

theorem aMethod_run {t : TypeId} {name : String} {f : FuncId} (h : aMethod t name = some f) (v : Value) (args : Array Value) :
    (callMethod (.iface t v) name args).run P w = (callFunc f (#[v] ++ args)).run P w := by
  unfold aMethod at h
  cases hi : P.info? t with
  | none => rw [hi] at h; exact nn h
  | some i =>
    rw [hi] at h
    simp only at h
    split at h
    · rename_i nm sig g p hm
      rw [Array.find?_toList] at hm
      have hdepth : ∃ k, P.types.size + Made.depth = k + 1 := Nat.exists_eq_succ_of_ne_zero (Nat.ne_of_gt (Nat.add_pos_right _ (show 0 < Made.depth by decide)))
      obtain ⟨k, hk⟩ := hdepth
      have run : (method (P.types.size + Made.depth) t v name).run P w = ((receiverAt t (.val v) p (some ((name.splitOn ".").getLastD name))).run P w).andThen fun r w => .ok (g, r) w := by
        rw [hk, method]
        simp only [Sem.run_bind, run_typeInfo hi, Result.andThen_ok, hm, follow, Sem.run_pure]
        rfl
      have fin : (receiverAt t (.val v) p (some ((name.splitOn ".").getLastD name))).run P w = .ok v w → g = f → (callMethod (.iface t v) name args).run P w = (callFunc f (#[v] ++ args)).run P w := by
        rintro hr rfl
        simp only [callMethod, Sem.run_bind, run_program, Result.andThen_ok, run, hr]
      split at h
      · rename_i el hu
        refine fin ?_ (Option.some.inj h)
        simp only [receiverAt, Sem.run_bind, run_underlying hu, Result.andThen_ok, Place.get, Sem.run_pure]
      · exact nn h
      · rename_i d hne1 hne2 hu
        refine fin ?_ (Option.some.inj h)
        simp only [receiverAt, Sem.run_bind, run_underlying hu, Result.andThen_ok]
        cases d <;> first | exact Sem.run_pure P w v | exact absurd rfl (hne1 _) | exact absurd rfl (hne2 _)
      · exact nn h
    · exact nn h

theorem extract_tail (x : Value) (l : List Value) : ((⟨x :: l⟩ : Array Value).extract 1 (⟨x :: l⟩ : Array Value).size) = ⟨l⟩ := by
  apply Array.ext'
  rw [Array.toList_extract]
  simp [List.extract_eq_take_drop]

theorem aTarget_run {c : Callee} {ev : Ev} {f : Operand → Value} {args : Array Operand} {ats : Array TypeId} {ty : TypeId} {g : FuncId} {vs : List Value}
    (hev : ∀ x ∈ (Call.mk c args ats).operands, ∀ v, ev x = some v → VR ρ v (f x)) (h : aTarget c ev args.toList = some (g, vs)) :
    ∃ vs', VRs ρ vs vs' ∧ (do let d ← resolve f ⟨c, args, ats⟩ ty; invoke d.target d.args : Sem Next).run P w = (callFunc g ⟨vs'⟩).run P w ∧
      (∀ x, c = .value x → ∃ d cap, (resolve f ⟨c, args, ats⟩ ty).run P w = .ok d w ∧ d.target = .fn (.func g) cap ∧ (d.args ++ cap).toList = vs') := by
  have hargs : ∀ vs, evalAll ev args.toList = some vs → VRs ρ vs (args.toList.map f) := fun vs hv => evalAll_rel (fun x hx => hev x (by simp [Call.operands]; exact .inr (by simpa using hx))) hv
  cases c with
  | builtin b => exact nn h
  | value x =>
    have hx := hev x (by simp [Call.operands])
    have key : ∀ (a b vs0 : List Value), ev x = some (.func (.func g) ⟨a⟩ ⟨b⟩) → evalAll ev args.toList = some vs0 → vs = a ++ vs0 ++ b → ∃ vs', VRs ρ vs vs' ∧
        (do let d ← resolve f ⟨.value x, args, ats⟩ ty; invoke d.target d.args : Sem Next).run P w = (callFunc g ⟨vs'⟩).run P w ∧
        (∀ y, Callee.value x = .value y → ∃ d cap, (resolve f ⟨.value x, args, ats⟩ ty).run P w = .ok d w ∧ d.target = .fn (.func g) cap ∧ (d.args ++ cap).toList = vs') := by
      rintro a b vs0 hfx hv rfl
      have hr := hx _ hfx
      have h1 := hargs _ hv
      cases hf : f x <;> rw [hf] at hr <;> cases hr
      rename_i a' b' ha hb
      refine ⟨a' ++ args.toList.map f ++ b', (ha.append h1).append hb, ?_, fun y hy => ?_⟩
      · simp only [resolve, hf, Deferred.ofValue, Sem.run_bind, Sem.run_pure, Result.andThen_ok, invoke]
        congr 2
        rw [map_arr]
        simp
      · refine ⟨_, ⟨b'⟩, by simp only [resolve, hf, Deferred.ofValue]; exact Sem.run_pure P w _, rfl, ?_⟩
        rw [map_arr]
        simp
    have h : (match ev x with
      | some (.func (.func f) ⟨[]⟩ ⟨[]⟩) => (evalAll ev args.toList).bind fun vs => some (f, vs)
      | some (.func (.func f) ⟨a⟩ ⟨b⟩) => (evalAll ev args.toList).bind fun vs => some (f, a ++ vs ++ b)
      | _ => none) = some (g, vs) := h
    split at h
    · rename_i g' hfx
      obtain ⟨vs0, h1, h2⟩ := bind_some h
      cases (Option.some.inj h2)
      exact key [] [] vs hfx h1 (by simp)
    · rename_i g' a b _ hfx
      obtain ⟨vs0, h1, h2⟩ := bind_some h
      have h2 := Option.some.inj h2
      injection h2 with h3 h4
      subst h3
      exact key a b vs0 hfx h1 h4.symm
    · exact nn h
  | invoke r name =>
    have hx := hev r (by simp [Call.operands])
    have h : (match ev r with
      | some (.iface t v) => (evalAll ev args.toList).bind fun vs => (aMethod t name).bind fun f => some (f, v :: vs)
      | _ => none) = some (g, vs) := h
    split at h
    · rename_i t v hfx
      obtain ⟨vs0, h1, h2⟩ := bind_some h
      obtain ⟨g', h3, h4⟩ := bind_some h2
      cases (Option.some.inj h4)
      have hr := hx _ hfx
      have h1 := hargs _ h1
      cases hf : f r <;> rw [hf] at hr <;> cases hr
      rename_i v' hv
      refine ⟨v' :: args.toList.map f, .cons hv h1, ?_, fun y hy => by cases hy⟩
      simp only [resolve, hf, Sem.run_bind, Sem.run_pure, Result.andThen_ok, invoke]
      have e1 : (#[Value.iface t v'] ++ args.map f) = ⟨.iface t v' :: args.toList.map f⟩ := by rw [map_arr]; simp
      rw [e1]
      have e2 := extract_tail (.iface t v') (args.toList.map f)
      have e3 : (⟨v' :: args.toList.map f⟩ : Array Value) = #[v'] ++ ⟨args.toList.map f⟩ := by simp
      rw [e3, ← aMethod_run h3 v' ⟨args.toList.map f⟩, ← e2]
      rfl
    · exact nn h


/-- What a step gives: the model's result, alike; the worlds stay alike. -/
def EGoes (G : Nat) (W : World) (P : Program) (ρ : Rho) (st : St) (w : World) (s : Sem Next) (r : ANext) (st' : St) : Prop :=
  ∃ r' w' ρ', s.run P w = .ok r' w' ∧ NextR ρ' r r' ∧ Sim G W ρ' st' w' ∧ Ext ρ st ρ' st'

theorem EGoes.value {s : Sem Value} {v : Value} {st' : St} (h : ∃ v' w' ρ', s.run P w = .ok v' w' ∧ VR ρ' v v' ∧ Sim G W ρ' st' w' ∧ Ext ρ st ρ' st') :
    EGoes G W P ρ st w (do pure (.value (← s))) (.value v) st' := by
  obtain ⟨v', w', ρ', h1, h2, h3, h4⟩ := h
  exact ⟨.value v', w', ρ', by rw [Sem.run_bind, h1]; exact Sem.run_pure P w' _, h2, h3, h4⟩

theorem EGoes.skip {s : Sem Unit} {st' : St} (h : ∃ w', s.run P w = .ok () w' ∧ Sim G W ρ st' w' ∧ Ext ρ st ρ st') :
    EGoes G W P ρ st w (do s; pure .skip) (.value undef) st' := by
  obtain ⟨w', h1, h2, h3⟩ := h
  exact ⟨.skip, w', ρ, by rw [Sem.run_bind, h1]; exact Sem.run_pure P w' _, rfl, h2, h3⟩

theorem asValue_some {o : Option (Value × St)} {r : ANext} {st' : St} (h : asValue o = some (r, st')) : ∃ v, o = some (v, st') ∧ r = .value v := by
  rcases o with _ | ⟨v, st1⟩
  · exact nn h
  · have h := Option.some.inj (show some (ANext.value v, st1) = some (r, st') from h)
    injection h with h1 h2
    exact ⟨v, by rw [h2], h1.symm⟩
theorem asSkip_some {o : Option St} {r : ANext} {st' : St} (h : asSkip o = some (r, st')) : o = some st' ∧ r = .value undef := by
  rcases o with _ | st1
  · exact nn h
  · have h := Option.some.inj (show some (ANext.value undef, st1) = some (r, st') from h)
    injection h with h1 h2
    exact ⟨by rw [h2], h1.symm⟩
theorem asNone_some {o : Option St} {r : ANext} {st' : St} (h : asNone o = some (r, st')) : o = some st' ∧ r = .value (.tuple ⟨[]⟩) := by
  rcases o with _ | st1
  · exact nn h
  · have h := Option.some.inj (show some (ANext.value (.tuple ⟨[]⟩), st1) = some (r, st') from h)
    injection h with h1 h2
    exact ⟨by rw [h2], h1.symm⟩

theorem aDo_run (hS : Sim G W ρ st w) {b : Builtin} {vs vs' : List Value} {ats : List TypeId} {ty : TypeId} {cs : Array Bool} {r : ANext} {st' : St} (hv : VRs ρ vs vs') (h : aDo b vs ats st = some (r, st')) :
    EGoes G W P ρ st w (builtin b ⟨ats⟩ ty cs ⟨vs'⟩) r st' := by
  unfold aDo at h
  split at h
  · obtain ⟨v, h1, rfl⟩ := asValue_some h
    cases hv with
    | cons hs hv => cases hv with
      | cons hx hv =>
        cases hv
        exact EGoes.value (aAppend_run hS hs hx h1)
  · obtain ⟨v, h1, rfl⟩ := asValue_some h
    cases hv with
    | cons hd hv => cases hv with
      | cons hs hv =>
        cases hv
        obtain ⟨w', g1, g2, g3, g4⟩ := aCopy_run (ty := ty) hS hd hs h1
        exact EGoes.value ⟨v, w', ρ, g1, g2, g3, g4⟩
  · split at h
    · rename_i hu
      obtain ⟨h1, rfl⟩ := asNone_some h
      cases hv with
      | cons hx hv =>
        cases hv
        obtain ⟨w', g1, g2, g3⟩ := aClear_run (ty := ty) hS hu hx h1
        exact EGoes.value ⟨.tuple #[], w', ρ, g1, .tuple .nil, g2, g3⟩
    · exact nn h
  · obtain ⟨h1, rfl⟩ := asNone_some h
    cases hv with
    | cons hm hv => cases hv with
      | cons hk hv =>
        cases hv
        obtain ⟨w', g1, g2, g3⟩ := aDelete_run (ty := ty) hS hm hk h1
        exact EGoes.value ⟨.tuple #[], w', ρ, g1, .tuple .nil, g2, g3⟩
  · exact nn h

theorem aCall_run {X : Ext0} (hX : XOk X) (hS : Sim G W ρ st w) {c : Callee} {ev : Ev} {f : Operand → Value} {args : Array Operand} {ats : Array TypeId} {ty : TypeId} {r : ANext} {st' : St}
    (hev : ∀ x ∈ (Call.mk c args ats).operands, ∀ v, ev x = some v → VR ρ v (f x)) (h : aCall X (aTarget c ev args.toList) st = some (r, st')) :
    EGoes G W P ρ st w (do let d ← resolve f ⟨c, args, ats⟩ ty; invoke d.target d.args) r st' := by
  cases ht : aTarget c ev args.toList with
  | none => rw [ht] at h; exact nn h
  | some gv =>
    obtain ⟨g, vs⟩ := gv
    rw [ht] at h
    obtain ⟨vs', h1, h2, -⟩ := aTarget_run (w := w) (ty := ty) hev ht
    have h : (bif hasBody g then some (ANext.enter g vs, st) else aCallOut (X g) vs st) = some (r, st') := h
    cases hb : hasBody g with
    | true =>
      rw [hb] at h
      obtain ⟨fn, c0, _, _, h3⟩ := hasBody_spec hb
      cases (Option.some.inj h)
      exact ⟨.enter g ⟨vs'⟩, w, ρ, by rw [h2, h3], ⟨rfl, h1, hb⟩, hS, .refl _ _⟩
    | false =>
      rw [hb] at h
      have h : aCallOut (X g) vs st = some (r, st') := h
      cases hx : X g with
      | none => rw [hx] at h; exact nn h
      | some q =>
        rw [hx] at h
        have h : (match q vs with | some v => some (ANext.value v, st) | none => none) = some (r, st') := h
        cases hq : q vs with
        | none => rw [hq] at h; exact nn h
        | some v =>
          rw [hq] at h
          cases (Option.some.inj h)
          obtain ⟨v', h3, h4⟩ := hX g q vs v hx hq ρ vs' w h1
          exact ⟨.value v', w, ρ, by rw [h2, h3], h4, hS, .refl _ _⟩

/-- The operations that do something. -/
theorem aAct_sound {X : Ext0} (hX : XOk X) (hS : Sim G W ρ st w) {o : Oper} {ev : Ev} {f : Operand → Value} {r : ANext} {st' : St} (hev : ∀ x ∈ o.op.operands, ∀ v, ev x = some v → VR ρ v (f x))
    (h : aAct o.op X ev st = some (r, st')) : EGoes G W P ρ st w (execOp f o) r st' := by
  obtain ⟨dst, op, ty, pos, after, guard⟩ := o
  cases op with
  | assign x =>
    obtain ⟨v, h1, h2⟩ := bind_some h
    cases (Option.some.inj h2)
    exact ⟨.value (f x), w, ρ, Sem.run_pure P w _, hev x (by simp [Op.operands]) v h1, hS, .refl _ _⟩
  | alloc t =>
    obtain ⟨v, h1, rfl⟩ := asValue_some (show asValue (aAlloc t st) = some (r, st') from h)
    exact EGoes.value (aAlloc_run hS h1)
  | box t x =>
    obtain ⟨u, h1, h2⟩ := bind_some h
    obtain ⟨v, h3, rfl⟩ := asValue_some h2
    exact EGoes.value (aBox_run hS (hev x (by simp [Op.operands]) u h1) h3)
  | buildSlice t n ps =>
    obtain ⟨l, h1, h2⟩ := bind_some h
    obtain ⟨v, h3, rfl⟩ := asValue_some h2
    have := evalParts_rel (ρ := ρ) (f := f) (fun x hx => hev x (by simpa [Op.operands] using hx)) h1
    have e : (ps.map fun (i, x) => (i, f x)) = (ps.toList.map fun p => (p.1, f p.2)).toArray := by cases ps; simp
    refine EGoes.value ?_
    rw [e]
    exact aBuildSlice_run hS this h3
  | store t a x =>
    obtain ⟨p, v, h1, h2, h3⟩ := two_some h
    obtain ⟨h4, rfl⟩ := asSkip_some h3
    exact EGoes.skip (aStore_run hS (hev a (by simp [Op.operands]) p h1) (hev x (by simp [Op.operands]) v h2) h4)
  | convert s d x =>
    obtain ⟨u, h1, h2⟩ := bind_some h
    obtain ⟨v, h3, rfl⟩ := asValue_some h2
    exact EGoes.value (aBytes_run hS (hev x (by simp [Op.operands]) u h1) h3)
  | makeMap t rsv =>
    cases rsv with
    | some x => exact nn h
    | none =>
      have h : some (ANext.value (.map (some st.next)), st.new (.map [] 0)) = some (r, st') := h
      cases (Option.some.inj h)
      obtain ⟨g1, g2⟩ := hS.new (a := .map [] 0) (o := .map #[] 0) (sz := 0) (u := 0) ⟨.nil, rfl⟩
      refine EGoes.value ⟨.map (some w.heap.size), _, _, ?_, VR.map (e := ⟨w.heap.size, 0, 0, 0⟩) (Rho.set_same ρ st.next _), g1, g2⟩
      simp only [Instr.makeMap, Option.map_none, Sem.run_bind, run_newObj, Result.andThen_ok, Sem.run_pure]
  | makeSlice t l c =>
    obtain ⟨x, y, h1, h2, h3⟩ := two_some h
    obtain ⟨v, h4, rfl⟩ := asValue_some h3
    exact EGoes.value (aMakeSlice_run hS (hev l (by simp [Op.operands]) x h1) (hev c (by simp [Op.operands]) y h2) h4)
  | mapUpdate t m k x =>
    obtain ⟨mv, kv, h1, h2, h3⟩ := two_some h
    obtain ⟨v, h4, h5⟩ := bind_some h3
    obtain ⟨h6, rfl⟩ := asSkip_some h5
    exact EGoes.skip (aMapUpdate_run hS (hev m (by simp [Op.operands]) mv h1) (hev k (by simp [Op.operands]) kv h2) (hev x (by simp [Op.operands]) v h4) h6)
  | insert t m k x =>
    obtain ⟨mv, kv, h1, h2, h3⟩ := two_some h
    obtain ⟨v, h4, h5⟩ := bind_some h3
    obtain ⟨h6, rfl⟩ := asSkip_some h5
    exact EGoes.skip (aMapUpdate_run hS (hev m (by simp [Op.operands]) mv h1) (hev k (by simp [Op.operands]) kv h2) (hev x (by simp [Op.operands]) v h4) h6)
  | range t x =>
    obtain ⟨u, h1, h2⟩ := bind_some h
    obtain ⟨v, h3, rfl⟩ := asValue_some h2
    exact EGoes.value (aRange_run hS (hev x (by simp [Op.operands]) u h1) h3)
  | next x s =>
    obtain ⟨u, h1, h2⟩ := bind_some h
    obtain ⟨v, h3, rfl⟩ := asValue_some h2
    exact EGoes.value (aNext_run hS (hev x (by simp [Op.operands]) u h1) h3)
  | defer c =>
    obtain ⟨callee, args, ats⟩ := c
    cases callee with
    | builtin b => exact nn h
    | invoke x m => exact nn h
    | value x =>
      have h : aDefer (aTarget (.value x) ev args.toList) st = some (r, st') := h
      cases ht : aTarget (.value x) ev args.toList with
      | none => rw [ht] at h; exact nn h
      | some gv =>
        obtain ⟨g, vs⟩ := gv
        rw [ht] at h
        have h : (bif hasBody g then some (ANext.defer g vs, st) else none) = some (r, st') := h
        cases hb : hasBody g with
        | false => rw [hb] at h; exact nn h
        | true =>
          rw [hb] at h
          cases (Option.some.inj h)
          obtain ⟨vs', h1, -, h2⟩ := aTarget_run (w := w) (ty := ty) (ats := ats) (fun y hy => hev y (by simpa [Op.operands] using hy)) ht
          obtain ⟨d, cap, h3, h4, h5⟩ := h2 x rfl
          refine ⟨.defer d, w, ρ, ?_, ⟨⟨cap, h4, by rw [h5]; exact h1⟩, hb⟩, hS, .refl _ _⟩
          simp only [execOp, Sem.run_bind, h3, Result.andThen_ok, Sem.run_pure]
  | call c =>
    obtain ⟨callee, args, ats⟩ := c
    have hev' : ∀ x ∈ (Call.mk callee args ats).operands, ∀ v, ev x = some v → VR ρ v (f x) := fun y hy => hev y (by simpa [Op.operands] using hy)
    cases callee with
    | builtin b =>
      obtain ⟨vs, h1, h2⟩ := bind_some h
      have hv := evalAll_rel (ρ := ρ) (f := f) (fun x hx => hev' x (by simp [Call.operands]; simpa using hx)) h1
      have := aDo_run (ty := ty) (cs := args.map fun | .const _ => true | _ => false) hS hv h2
      obtain ⟨r', w', ρ', g1, g2, g3, g4⟩ := this
      refine ⟨r', w', ρ', ?_, g2, g3, g4⟩
      simp only [execOp, resolve, Sem.run_bind, Sem.run_pure, Result.andThen_ok, invoke]
      rw [map_arr f args]
      exact g1
    | value x => exact aCall_run hX hS hev' h
    | invoke x m => exact aCall_run hX hS hev' h
  | _ => exact nn h

/-- AN OPERATION: what the evaluator says of it is so. -/
theorem aOp_sound {X : Ext0} (hX : XOk X) (hS : Sim G W ρ st w) {o : Oper} {ev : Ev} {f : Operand → Value} {r : ANext} {st' : St} (hev : ∀ x ∈ o.op.operands, ∀ v, ev x = some v → VR ρ v (f x))
    (h : aOp o.op X ev st = some (r, st')) : EGoes G W P ρ st w (execOp f o) r st' := by
  have h : aOpOr (aRead o.op ev st) o.op X ev st = some (r, st') := h
  cases hr : aRead o.op ev st with
  | none => rw [hr] at h; exact aAct_sound hX hS hev h
  | some v =>
    rw [hr] at h
    have h : some (ANext.value v, st) = some (r, st') := h
    cases (Option.some.inj h)
    obtain ⟨v', h1, h2⟩ := aRead_sound hS hev hr
    exact ⟨.value v', w, ρ, h1, h2, hS, .refl _ _⟩

end
end Go.Proofs.YthojmgjgmbnopaaGreatDoor
/- The evaluator is sound: operations in a frame. -/
namespace Go.Proofs.YthojmgjgmbnopaaGreatDoor
open Go Go.RowKit

/-- A deferred call, and the model's. -/
def DefR (ρ : Rho) (x : FuncId × List Value) (d : Deferred) : Prop := (∃ cap, d.target = .fn (.func x.1) cap ∧ VRs ρ x.2 (d.args ++ cap).toList) ∧ hasBody x.1 = true

inductive DefsR (ρ : Rho) : List (FuncId × List Value) → List Deferred → Prop
  | nil : DefsR ρ [] []
  | cons {x : FuncId × List Value} {d : Deferred} {l : List (FuncId × List Value)} {l' : List Deferred} (h : DefR ρ x d) (k : DefsR ρ l l') : DefsR ρ (x :: l) (d :: l')

theorem DefsR.mono {ρ ρ' : Rho} (h : ρ.le ρ') : ∀ {l : List (FuncId × List Value)} {l' : List Deferred}, DefsR ρ l l' → DefsR ρ' l l'
  | _, _, .nil => .nil
  | _, _, .cons ⟨⟨cap, a, b⟩, c⟩ k => .cons ⟨⟨cap, a, b.mono h⟩, c⟩ (k.mono h)

/-- A temporary is as the evaluator has it. -/
def TmR (ρ : Rho) (tm : Tr Value) (a : Act) (t : Tmp) : Prop := ∀ v, tm.get t = some v → ∃ v', a.tmps[t]? = some v' ∧ VR ρ v v'

structure FrR (n : Nat) (ρ : Rho) (s : EFr) (a : Act) : Prop where
  size : a.tmps.size = n
  tm : ∀ t, TmR ρ s.tm a t
  df : DefsR ρ s.df a.defers

theorem TmR.mono {ρ ρ' : Rho} (h : ρ.le ρ') {tm : Tr Value} {a : Act} {t : Tmp} (k : TmR ρ tm a t) : TmR ρ' tm a t :=
  fun v hv => let ⟨v', x, y⟩ := k v hv; ⟨v', x, y.mono h⟩

theorem FrR.mono {n : Nat} {ρ ρ' : Rho} (h : ρ.le ρ') {s : EFr} {a : Act} (k : FrR n ρ s a) : FrR n ρ' s a :=
  ⟨k.size, fun t => (k.tm t).mono h, k.df.mono h⟩

/-- What a call comes to. -/
def Gives (G : Nat) (W : World) (ρ : Rho) (st : St) (v : Value) (st' : St) (e : Ending) (w' : World) : Prop :=
  ∃ v' ρ', e = .returned v' ∧ VR ρ' v v' ∧ Sim G W ρ' st' w' ∧ Ext ρ st ρ' st'

def CallOk (G : Nat) (W : World) (call : ACall) : Prop := ∀ f vs st v st', call f vs st = some (v, st') → ∀ ρ w vs', Sim G W ρ st w → VRs ρ vs vs' → Calls P f ⟨vs'⟩ w (Gives G W ρ st v st')

section
variable {G : Nat} {W : World} {ρ : Rho} {w : World}

theorem flatQ_self {v : Value} (h : flatQ v = true) : VR ρ v v := by
  cases v <;> first | exact .int _ _ | exact .bool _ | exact .string _ | exact flat_self h

theorem aEval_sound {st : St} (hS : Sim G W ρ st w) {tm : Tr Value} {a : Act} {x : Operand} {v : Value} (ht : ∀ t, x = .tmp t → TmR ρ tm a t) (h : aEval x G st tm = some v) : VR ρ v (a.eval x) := by
  cases x with
  | tmp t =>
    obtain ⟨v', h1, h2⟩ := ht t rfl v h
    have : a.eval (.tmp t) = v' := by simp [Act.eval, Array.getD_eq_getD_getElem?, h1]
    rw [this]
    exact h2
  | const c =>
    have h : asConst (flatQ c) c = some v := h
    cases hf : flatQ c with
    | false => rw [hf] at h; exact nn h
    | true => rw [hf] at h; cases (Option.some.inj (show some c = some v from h)); exact flatQ_self hf
  | global g =>
    have h : asGlobal (st.heap.get g) G g = some v := h
    cases hg : st.heap.get g with
    | none => rw [hg] at h; exact nn h
    | some o =>
      rw [hg] at h
      have h : (bif Nat.ble (Nat.succ g) G then some (Value.pointer (some ⟨g, 0, none⟩)) else none) = some v := h
      cases hb : Nat.ble (Nat.succ g) G with
      | false => rw [hb] at h; exact nn h
      | true =>
        rw [hb] at h
        cases (Option.some.inj h)
        have hlt : g < G := ble_le hb
        obtain ⟨e, he⟩ := hS.globB g o hlt hg
        obtain ⟨h1, h2⟩ := hS.glob g e hlt he
        have := VR.ptr (ρ := ρ) 0 he
        rw [h1, h2] at this
        exact this
  | func f => cases (Option.some.inj (show some (Value.func (.func f) ⟨[]⟩ ⟨[]⟩) = some v from h)); exact .func _ .nil .nil

theorem aWanted_sound {ops : Array Oper} {tm : Tr Value} {a : Act} {o : Oper} {b : Bool} (ht : ∀ j want d, o.guard = some (j, want) → (ops[j]?).bind (·.dst) = some d → TmR ρ tm a d) (h : aWanted o.guard ops tm = some b) :
    Region.wanted o (yielded ops a.tmps) = b := by
  unfold Region.wanted
  cases hg : o.guard with
  | none => rw [hg] at h; exact Option.some.inj h
  | some g =>
    obtain ⟨j, want⟩ := g
    rw [hg] at h
    have h : (match (ops[j]?).bind (·.dst) with | none => some false | some d => asWanted (tm.get d) want) = some b := h
    show (yielded ops a.tmps j == some want) = b
    cases hd : (ops[j]?).bind (·.dst) with
    | none =>
      rw [hd] at h
      cases (Option.some.inj h)
      unfold yielded
      rw [hd]
      rfl
    | some d =>
      rw [hd] at h
      have h : asWanted (tm.get d) want = some b := h
      cases hv : tm.get d with
      | none => rw [hv] at h; exact nn h
      | some v =>
        obtain ⟨v', h1, h2⟩ := ht j want d hg hd v hv
        rw [hv] at h
        unfold yielded
        rw [hd]
        simp only [Option.bind_some, h1]
        cases h2 <;> first
          | (cases (Option.some.inj h); rfl)

theorem aPut_sound {n : Nat} {dst : Option Tmp} {tm tm' : Tr Value} {a : Act} {v v' : Value} (hs : a.tmps.size = n) (hv : VR ρ v v') (h : aPut dst n tm v = some tm') :
    (a.put dst v').tmps.size = n ∧ (a.put dst v').defers = a.defers ∧ (∀ t, dst = some t → TmR ρ tm' (a.put dst v') t) ∧ (∀ t, dst ≠ some t → (tm'.get t = tm.get t ∧ (a.put dst v').tmps[t]? = a.tmps[t]?)) := by
  cases dst with
  | none =>
    cases (Option.some.inj (show some tm = some tm' from h))
    exact ⟨hs, rfl, fun t ht => (by cases ht), fun t _ => ⟨rfl, rfl⟩⟩
  | some d =>
    have h : (bif Nat.ble (Nat.succ d) n then some (tm.set d (some v)) else none) = some tm' := h
    cases hb : Nat.ble (Nat.succ d) n with
    | false => rw [hb] at h; exact nn h
    | true =>
      rw [hb] at h
      cases (Option.some.inj h)
      have hlt : d < n := ble_le hb
      refine ⟨by simp [Act.put, hs], rfl, fun t ht => ?_, fun t ht => ?_⟩
      · cases (Option.some.inj ht)
        intro u hu
        rw [Tr.get_set, if_pos rfl] at hu
        cases (Option.some.inj hu)
        exact ⟨v', by simp [Act.put, hs, hlt], hv⟩
      · have hne : d ≠ t := fun hh => ht (by rw [hh])
        exact ⟨by rw [Tr.get_set, if_neg (Ne.symm hne)], by simp only [Act.put]; rw [Array.getElem?_setIfInBounds_ne hne]⟩

theorem asFr_some {t : Option (Tr Value)} {df : List (FuncId × List Value)} {st : St} {s : EFr} (h : asFr t df st = some s) : ∃ tm, t = some tm ∧ s = ⟨tm, df, st⟩ := by
  cases t with
  | none => exact nn h
  | some tm => exact ⟨tm, rfl, (Option.some.inj (show some (EFr.mk tm df st) = some s from h)).symm⟩

/-- The temporaries that count, behind a put: those of a set S are alike. -/
theorem put_keeps {n : Nat} {dst : Option Tmp} {tm tm' : Tr Value} {a : Act} {v v' : Value} (hs : a.tmps.size = n) (hv : VR ρ v v') (h : aPut dst n tm v = some tm') {t : Tmp} (ht : dst ≠ some t → TmR ρ tm a t) :
    TmR ρ tm' (a.put dst v') t := by
  obtain ⟨-, -, h1, h2⟩ := aPut_sound hs hv h
  by_cases hd : dst = some t
  · exact h1 t hd
  · intro u hu
    rw [(h2 t hd).1] at hu
    rw [(h2 t hd).2]
    exact ht hd u hu

end

section
variable {G : Nat} {W : World} {ops : Array Oper} {Q : Exit → Act → World → Prop}

/-- AN OPERATION IN A FRAME. Of the temporaries those must be alike that it looks at; behind it, those are alike that were, and its own. -/
theorem aOne_sound {E : En} (hX : XOk E.X) (hC : CallOk G W E.call) (hG : E.G = G) {i : Nat} {o : Oper} (ho : ops[i]? = some o) {s s' : EFr} {a : Act} {w : World} {ρ : Rho} (hsz : a.tmps.size = E.n) (hdf : DefsR ρ s.df a.defers)
    (hS : Sim G W ρ s.st w) (ht : ∀ t ∈ Oper.looksAt ops o, TmR ρ s.tm a t) (h : aOne E ops o s = some s') {K : Act → World → Prop}
    (hK : ∀ a' w' ρ', a'.tmps.size = E.n → DefsR ρ' s'.df a'.defers → Sim G W ρ' s'.st w' → Ext ρ s.st ρ' s'.st → (∀ t, (o.dst ≠ some t → TmR ρ s.tm a t) → TmR ρ' s'.tm a' t) →
      (∀ t, o.dst ≠ some t → a'.tmps[t]? = a.tmps[t]? ∧ s'.tm.get t = s.tm.get t) → K a' w') : wpOp P ops Q i K a w := by
  have hops : ∀ x ∈ o.op.operands, ∀ t, x = .tmp t → t ∈ Oper.looksAt ops o := by
    rintro x hx t rfl
    simp only [Oper.looksAt, List.mem_append, List.mem_filterMap]
    exact .inl ⟨.tmp t, by simpa using hx, rfl⟩
  have hguard : ∀ j want d, o.guard = some (j, want) → (ops[j]?).bind (·.dst) = some d → TmR ρ s.tm a d := by
    intro j want d hg hd
    refine ht d ?_
    simp only [Oper.looksAt, List.mem_append, hg, hd]
    exact .inr (by simp)
  have h : aGo (aWanted o.guard ops s.tm) E o s = some s' := h
  unfold wpOp
  rw [ho]
  simp only
  cases hw : aWanted o.guard ops s.tm with
  | none => rw [hw] at h; exact nn h
  | some b =>
    have hwant := aWanted_sound (o := o) hguard hw
    rw [hw] at h
    cases b with
    | false =>
      rw [hwant]
      simp only [Bool.false_eq_true, if_false]
      obtain ⟨tm, h1, rfl⟩ := asFr_some (show asFr (aPut o.dst E.n s.tm undef) s.df s.st = some s' from h)
      have hv : VR ρ undef undef := .tuple .nil
      obtain ⟨p1, p2, p3, p4⟩ := aPut_sound hsz hv h1
      exact hK _ _ ρ p1 (by rw [p2]; exact hdf) hS (.refl _ _) (fun t ht => put_keeps hsz hv h1 ht) (fun t ht => ⟨(p4 t ht).2, (p4 t ht).1⟩)
    | true =>
      rw [hwant]
      simp only [if_true]
      left
      have h : aBehind (aOp o.op E.X (s.ev E.G) s.st) E o.dst s = some s' := h
      cases hr : aOp o.op E.X (s.ev E.G) s.st with
      | none => rw [hr] at h; exact nn h
      | some rr =>
        obtain ⟨r, st'⟩ := rr
        rw [hr] at h
        have hev : ∀ x ∈ o.op.operands, ∀ v, s.ev E.G x = some v → VR ρ v (a.eval x) := fun x hx v hv =>
          aEval_sound hS (fun t htt => ht t (hops x hx t htt)) (by rw [← hG]; exact hv)
        obtain ⟨r', w', ρ', g1, g2, g3, g4⟩ := aOp_sound hX hS hev hr
        unfold Oper.wp
        rw [g1]
        have value : ∀ v v', VR ρ' v v' → asFr (aPut o.dst E.n s.tm v) s.df st' = some s' → K (a.put o.dst v') w' := by
          intro v v' hv hfr
          obtain ⟨tm, h1, rfl⟩ := asFr_some hfr
          obtain ⟨p1, p2, p3, p4⟩ := aPut_sound hsz hv h1
          exact hK _ _ ρ' p1 (by rw [p2]; exact hdf.mono g4.le) g3 g4 (fun t ht => put_keeps hsz hv h1 fun hd => (ht hd).mono g4.le) (fun t ht => ⟨(p4 t ht).2, (p4 t ht).1⟩)
        cases r with
        | value v =>
          have h : asFr (aPut o.dst E.n s.tm v) s.df st' = some s' := h
          cases r' <;> first | exact g2.elim | skip
          · exact value v _ g2 h
          · have g2 : v = undef := g2
            subst g2
            exact value undef undef (.tuple .nil) h
        | enter f vs =>
          cases r' <;> first | exact g2.elim | skip
          rename_i g args
          obtain ⟨rfl, hvs, hb⟩ := g2
          have h : aBack (E.call g vs st') E o.dst s = some s' := h
          cases hc : E.call g vs st' with
          | none => rw [hc] at h; exact nn h
          | some vr =>
            obtain ⟨v, st2⟩ := vr
            rw [hc] at h
            have h : asFr (aPut o.dst E.n s.tm v) s.df st2 = some s' := h
            have hcalls := hC g vs st' v st2 hc ρ' w' args.toList g3 hvs
            rw [Oper.upon_enter]
            refine Calls.mono hcalls ?_
            rintro e w2 ⟨v', ρ2, rfl, k1, k2, k3⟩
            obtain ⟨tm, h1, rfl⟩ := asFr_some h
            obtain ⟨p1, p2, p3, p4⟩ := aPut_sound hsz k1 h1
            have hext := g4.trans k3
            exact hK _ _ ρ2 p1 (by rw [p2]; exact hdf.mono hext.le) k2 hext (fun t ht => put_keeps hsz k1 h1 fun hd => (ht hd).mono hext.le) (fun t ht => ⟨(p4 t ht).2, (p4 t ht).1⟩)
        | defer f vs =>
          cases r' <;> first | exact g2.elim | skip
          rename_i d
          have h : asFr (aPut o.dst E.n s.tm undef) ((f, vs) :: s.df) st' = some s' := h
          obtain ⟨tm, h1, rfl⟩ := asFr_some h
          have hv : VR ρ' undef undef := .tuple .nil
          have hsz' : ({ a with defers := d :: a.defers } : Act).tmps.size = E.n := hsz
          obtain ⟨p1, p2, p3, p4⟩ := aPut_sound (a := { a with defers := d :: a.defers }) hsz' hv h1
          rw [Oper.upon_defer]
          exact hK _ _ ρ' p1 (by rw [p2]; exact .cons g2 (hdf.mono g4.le)) g3 g4 (fun t ht => put_keeps (a := { a with defers := d :: a.defers }) hsz' hv h1 fun hd => (ht hd).mono g4.le) (fun t ht => ⟨(p4 t ht).2, (p4 t ht).1⟩)

/-- A region in its order. -/
theorem evOps_sound {E : En} (hX : XOk E.X) (hC : CallOk G W E.call) (hG : E.G = G) : ∀ (l : List Oper) (k : Nat) (s s' : EFr) (a : Act) (w : World) (ρ : Rho), ops.toList.drop k = l → FrR E.n ρ s a → Sim G W ρ s.st w → evOps l E ops s = some s' →
    (∀ a' w' ρ', FrR E.n ρ' s' a' → Sim G W ρ' s'.st w' → Ext ρ s.st ρ' s'.st → Q .normal a' w') → wpOps P ops Q (List.range' k l.length) a w
  | [], k, s, s', a, w, ρ, _, hF, hS, h, hQ => by
    cases (Option.some.inj (show some s = some s' from h))
    exact hQ a w ρ hF hS (.refl _ _)
  | o :: l, k, s, s', a, w, ρ, hd, hF, hS, h, hQ => by
    have ho : ops[k]? = some o := by
      have : (ops.toList.drop k)[0]? = some o := by rw [hd]; rfl
      rw [List.getElem?_drop] at this
      simpa using this
    have hd' : ops.toList.drop (k + 1) = l := by
      have := congrArg (List.drop 1) hd
      rw [List.drop_drop] at this
      simpa [Nat.add_comm] using this
    have h : evNext (aOne E ops o s) (evOps l) E ops = some s' := h
    rw [List.length_cons, List.range'_succ, wpOps_cons]
    cases h1 : aOne E ops o s with
    | none => rw [h1] at h; exact nn h
    | some s1 =>
      rw [h1] at h
      have h : evOps l E ops s1 = some s' := h
      refine aOne_sound hX hC hG ho hF.size hF.df hS (fun t _ => hF.tm t) h1 fun a1 w1 ρ1 k1 k2 k3 k4 k5 k6 => ?_
      exact evOps_sound hX hC hG l (k + 1) s1 s' a1 w1 ρ1 hd' ⟨k1, fun t => k5 t fun _ => hF.tm t, k2⟩ k3 h fun a2 w2 ρ2 m1 m2 m3 => hQ a2 w2 ρ2 m1 m2 (k4.trans m3)

end
end Go.Proofs.YthojmgjgmbnopaaGreatDoor
