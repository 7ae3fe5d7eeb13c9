/- Rows of any size of element: cells stored into them, copied, cleared; slices cut from them. No program is named. -/
import Derived.Test.YtcgecgilkapjaaaGreatDoorXA
import Derived.Laws.IdiomCopy
import Derived.Lib.AppendZeros
import Derived.Deep.RegionLaw
import Derived.Deep.DrawnRows
import Derived.Shelf.Abstract
import Derived.Test.YtcgecgilkapjaaaGreatDoorXB
import Derived.Deep.QuietTactic
import Derived.BigQuiet
import Derived.StillTailTactics
import Derived.Deep.AppendSrc
import Derived.Deep.RegionHeldLaw
import Derived.Lib.Overlaps
import Derived.Laws.Externs
namespace Go.Proofs.YtcgecgilkapjaaaGreatDoor
open Go Go.RowKit
/-- A list with vs laid from place k on. -/
def laidAt (cs : List Value) (k : Nat) (vs : List Value) : List Value := cs.take k ++ vs ++ cs.drop (k + vs.length)
theorem laidAt_len {cs vs : List Value} {k : Nat} (h : k + vs.length ≤ cs.length) : (laidAt cs k vs).length = cs.length := by
  unfold laidAt; simp; omega
theorem laidAt_take {cs vs : List Value} {k n : Nat} (h : n = k + vs.length) (h2 : n ≤ cs.length) : (laidAt cs k vs).take n = cs.take k ++ vs := by
  unfold laidAt
  rw [List.take_left' (by simp; omega)]
theorem laidAt_take_lo {cs vs : List Value} {k n : Nat} (h : n ≤ k) (h2 : k ≤ cs.length) : (laidAt cs k vs).take n = cs.take n := by
  unfold laidAt
  rw [List.append_assoc, List.take_append_of_le_length (by simp; omega), List.take_take, Nat.min_eq_left h]
theorem Blk.setCells {o : Roles} {w : World} {r : List Nat} {g : Nat} {cs : List Value} {T : TypeId} (h : Blk o w r g cs.toArray T) (k : Nat) (vs : List Value) (hk : k + vs.length ≤ cs.length) : Blk o (w.setCells g k vs) r g (laidAt cs k vs).toArray T := by
  refine ⟨?_, h.role⟩
  rw [heap_setCells_at g T (0, 0) vs k w cs.toArray h.heap]
  congr 2
  apply Array.ext'
  apply List.ext_getElem?
  intro j
  have hg := setMany_get vs cs.toArray k (by simpa using hk) j
  rw [Array.getElem?_toList, hg, List.toList_toArray]
  unfold laidAt
  by_cases h1 : j < k
  · rw [if_pos h1, List.append_assoc, List.getElem?_append_left (by simp; omega), List.getElem?_take, if_pos h1]; simp
  · rw [if_neg h1]
    by_cases h2 : j < k + vs.length
    · rw [if_pos h2, List.getElem?_append_left (by simp; omega), List.getElem?_append_right (by simp; omega)]
      congr 1; simp; omega
    · rw [if_neg h2, List.getElem?_append_right (by simp; omega), List.getElem?_drop]
      have e : (cs.take k ++ vs).length = k + vs.length := by simp; omega
      rw [e, show k + vs.length + (j - (k + vs.length)) = j by omega]; simp
theorem Blk.row {o : Roles} {w : World} {r : List Nat} {e : TypeId} {sz g n cap : Nat} {cs : List Value} (h : Blk o w r g cs.toArray e) (hc : cs.length = cap * sz) (hn : n ≤ cap) (hm : cap ≤ maxLen) : Row o w r e sz (.slice (some ⟨g, 0, none⟩) n cap) n (cs.take (n * sz)) := by
  have hl : n * sz ≤ cap * sz := Nat.mul_le_mul_right _ hn
  refine ⟨⟨by rw [List.length_take, hc]; exact Nat.min_eq_left hl, .inr ⟨g, cap, cs.toArray, rfl, Nat.zero_le _, h.heap, hn, hm, by simpa using hc, by simp⟩⟩, fun k hk => ?_⟩
  simp only [Value.ownBlock, Option.some.injEq] at hk
  subst hk; exact h.role
theorem Row.blk {o : Roles} {w : World} {r : List Nat} {e : TypeId} {sz g n cap : Nat} {xs : List Value} (h : Row o w r e sz (.slice (some ⟨g, 0, none⟩) n cap) n xs) : ∃ cs : List Value, Blk o w r g cs.toArray e ∧ cs.length = cap * sz ∧ n ≤ cap ∧ cap ≤ maxLen ∧ cs.take (n * sz) = xs := by
  rcases h.form with ⟨h1, _⟩ | ⟨g', cap', cur, h1, hb, h3, h4, h5, h6⟩
  · cases h1
  · injection h1 with e1 _ e3
    injection e1 with e1
    injection e1 with e1 _ _
    subst e1 e3
    exact ⟨cur.toList, by simpa using hb, by simpa using h5, h3, h4, h6⟩
theorem Row.some_form {o : Roles} {w : World} {r : List Nat} {e : TypeId} {sz n : Nat} {v : Value} {xs : List Value} (h : Row o w r e sz v n xs) (hn : 0 < n) : ∃ g cap, v = .slice (some ⟨g, 0, none⟩) n cap ∧ n ≤ cap := by
  rcases h.form with ⟨_, h2, _⟩ | ⟨g, cap, cur, h1, hb, h3, _⟩
  · omega
  · exact ⟨g, cap, h1, h3⟩
section
variable {P : Program} {o : Roles} {w : World} {r : List Nat} {g : Nat} {cs : List Value} {T : TypeId}
theorem Blk.store (h : Blk o w r g cs.toArray T) (k : Nat) (vs : List Value) (hk : k + vs.length ≤ cs.length) (h1 : ∀ v ∈ vs, v.oneCell' = true) : (storeCells ⟨g, k, none⟩ vs 0).run P w = .ok () (w.setCells g k vs) := by
  have := run_storeCells_cells (P := P) g k vs 0 w (fun j hj => by rw [h.cell]; simp; omega) (fun j hj => h.free _) h1
  simpa using this
/-- copy into a row. -/
theorem run_copy_into (h : Blk o w r g cs.toArray T) {dT sT elem : TypeId} {i : TypeInfo} (hu : P.underlying dT = some (.slice elem)) (hi : P.info? elem = some i) (ty : TypeId) (k dLen dCap : Nat) {x : Value} {m : Nat} {news : List Value} (hs : Src P i.size sT x m news w) (hm : m ≤ dLen) (hk : k + news.length ≤ cs.length) :
    (Builtin.copy_ #[dT, sT] ty #[.slice (some ⟨g, k, none⟩) dLen dCap, x]).run P w = .ok (goInt m) (w.setCells g k news) := by
  have hst := h.store (P := P) k news hk hs.one
  have hmin : Nat.min m dLen = m := Nat.min_eq_left hm
  simp [Builtin.copy_, run_underlying hu, sizeOf, typeInfo, hi, hs.len, hmin, hs.cells, hst]
/-- copy of nothing into an empty slice. -/
theorem run_copy_zero {dT sT elem : TypeId} {i : TypeInfo} (hu : P.underlying dT = some (.slice elem)) (hi : P.info? elem = some i) (ty : TypeId) (d : Option Addr) (dLen dCap : Nat) {x : Value} (hs : Src P i.size sT x 0 [] w) :
    (Builtin.copy_ #[dT, sT] ty #[.slice d dLen dCap, x]).run P w = .ok (goInt 0) w := by
  have hmin : Nat.min 0 dLen = 0 := Nat.zero_min _
  cases d <;> simp [Builtin.copy_, run_underlying hu, sizeOf, typeInfo, hi, hs.len, hmin, hs.cells, storeCells]
/-- clear of a part of a row. -/
theorem run_clear_part (h : Blk o w r g cs.toArray T) {t elem : TypeId} (hu : P.underlying t = some (.slice elem)) {z : Value} (hz : ∀ w, (zeroValue elem).run P w = .ok z w) (ty : TypeId) (k n c : Nat) (hn : 0 < n) (hk : k + (Builtin.zeroCells z.cells n).toList.length ≤ cs.length)
    (h1 : ∀ v ∈ (Builtin.zeroCells z.cells n).toList, v.oneCell' = true) :
    (Builtin.clear_ #[t] ty #[.slice (some ⟨g, k, none⟩) n c]).run P w = .ok (.tuple #[]) (w.setCells g k (Builtin.zeroCells z.cells n).toList) := by
  have hst := h.store (P := P) k _ hk h1
  obtain ⟨m, rfl⟩ : ∃ m, n = m + 1 := ⟨n - 1, by omega⟩
  simp [Builtin.clear_, run_underlying hu, hz, hst]
/-- append of so many zeros, where there is no room: a new row. -/
theorem run_append_zeros_grow (t tn ty e : TypeId) (i : TypeInfo) (z : Value) (k kn : IntKind) (ht : P.underlying t = some (.slice e)) (htn : P.underlying tn = some (.int kn)) (hi : P.info? e = some i) (hz : i.zero = some z) (w : World)
    (base : Option Addr) (sLen sCap n : Nat) (olds : List Value) (hold : (Builtin.firstCells i.size sLen (.slice base sLen sCap)).run P w.drew = .ok olds.toArray w.drew)
    (hs : 0 < i.size) (h0 : 0 < n) (hg : sCap < sLen + n) (h63 : sLen + n ≤ 9223372036854775807) (hfit : Builtin.nextslicecap (sLen + n) sCap * i.bytes ≤ 281474976710656) (hfit2 : n * i.bytes ≤ 281474976710656) :
    (Builtin.append_ #[t, tn] ty #[.slice base sLen sCap, .int k n]).run P w =
      .ok (.slice (some ⟨w.heap.size, 0, none⟩) (sLen + n) (grownCap w (sLen + n) sCap e))
        (w.drew.alloc (.cells (olds.toArray ++ Builtin.zeroCells z.cells n ++ Builtin.zeroCells z.cells (grownCap w (sLen + n) sCap e - (sLen + n))) e)) := by
  have hn : ¬ (sLen + n ≤ sCap) := by omega
  have hw : IntKind.i64.wrap (n : Int) = n := by rw [IntKind.wrap_i64]; omega
  have hneg : ¬ ((n : Int) < 0) := by omega
  have h48' : ¬ (281474976710656 < Builtin.nextslicecap (sLen + n) sCap * i.bytes) := by omega
  have h48i : ¬ (281474976710656 < (n : Int) * (i.bytes : Int)) := by rw [← Int.natCast_mul]; omega
  have h63' : ¬ (9223372036854775807 < ((sLen : Int) + (n : Int))) := by omega
  have hns : ¬ (n * i.size = 0) := Nat.mul_ne_zero (by omega) (by omega)
  simp [Builtin.append_, run_underlying ht, run_underlying htn, sizeOf, typeInfo, zeroValue, hi, hz, asInt, asIntOf, hw, hneg, hn, hns, h63', h48', h48i, Question.forced, hold, newRow, grownCap]
/-- Slices cut from a row. -/
theorem cut_head {t e : TypeId} {i : TypeInfo} (ht : P.underlying t = some (.slice e)) (hi : P.info? e = some i) (a : Option Addr) (n cap hi' : Nat) (h1 : hi' ≤ cap) (I : Int) (hI : I = hi') (W : World) :
    (Instr.slice t (.slice a n cap) none (some (.int .i64 I)) none).run P W = .ok (.slice a hi' cap) W := by
  subst hI
  simp [Instr.slice, run_underlying ht, Instr.sliceBounds, Instr.sliceBound, asIntOf, sizeOf, typeInfo, hi]
  rw [if_pos (by omega)]
  cases a <;> simp [Addr.add]
theorem cut_tail {t e : TypeId} {i : TypeInfo} (ht : P.underlying t = some (.slice e)) (hi : P.info? e = some i) (g n cap lo : Nat) (h1 : lo ≤ n) (I : Int) (hI : I = lo) :
    ∃ a, (∀ W, (Instr.slice t (.slice (some ⟨g, 0, none⟩) n cap) (some (.int .i64 I)) none none).run P W = .ok (.slice a (n - lo) (cap - lo)) W) ∧ (lo < cap → a = some ⟨g, lo * i.size, none⟩) := by
  subst hI
  refine ⟨if cap = lo then some ⟨g, 0, none⟩ else some ⟨g, lo * i.size, none⟩, fun W => ?_, fun h => by rw [if_neg (by omega)]⟩
  by_cases hc : cap = lo <;> simp [Instr.slice, run_underlying ht, Instr.sliceBounds, Instr.sliceBound, asIntOf, sizeOf, typeInfo, hi, addr_add, hc, h1]
theorem cut_mid {t e : TypeId} {i : TypeInfo} (ht : P.underlying t = some (.slice e)) (hi : P.info? e = some i) (g n cap lo hi' : Nat) (h1 : lo ≤ hi') (h2 : hi' ≤ cap) (I J : Int) (hI : I = lo) (hJ : J = hi') :
    ∃ a, (∀ W, (Instr.slice t (.slice (some ⟨g, 0, none⟩) n cap) (some (.int .i64 I)) (some (.int .i64 J)) none).run P W = .ok (.slice a (hi' - lo) (cap - lo)) W) ∧ (lo < cap → a = some ⟨g, lo * i.size, none⟩) := by
  subst hI hJ
  refine ⟨if cap = lo then some ⟨g, 0, none⟩ else some ⟨g, lo * i.size, none⟩, fun W => ?_, fun h => by rw [if_neg (by omega)]⟩
  have h3 : ¬ cap < hi' := by omega
  by_cases hc : cap = lo
  · have h4 : ¬ lo < hi' := by omega
    simp [Instr.slice, run_underlying ht, Instr.sliceBounds, Instr.sliceBound, asIntOf, sizeOf, typeInfo, hi, hc, h1, h4]
  · simp [Instr.slice, run_underlying ht, Instr.sliceBounds, Instr.sliceBound, asIntOf, sizeOf, typeInfo, hi, addr_add, hc, h1, h2]
end
/-- The walk: append, copy, clear whose run is known. -/
theorem wpList_builtin2 {P : Program} {ops : Array Oper} {rest : List Oper} {op : Oper} {a : Act} {Q : Exit → Act → World → Prop} {w w' : World} {v vd vs : Value} (hgd : op.guard = none) (d s : Operand) (t t' : TypeId)
    (ho : op.op = .call { callee := .builtin .copy, args := #[d, s], argTypes := #[t, t'] }) (hd : a.eval d = vd) (hs : a.eval s = vs) (hr : ∀ ty, (Builtin.copy_ #[t, t'] ty #[vd, vs]).run P w = .ok v w') (h : wpList P ops Q rest (a.put op.dst v) w') : wpList P ops Q (op :: rest) a w := by
  refine wpList_plain hgd fun K' hK' => ?_
  unfold Oper.wp execOp
  simp only [ho, resolve, invoke, builtin, Sem.run_bind, Sem.run_pure, Result.andThen_ok, List.map_toArray, List.map_cons, List.map_nil, hd, hs, hr]
  exact hK' _ _ h
theorem wpList_clear {P : Program} {ops : Array Oper} {rest : List Oper} {op : Oper} {a : Act} {Q : Exit → Act → World → Prop} {w w' : World} {v vx : Value} (hgd : op.guard = none) (x : Operand) (t : TypeId)
    (ho : op.op = .call { callee := .builtin .clear, args := #[x], argTypes := #[t] }) (hx : a.eval x = vx) (hr : ∀ ty, (Builtin.clear_ #[t] ty #[vx]).run P w = .ok v w') (h : wpList P ops Q rest (a.put op.dst v) w') : wpList P ops Q (op :: rest) a w := by
  refine wpList_plain hgd fun K' hK' => ?_
  unfold Oper.wp execOp
  simp only [ho, resolve, invoke, builtin, Sem.run_bind, Sem.run_pure, Result.andThen_ok, List.map_toArray, List.map_cons, List.map_nil, hx, hr]
  exact hK' _ _ h
section
attribute [local go_sem ↓] Go.wp_at_zero Go.wp_at_succ
/-- A call at a step of a region that draws its order. -/
theorem step_call {P : Program} {f : FuncId} {ops : Array Oper} {op : Oper} {a : Act} {K : Act → World → Prop} {Q : Exit → Act → World → Prop} {E : Prop} {w : World} {us : List Value} {Post : Ending → World → Prop} (hgd : op.guard = none) (xs : List Operand) (ts : Array TypeId)
    (ho : op.op = .call { callee := .value (.func f), args := xs.toArray, argTypes := ts }) (hx : xs.map a.eval = us) (hen : ∀ us w, (callFunc f us).run P w = .ok (.enter f us) w) (hc : Calls P f us.toArray w Post) (h : ∀ e w', Post e w' → ∃ v, e = .returned v ∧ K (a.put op.dst v) w') :
    if Region.wanted op (yielded ops a.tmps) = true then Oper.wp P op a w K Q else E := by
  have hw : Region.wanted op (yielded ops a.tmps) = true := by simp [Region.wanted, hgd]
  rw [if_pos hw]
  have hr : (execOp a.eval op).run P w = .ok (.enter f us.toArray) w := by
    unfold execOp
    simp only [ho, resolve]
    have e1 : a.eval (.func f) = .func (.func f) #[] #[] := rfl
    have e2 : xs.toArray.map a.eval = us.toArray := by simp [hx]
    rw [e1, e2]
    simp [Deferred.ofValue, invoke, hen]
  unfold Oper.wp
  rw [hr, Oper.upon_enter]
  refine hc.mono fun e w' hp => ?_
  obtain ⟨v, rfl, hk⟩ := h e w' hp
  exact hk
end
end Go.Proofs.YtcgecgilkapjaaaGreatDoor
namespace Go.Proofs.YtcgecgilkapjaaaGreatDoor
open Go Go.RowKit
/-! The index of deadlines: Set and Drop. -/
theorem zeroInt (w : World) : (zeroValue 3).run Tryz.prog w = .ok (.int .i64 0) w := by
  have hI : (Tryz.prog.info? 3).map (fun i => (i.zero, i.size, i.bytes)) = some (some (.int .i64 0), 1, 8) := by kernel_rfl
  obtain ⟨i, hi, hz, _, _⟩ := info_parts hI
  simp [zeroValue, typeInfo, hi, hz]
theorem infoEnt : (Tryz.prog.info? 173).map (fun i => (i.zero, i.size, i.bytes)) = some (some (.agg #[.int .i64 0, .string ⟨#[]⟩]), 2, 24) := by kernel_rfl
abbrev entV (e : Ent) : Value := .agg #[.int .i64 e.1, .string ⟨e.2.toArray⟩]
set_option maxRecDepth 10000 in
theorem cmpInt_ok (w : World) (a b : Int) : Calls Tryz.prog 267 #[.int .i64 a, .int .i64 b] w fun E w' => E = .returned (.int .i64 (if a < b then -1 else if b < a then 1 else 0)) ∧ w' = w := by
  rcases Int.lt_trichotomy a b with h | h | h
  · have h1 : decide (a < b) = true := decide_eq_true h
    go_enter Tryz.func267, Tryz.ntmps267
    go_wp2
    go_ret
    exact ⟨rfl, rfl⟩
  · subst h
    have h1 : decide (a < a) = false := decide_eq_false (by omega)
    go_enter Tryz.func267, Tryz.ntmps267
    go_wp2
    go_ret
    exact ⟨rfl, rfl⟩
  · have h1 : decide (a < b) = false := decide_eq_false (by omega)
    have h2 : decide (b < a) = true := decide_eq_true h
    go_enter Tryz.func267, Tryz.ntmps267
    go_wp2
    go_ret
    exact ⟨rfl, rfl⟩
set_option maxRecDepth 10000 in
theorem cmpStr_ok (w : World) (a b : List UInt8) : Calls Tryz.prog 268 #[txt a, txt b] w fun E w' => E = .returned (.int .i64 (cmpB a b)) ∧ w' = w := by
  unfold cmpB txt
  rcases h : Op.bytesLess a b with _ | _
  · rcases h2 : (a == b) with _ | _
    · go_enter Tryz.func268, Tryz.ntmps268
      go_wp2
      go_ret
      exact ⟨rfl, rfl⟩
    · go_enter Tryz.func268, Tryz.ntmps268
      go_wp2
      go_ret
      exact ⟨rfl, rfl⟩
  · go_enter Tryz.func268, Tryz.ntmps268
    go_wp2
    go_ret
    exact ⟨rfl, rfl⟩
theorem entCmp_alt (a b : Ent) : entCmp a b = if (if a.1 < b.1 then (-1 : Int) else if b.1 < a.1 then 1 else 0) = 0 then cmpB a.2 b.2 else (if a.1 < b.1 then (-1 : Int) else if b.1 < a.1 then 1 else 0) := by
  unfold entCmp
  split
  · simp
  · split
    · simp
    · simp
set_option maxRecDepth 10000 in
theorem before_ok (w : World) (a b : Ent) : Calls Tryz.prog 144 #[entV a, entV b] w fun E w' => E = .returned (.int .i64 (entCmp a b)) ∧ Below w.heap.size w w' := by
  obtain ⟨t1, k1⟩ := a
  obtain ⟨t2, k2⟩ := b
  have HI := Lib.hid (fun W => cmpInt_ok W t1 t2)
  have HE := Lib.hid (entCmp_alt (t1, k1) (t2, k2))
  have HS := Lib.hid (fun W => cmpStr_ok W k1 k2)
  dsimp only at HE
  generalize (if t1 < t2 then (-1 : Int) else if t2 < t1 then 1 else 0) = c at *
  unfold entV txt at *
  dsimp only
  have hB : Below w.heap.size w ((w.alloc (.cells #[.int .i64 t1, .string ⟨k1.toArray⟩] 173)).alloc (.cells #[.int .i64 t2, .string ⟨k2.toArray⟩] 173)) := ((Below.refl _ _).alloc (Nat.le_refl _) _).alloc (by simp) _
  have HB := Lib.hid hB
  clear hB
  rcases h0 : (c == 0) with _ | _
  · have h1 : (c != 0) = true := by rw [bne, h0]; rfl
    have HC := Lib.hid (show ¬ c = 0 from beq_eq_false_iff_ne.1 h0)
    go_enter Tryz.func144, Tryz.ntmps144
    go_wp2_with fail
    refine (HI.out _).mono ?_; rintro e w1 ⟨rfl, rfl⟩
    go_wp2_with fail
    go_ret
    exact ⟨by rw [HE.out, if_neg HC.out]; rfl, HB.out⟩
  · have h1 : (c != 0) = false := by rw [bne, h0]; rfl
    have HC := Lib.hid (show c = 0 by simpa using h0)
    go_enter Tryz.func144, Tryz.ntmps144
    go_wp2_with fail
    refine (HI.out _).mono ?_; rintro e w1 ⟨rfl, rfl⟩
    go_wp2_with fail
    refine (HS.out _).mono ?_; rintro e w1 ⟨rfl, rfl⟩
    go_wp2_with fail
    go_ret
    exact ⟨by rw [HE.out, if_pos HC.out]; rfl, HB.out⟩
theorem lit_below (w : World) (x : Obj) : Below w.heap.size w (w.alloc x) := (Below.refl _ _).alloc (Nat.le_refl _) _
theorem cell_lt {w : World} {b o : Nat} {v : Value} (h : w.cell? ⟨b, o, none⟩ = some v) : b < w.heap.size := by
  rcases Nat.lt_or_ge b w.heap.size with h' | h'
  · exact h'
  · simp [World.cell?, Array.getElem?_eq_none h'] at h
theorem cell_below {w w' : World} {b o : Nat} {v : Value} (hB : Below w.heap.size w w') (h : w.cell? ⟨b, o, none⟩ = some v) : w'.cell? ⟨b, o, none⟩ = some v := by
  rw [hB.cell (p := ⟨b, o, none⟩) (cell_lt h)]; exact h
/-- An entry's places. -/
theorem ent_cells {A : Nat → Prop} {w : World} {v : Value} {L : List Ent} (h : Vw A w v 2 L.length (entsC L)) {j : Nat} {e : Ent} (hj : L[j]? = some e) :
    ∃ b off c, v = .slice (some ⟨b, off, none⟩) L.length c ∧ w.cell? ⟨b, off + j * 2, none⟩ = some (.int .i64 e.1) ∧ w.cell? ⟨b, off + j * 2 + 1, none⟩ = some (.string ⟨e.2.toArray⟩) := by
  obtain ⟨⟨a, cap, rfl, h2, h3, h4⟩, h5⟩ := h
  have hl := (List.getElem?_eq_some_iff.1 hj).1
  rcases h4 with h4 | ⟨b, off, rfl, g2, g3, g4⟩
  · omega
  · obtain ⟨e1, e2⟩ := entsC_get L j e hj
    exact ⟨b, off, cap, rfl, g4 _ _ e1, by rw [Nat.add_assoc]; exact g4 _ _ e2⟩
def BsRel (w : World) (L : List Ent) (e : Ent) (i j : Value) (wr : World) : Prop :=
  ∃ a b : Nat, i = .int .i64 a ∧ j = .int .i64 b ∧ a ≤ posE L e ∧ posE L e ≤ b ∧ b ≤ L.length ∧ Below (w.heap.size + 1) (w.alloc (.cells #[.int .i64 e.1, .string ⟨e.2.toArray⟩] 173)) wr
set_option maxRecDepth 10000 in
set_option maxHeartbeats 4000000 in
theorem bsearch_ok {A : Nat → Prop} {w : World} {v : Value} {L : List Ent} (h : Vw A w v 2 L.length (entsC L)) (hs : Rising L) (hn : L.length ≤ 4398046511104) (e : Ent) :
    Calls Tryz.prog 143 #[v, entV e, .func (.func 144) #[] #[]] w fun E w' => ∃ b, E = .returned (.tuple #[.int .i64 ((posE L e : Nat) : Int), .bool b]) ∧ Below w.heap.size w w' := by
  obtain ⟨a, c, rfl, _⟩ := id h.slice
  have HV := Lib.hid h
  have HS := Lib.hid hs
  have hpl := posE_le L e
  obtain ⟨t0, k0⟩ := e
  have hat : BsRel w L (t0, k0) (.int .i64 0) (.int .i64 L.length) (w.alloc (.cells #[.int .i64 t0, .string ⟨k0.toArray⟩] 173)) := ⟨0, L.length, rfl, rfl, Nat.zero_le _, hpl, Nat.le_refl _, Below.refl _ _⟩
  have HAT := Lib.hid hat
  clear h hs hat
  unfold entV
  dsimp only
  go_enter Tryz.func143, Tryz.ntmps143
  go_wp2_with fail
  go_loopw [9, 10] (fun i j wr => BsRel w L (t0, k0) i j wr) (fun i j _ => (intOf j).toNat - (intOf i).toNat)
  case atStart => exact HAT.out
  case round =>
    clear HAT
    obtain ⟨a1, b1, rfl, rfl, ha, hb, hbl, hB⟩ := hrel
    by_cases hab : a1 < b1
    · have hm1 : a1 ≤ (a1 + b1) / 2 := by omega
      have hm2 : (a1 + b1) / 2 < b1 := by omega
      obtain ⟨m, hm⟩ : ∃ m, m = (a1 + b1) / 2 := ⟨_, rfl⟩
      rw [← hm] at hm1 hm2
      have e1 : IntKind.i64.wrap ((a1 : Int) + b1) = ((a1 + b1 : Nat) : Int) := by rw [IntKind.wrap_i64]; omega
      obtain ⟨x, hx⟩ : ∃ x, L[m]? = some x := ⟨_, List.getElem?_eq_getElem (by omega)⟩
      have HM := Lib.hid hm
      obtain ⟨bb, off, cc, ev, hc0, hc1⟩ := ent_cells (HV.out.below ((lit_below w _).trans (hB.mono (by simp)))) hx
      injection ev with ev1 _ ev3
      subst ev1 ev3
      have hbox := hB.cell (p := ⟨w.heap.size, 0, none⟩) (by simp)
      have hbox1 := hB.cell (p := ⟨w.heap.size, 1, none⟩) (by simp)
      simp [go_sem] at hbox hbox1
      have em : ((a1 : Int) + b1) / 2 = (m : Int) := by omega
      have hmI : (0 : Int) ≤ m ∧ (m : Int) < L.length := by omega
      obtain ⟨hmI0, hmI1⟩ := hmI
      have HBF := Lib.hid (fun W => before_ok W x (t0, k0))
      have HB := Lib.hid hB
      have HX := Lib.hid hx
      have HSG := Lib.hid (show (entCmp x (t0, k0) < 0 → m < posE L (t0, k0)) ∧ (¬ entCmp x (t0, k0) < 0 → posE L (t0, k0) ≤ m) from by
        constructor
        · intro hlt
          rcases Nat.lt_or_ge m (posE L (t0, k0)) with h | h
          · exact h
          · have := posE_ge HS.out (t0, k0) h hx
            unfold entLt at this
            rw [decide_eq_true hlt] at this; cases this
        · intro hge
          rcases Nat.lt_or_ge m (posE L (t0, k0)) with h | h
          · have := posE_lt (t0, k0) h hx
            unfold entLt at this
            rw [decide_eq_true_eq] at this; exact absurd this hge
          · exact h)
      generalize entCmp x (t0, k0) = cv at *
      clear hx hB hm
      unfold entV at HBF
      obtain ⟨xt, xk⟩ := x
      dsimp only at hc0 hc1 HBF
      go_wp2_with fail
      clear em e1
      go_still_tail 6, (by kernel_rfl)
      go_wp2_with fail
      refine (HBF.out _).mono ?_; rintro e w2 ⟨rfl, hB2⟩
      have HB2 := Lib.hid (HB.out.trans (((Below.refl _ wr).drew.trans hB2).mono (by have := HB.out.size; rw [World.size_alloc] at this; exact this)))
      clear hB2 hc0 hc1 hbox hbox1 HBF HB
      by_cases hcv : cv < 0
      · have D := Lib.hid (show BsRel w L (t0, k0) (.int .i64 ((m + 1 : Nat) : Int)) (.int .i64 b1) w2 from ⟨m + 1, b1, rfl, rfl, HSG.out.1 hcv, hb, hbl, HB2.out⟩)
        clear HSG HB2
        go_wp2_with fail
        go_roundw
        case rel => exact D.out
        case measure => simp [intOf]; omega
      · have D := Lib.hid (show BsRel w L (t0, k0) (.int .i64 a1) (.int .i64 m) w2 from ⟨a1, m, rfl, rfl, ha, HSG.out.2 (by omega), by omega, HB2.out⟩)
        clear HSG HB2
        go_wp2_with fail
        go_roundw
        case rel => exact D.out
        case measure => simp [intOf]; omega
    · obtain rfl : a1 = b1 := by omega
      have hap : a1 = posE L (t0, k0) := by omega
      have HAP := Lib.hid hap
      have HB := Lib.hid (show Below w.heap.size w wr from (lit_below w _).trans (hB.mono (by simp)))
      clear ha hb hap hpl hab
      by_cases hlt : a1 < L.length
      · obtain ⟨x, hx⟩ : ∃ x, L[a1]? = some x := ⟨_, List.getElem?_eq_getElem hlt⟩
        obtain ⟨bb, off, cc, ev, hc0, hc1⟩ := ent_cells (HV.out.below HB.out) hx
        injection ev with ev1 _ ev3
        subst ev1 ev3
        have hbox := hB.cell (p := ⟨w.heap.size, 0, none⟩) (by simp)
        have hbox1 := hB.cell (p := ⟨w.heap.size, 1, none⟩) (by simp)
        simp [go_sem] at hbox hbox1
        have HBF := Lib.hid (fun W => before_ok W x (t0, k0))
        clear hx hB
        generalize entCmp x (t0, k0) = cv at *
        unfold entV at HBF
        obtain ⟨xt, xk⟩ := x
        dsimp only at hc0 hc1 HBF
        have hmI : (0 : Int) ≤ a1 ∧ (a1 : Int) < L.length := by omega
        obtain ⟨hmI0, hmI1⟩ := hmI
        have hS0 : wr.cell? ⟨bb, off + a1 * 2, none⟩ = some (.int .i64 xt) ∧ wr.cell? ⟨bb, off + a1 * 2 + 1, none⟩ = some (.string ⟨xk.toArray⟩) ∧ wr.cell? ⟨w.heap.size, 0, none⟩ = some (.int .i64 t0) ∧ wr.cell? ⟨w.heap.size, 1, none⟩ = some (.string ⟨k0.toArray⟩) := ⟨hc0, hc1, hbox, hbox1⟩
        clear hc0 hc1 hbox hbox1
        go_wp2_with fail
        go_region_held (fun W => W.cell? ⟨bb, off + a1 * 2, none⟩ = some (.int .i64 xt) ∧ W.cell? ⟨bb, off + a1 * 2 + 1, none⟩ = some (.string ⟨xk.toArray⟩) ∧ W.cell? ⟨w.heap.size, 0, none⟩ = some (.int .i64 t0) ∧ W.cell? ⟨w.heap.size, 1, none⟩ = some (.string ⟨k0.toArray⟩))
          (first | exact hS0 | exact hS2 | (go_simp; done)) (
          ((with_reducible refine (HBF.out _).mono ?_)
           rintro e w2 ⟨rfl, hB2⟩
           have HB2 := Lib.hid (HB.out.trans (((below_drewN (Below.refl _ wr) _).trans hB2).mono HB.out.size))
           have hS2 : w2.cell? ⟨bb, off + a1 * 2, none⟩ = some (.int .i64 xt) ∧ w2.cell? ⟨bb, off + a1 * 2 + 1, none⟩ = some (.string ⟨xk.toArray⟩) ∧ w2.cell? ⟨w.heap.size, 0, none⟩ = some (.int .i64 t0) ∧ w2.cell? ⟨w.heap.size, 1, none⟩ = some (.string ⟨k0.toArray⟩) := ⟨cell_below hB2 hS0.1, cell_below hB2 hS0.2.1, cell_below hB2 hS0.2.2.1, cell_below hB2 hS0.2.2.2⟩
           clear hB2))
        all_goals (
          go_wp2_with fail
          go_ret2
          exact ⟨cv == 0, by rw [← HAP.out]; rfl, HB2.out⟩)
      · clear hB
        go_wp2_with fail
        go_quiet (fail)
        go_wp2_with fail
        go_ret2
        exact ⟨false, by rw [← HAP.out]; rfl, below_drewN HB.out _⟩
end Go.Proofs.YtcgecgilkapjaaaGreatDoor
namespace Go.Proofs.YtcgecgilkapjaaaGreatDoor
open Go Go.RowKit
/-! slices.Delete and slices.Insert at a row of deadlines. -/
theorem zeroEnt (w : World) : (zeroValue 173).run Tryz.prog w = .ok (.agg #[.int .i64 0, .string ⟨#[]⟩]) w := by
  obtain ⟨i, hi, hz, _, _⟩ := info_parts infoEnt
  simp [zeroValue, typeInfo, hi, hz]
theorem cut3 {P : Program} {t e : TypeId} {i : TypeInfo} (ht : P.underlying t = some (.slice e)) (hi : P.info? e = some i) (g n cap lo hi' : Nat) (h1 : lo ≤ hi') (h2 : hi' ≤ n) (h3 : n ≤ cap) (I J : Int) (hI : I = lo) (hJ : J = hi') :
    ∃ V, ∀ W, (Instr.slice t (.slice (some ⟨g, 0, none⟩) n cap) (some (.int .i64 I)) (some (.int .i64 J)) (some (.int .i64 n))).run P W = .ok V W := by
  subst hI hJ
  refine ⟨.slice (if n = lo then some ⟨g, 0, none⟩ else some ⟨g, lo * i.size, none⟩) (hi' - lo) (n - lo), fun W => ?_⟩
  by_cases hc : n = lo
  · have h4 : ¬ lo < hi' := by omega
    have h5 : hi' = lo := by omega
    have h6 : lo ≤ cap := by omega
    simp [Instr.slice, run_underlying ht, Instr.sliceBounds, Instr.sliceBound, asIntOf, sizeOf, typeInfo, hi, hc, h5, h6]
  · simp [Instr.slice, run_underlying ht, Instr.sliceBounds, Instr.sliceBound, asIntOf, sizeOf, typeInfo, hi, addr_add, hc, h1, h2, h3]
section
variable {o : Roles} {w : World} {r : List Nat} {v : Value} {L : List Ent}
set_option maxRecDepth 10000 in
set_option maxHeartbeats 2000000 in
theorem deleteE_ok (h : Row o w r 173 2 v L.length (entsC L)) (i : Nat) (hi : i < L.length) :
    Calls Tryz.prog 145 #[v, .int .i64 i, .int .i64 ((i : Int) + 1)] w fun E w' => ∃ v', E = .returned v' ∧ Row o w' r 173 2 v' (L.length - 1) (entsC (L.take i ++ L.drop (i + 1))) ∧ Stp r o w o w' := by
  obtain ⟨i0, hi0, hz0, hz1, hz2⟩ := info_parts infoEnt
  obtain ⟨g, cap, rfl, hnc⟩ := h.some_form (by omega)
  obtain ⟨cs, hb, hcl, _, hm, htk⟩ := h.blk
  obtain ⟨V3, hc3⟩ := cut3 (P := Tryz.prog) Tryz.underlying113 hi0 g L.length cap i (i + 1) (by omega) hi hnc i ((i : Int) + 1) rfl (by simp)
  obtain ⟨a2, hcT, haT⟩ := cut_tail (P := Tryz.prog) Tryz.underlying113 hi0 g L.length cap (i + 1) hi ((i : Int) + 1) (by simp)
  have hcH := cut_head (P := Tryz.prog) Tryz.underlying113 hi0 (some ⟨g, 0, none⟩) L.length cap i (by omega) i rfl
  obtain ⟨a5, hc5, ha5⟩ := cut_mid (P := Tryz.prog) Tryz.underlying113 hi0 g (L.length - 1) cap (L.length - 1) L.length (by omega) (by omega) ((L.length - 1 : Nat) : Int) L.length rfl rfl
  rw [hz1] at haT ha5
  obtain rfl := ha5 (by omega)
  have hlen : (entsC (L.drop (i + 1))).length = (L.length - (i + 1)) * 2 := by rw [entsC_len, List.length_drop]
  have hfit : i * 2 + (entsC (L.drop (i + 1))).length ≤ cs.length := by rw [hlen, hcl]; omega
  have hsrc : Src Tryz.prog i0.size 113 (.slice a2 (L.length - (i + 1)) (cap - (i + 1))) (L.length - (i + 1)) (entsC (L.drop (i + 1))) w.drew := by
    rw [hz1]
    rcases Nat.lt_or_ge (i + 1) cap with hlt | hge
    · rw [haT hlt]
      refine Src.ofSlice _ Tryz.underlying113 _ _ _ _ hlen (fun j u hj => ?_) (entsC_one _)
      rw [addr_add]
      show w.cell? _ = _
      rw [hb.cell, ← entsC_drop, List.getElem?_drop, ← htk, List.getElem?_take] at *
      split at hj
      · simpa using hj
      · cases hj
    · have e0 : L.length - (i + 1) = 0 := by omega
      have e1 : L.drop (i + 1) = [] := List.drop_eq_nil_of_le (by omega)
      rw [e0, e1]
      cases a2 with
      | none => exact Src.ofNil _ Tryz.underlying113 _
      | some a => exact Src.ofSlice _ Tryz.underlying113 _ _ _ _ (by simp [entsC]) (fun j u hj => by simp [entsC] at hj) (fun u hu => by simp [entsC] at hu)
  have hap := run_append_room_src (P := Tryz.prog) w.drew 113 113 113 173 i0 Tryz.underlying113 hi0 g 0 i cap _ _ _ hsrc (by omega) (fun j hj => by rw [hz1]; show (w.cell? _).isSome = true; rw [hb.cell]; simp; omega) (fun j _ => hb.free _)
  have hbd : Blk o w.drew r g cs.toArray 173 := ⟨hb.heap, hb.role⟩
  have hb1 := hbd.setCells (i * 2) _ hfit
  have hz : (Builtin.zeroCells (Value.agg #[.int .i64 0, .string ⟨#[]⟩]).cells 1).toList = [.int .i64 0, .string ⟨#[]⟩] := by kernel_rfl
  have hl1 := laidAt_len hfit
  have hcl2 : ∀ ty, _ := fun ty => run_clear_part (P := Tryz.prog) hb1 Tryz.underlying113 zeroEnt ty ((L.length - 1) * 2) (L.length - (L.length - 1)) (cap - (L.length - 1)) (by omega) (by rw [show L.length - (L.length - 1) = 1 by omega, hz, hl1, hcl]; simp; omega) (by rw [show L.length - (L.length - 1) = 1 by omega, hz]; intro u hu; simp at hu; rcases hu with rfl | rfl <;> rfl)
  rw [show L.length - (L.length - 1) = 1 by omega, hz] at hcl2
  rw [hz1] at hap
  have h2l : (L.length - 1) * 2 + ([.int .i64 0, .string ⟨#[]⟩] : List Value).length ≤ (laidAt cs (i * 2) (entsC (L.drop (i + 1)))).length := by rw [hl1, hcl]; simp; omega
  have hb2 := hb1.setCells ((L.length - 1) * 2) _ h2l
  have hl2 := laidAt_len h2l
  have D := Lib.hid (show Row o ((w.drew.setCells g (i * 2) (entsC (L.drop (i + 1)))).setCells g ((L.length - 1) * 2) [.int .i64 0, .string ⟨#[]⟩]) r 173 2 (.slice (some ⟨g, 0, none⟩) (L.length - 1) cap) (L.length - 1) (entsC (L.take i ++ L.drop (i + 1))) ∧
      Stp r o w o ((w.drew.setCells g (i * 2) (entsC (L.drop (i + 1)))).setCells g ((L.length - 1) * 2) [.int .i64 0, .string ⟨#[]⟩]) from by
    refine ⟨?_, (((Stp.refl r o w).drew).setCells (by rw [hb.role]; exact List.prefix_refl _) _ _).setCells (by rw [hb.role]; exact List.prefix_refl _) _ _⟩
    have hr := hb2.row (by rw [hl2, hl1, hcl]) (show L.length - 1 ≤ cap by omega) hm
    rw [laidAt_take_lo (Nat.le_refl _) (by rw [hl1, hcl]; omega), laidAt_take (by rw [hlen]; omega) (by rw [hcl]; omega)] at hr
    have e1 : cs.take (i * 2) = entsC (L.take i) := by
      rw [← entsC_take, ← htk, List.take_take, Nat.min_eq_left (by omega)]
    rw [e1, ← entsC_app] at hr
    exact hr)
  have en : L.length - (i + 1) + i = L.length - 1 := by omega
  have en2 : i + (L.length - (i + 1)) = L.length - 1 := by omega
  rw [Nat.zero_add, en2] at hap
  rw [show L.length - (L.length - 1) = 1 by omega] at hc5
  have hij : ((i : Int) == (i : Int) + 1) = false := beq_eq_false_iff_ne.2 (by omega)
  have HCL := Lib.hid hcl2
  have HAP := Lib.hid hap
  clear hb hb1 hb2 hbd hsrc hfit hl1 hl2 h2l hcl htk haT hz hz1 hz2 hz0 hlen hap hcl2 h ha5 en en2
  generalize w.drew.setCells g (i * 2) (entsC (L.drop (i + 1))) = w1 at *
  go_enter Tryz.func145, Tryz.ntmps145
  go_wp2_with fail
  go_still_tail 6, (by kernel_rfl)
  change wpList _ _ _ _ _ (World.drew w)
  go_wp2_with (first
    | (at_builtin
       refine Lib.wpList_append_run _ rfl _ _ 113 113 rfl _ _ rfl rfl _ _ HAP.out ?_)
    | (refine wpList_clear rfl _ 113 rfl rfl (fun ty => HCL.out ty) ?_))
  go_ret
  exact ⟨_, rfl, D.out⟩
end
end Go.Proofs.YtcgecgilkapjaaaGreatDoor
