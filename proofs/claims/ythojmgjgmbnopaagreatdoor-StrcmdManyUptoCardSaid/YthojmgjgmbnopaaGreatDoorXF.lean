/- What the commands' layers share: views cut, rows cut and filled. -/
import Derived.Test.YthojmgjgmbnopaaGreatDoorXE
import Derived.Lib.SliceRun
import Derived.Deep.RegionLaw
import Derived.Laws.IdiomCopy
import Derived.Test.YthojmgjgmbnopaaGreatDoorXB
import Derived.Sort.Walk0
import Derived.Lib.SlicesCompact
namespace Go.Proofs.YthojmgjgmbnopaaGreatDoor
open Go Go.RowKit
theorem vw_cut {A : Nat → Prop} {w : World} {v : Value} {n : Nat} {xs : List Value} (h : Vw A w v 1 n xs) (lo hi : Nat) (h1 : lo ≤ hi) (h2 : hi ≤ n) :
    ∃ a c, (∀ W, (Instr.slice 39 v (some (.int .i64 lo)) (some (.int .i64 hi)) none).run Tryz.prog W = .ok (.slice a (hi - lo) c) W) ∧
      (hi = n → ∀ W, (Instr.slice 39 v (some (.int .i64 lo)) none none).run Tryz.prog W = .ok (.slice a (hi - lo) c) W) ∧
      (lo = 0 → ∀ W, (Instr.slice 39 v none (some (.int .i64 hi)) none).run Tryz.prog W = .ok (.slice a (hi - lo) c) W) ∧
      Vw A w (.slice a (hi - lo) c) 1 (hi - lo) ((xs.drop lo).take (hi - lo)) := by
  obtain ⟨i0, hi0, hz0, hz1, hz2⟩ := info_parts infoS
  obtain ⟨⟨a, cap, rfl, g1, g2, g3⟩, g4⟩ := h
  refine ⟨if cap = lo then a else a.map (fun x => x.add lo), cap - lo, fun W => ?_, fun e W => ?_, fun e W => ?_, ⟨⟨_, _, rfl, by omega, by omega, ?_⟩, ?_⟩⟩
  · simp [Instr.slice, run_underlying Tryz.underlying39, Instr.sliceBounds, Instr.sliceBound, asIntOf, sizeOf, typeInfo, hi0, hz1]
    rw [if_pos (by omega), if_pos h1]
  · subst e
    simp [Instr.slice, run_underlying Tryz.underlying39, Instr.sliceBounds, Instr.sliceBound, asIntOf, sizeOf, typeInfo, hi0, hz1]
    intro h; omega
  · subst e
    simp [Instr.slice, run_underlying Tryz.underlying39, Instr.sliceBounds, Instr.sliceBound, asIntOf, sizeOf, typeInfo, hi0]
    intro h; omega
  · rcases Nat.eq_zero_or_pos (hi - lo) with e | e
    · exact .inl e
    · rcases g3 with g3 | ⟨b, off, rfl, g5, g6, g7⟩
      · omega
      · refine .inr ⟨b, off + lo, ?_, g5, g6, fun k u hk => ?_⟩
        · rw [if_neg (by omega)]
          simp [addr_add]
        · have hk' : k < hi - lo := by have := (List.getElem?_eq_some_iff.1 hk).1; simp at this; omega
          rw [List.getElem?_take, if_pos hk', List.getElem?_drop] at hk
          rw [Nat.add_assoc]; exact g7 _ u hk
  · simp [g4]; omega
section
variable {o : Roles} {w : World} {r : List Nat} {d B : Nat} {l : List (List UInt8)}
theorem np2 {r : List Nat} {a : Nat} : r ++ [a] ≠ r := by simp
end
section
variable {o : Roles} {w : World} {r : List Nat} {d B : Nat} {l : List (List UInt8)}
theorem set_append_mid {α : Type} (a b : List α) (x y : α) : (a ++ x :: b).set a.length y = a ++ y :: b := by
  rw [List.set_append, if_neg (by omega)]; simp
end
section
variable {o : Roles} {w : World} {r : List Nat} {d B : Nat} {l : List (List UInt8)}
/-- One place of a row is written. -/
theorem Row.set1 {o : Roles} {w : World} {r : List Nat} {e : TypeId} {v : Value} {n : Nat} {xs : List Value} (h : Row o w r e 1 v n xs) {k : Nat} (hk : k < n) (u : Value) :
    ∃ g cap, v = .slice (some ⟨g, 0, none⟩) n cap ∧ n ≤ cap ∧ o g = r ∧ w.frozen? ⟨g, k, none⟩ = false ∧ (w.cell? ⟨g, k, none⟩ = xs[k]?) ∧ Row o (w.setCell ⟨g, k, none⟩ u) r e 1 v n (xs.set k u) := by
  rcases h.form with ⟨_, h2, _⟩ | ⟨g, cap, cur, h1, hb, h3, h4, h5, h6⟩
  · omega
  · subst h1
    have hcell : w.cell? ⟨g, k, none⟩ = xs[k]? := by
      rw [hb.cell, ← h6, List.getElem?_take, if_pos (by omega)]; simp
    refine ⟨g, cap, rfl, h3, hb.role, hb.free k, hcell, ⟨⟨by simpa using h.own.1, .inr ⟨g, cap, cur.setIfInBounds k u, rfl, Nat.zero_le _, (hb.setCell k u).heap, h3, h4, by simpa using h5, ?_⟩⟩, h.role⟩⟩
    rw [Array.toList_setIfInBounds, List.take_set, h6]
end
section
variable {o : Roles} {w : World} {r : List Nat} {d B : Nat} {l : List (List UInt8)}
theorem vw_head {A : Nat → Prop} {w : World} {a : Option Addr} {n c : Nat} {xs : List Value} (h : Vw A w (.slice a n c) 1 n xs) (hi : Nat) (h1 : hi ≤ n) : Vw A w (.slice a hi c) 1 hi (xs.take hi) := by
  obtain ⟨⟨a0, c0, e, g1, g2, g3⟩, g4⟩ := h
  injection e with e1 e2 e3
  subst e1 e3
  refine ⟨⟨a, c, rfl, by omega, g2, ?_⟩, by simp [g4]; omega⟩
  rcases g3 with g3 | ⟨b, off, e, g5, g6, g7⟩
  · left; omega
  · exact .inr ⟨b, off, e, g5, g6, fun k u hk => g7 k u (by
      have hk' : k < hi := by have := (List.getElem?_eq_some_iff.1 hk).1; simp at this; omega
      rw [List.getElem?_take, if_pos hk'] at hk; exact hk)⟩
end
section
variable {o : Roles} {w : World} {r : List Nat} {d B : Nat} {l : List (List UInt8)}
theorem cut1 (g n cap lo : Nat) (h1 : lo + 1 ≤ n) (h2 : n ≤ cap) (I J : Int) (hI : I = lo) (hJ : J = lo + 1) (W : World) : (Instr.slice 39 (.slice (some ⟨g, 0, none⟩) n cap) (some (.int .i64 I)) (some (.int .i64 J)) none).run Tryz.prog W = .ok (.slice (some ⟨g, lo, none⟩) 1 (cap - lo)) W := by
  subst hI hJ
  obtain ⟨i0, hi0, hz0, hz1, hz2⟩ := info_parts infoS
  simp [Instr.slice, run_underlying Tryz.underlying39, Instr.sliceBounds, Instr.sliceBound, asIntOf, sizeOf, typeInfo, hi0, hz1, addr_add]
  rw [if_pos (by omega)]
  simp
  omega
end
section
variable {o : Roles} {w : World} {r : List Nat} {d B : Nat} {l : List (List UInt8)}
theorem zeroStr (w : World) : (zeroValue 9).run Tryz.prog w = .ok (.string ⟨#[]⟩) w := by
  obtain ⟨i, hi, hz, _, _⟩ := info_parts infoS
  simp [zeroValue, typeInfo, hi, hz]
end
section
variable {o : Roles} {w : World} {r : List Nat} {d B : Nat} {l : List (List UInt8)}
theorem wpList_clear1 {ops : Array Oper} {rest : List Oper} {op : Oper} {a : Act} {Q : Exit → Act → World → Prop} {w : World} (hg : op.guard = none) (x : Operand) (hop : op.op = .call { callee := .builtin .clear, args := #[x], argTypes := #[39] })
    {b off c : Nat} (hx : a.eval x = .slice (some ⟨b, off, none⟩) 1 c) (hc : (w.cell? ⟨b, off, none⟩).isSome = true) (hf : w.frozen? ⟨b, off, none⟩ = false)
    (hK : wpList Tryz.prog ops Q rest (a.put op.dst (.tuple #[])) (w.setCell ⟨b, off, none⟩ (.string ⟨#[]⟩))) : wpList Tryz.prog ops Q (op :: rest) a w := by
  refine wpList_plain hg fun K' hK' => ?_
  have hc1 : ∀ j, j < 1 → (w.cell? ⟨b, off + j, none⟩).isSome = true := fun j hj => by
    have e : j = 0 := by omega
    rw [e]; exact hc
  have hf1 : ∀ j, j < 1 → w.frozen? ⟨b, off + j, none⟩ = false := fun j hj => by
    have e : j = 0 := by omega
    rw [e]; exact hf
  have hrun := Lib.run_clear_slice (P := Tryz.prog) w 39 9 op.type (.string ⟨#[]⟩) Tryz.underlying39 zeroStr rfl rfl b off 1 c (by decide) hc1 hf1
  unfold Oper.wp execOp
  simp only [hop, resolve, invoke, builtin, Sem.run_bind, Sem.run_pure, Result.andThen_ok, List.map_toArray, List.map_cons, List.map_nil, hx, hrun]
  exact hK' _ _ hK
end
section
variable {o : Roles} {w : World} {r : List Nat} {d B : Nat} {l : List (List UInt8)}
theorem cutT (g n cap : Nat) (h1 : 1 ≤ n) (h2 : n ≤ cap) (I : Int) (hI : I = (n : Int) - 1) (W : World) : (Instr.slice 39 (.slice (some ⟨g, 0, none⟩) n cap) (some (.int .i64 I)) none none).run Tryz.prog W = .ok (.slice (some ⟨g, n - 1, none⟩) 1 (cap - (n - 1))) W := by
  obtain ⟨m, rfl⟩ : ∃ m, n = m + 1 := ⟨n - 1, by omega⟩
  have hI' : I = (m : Int) := by omega
  subst hI'
  obtain ⟨i0, hi0, hz0, hz1, hz2⟩ := info_parts infoS
  simp [Instr.slice, run_underlying Tryz.underlying39, Instr.sliceBounds, Instr.sliceBound, asIntOf, sizeOf, typeInfo, hi0, hz1, addr_add]
  intro h; omega
end
section
variable {o : Roles} {w : World} {r : List Nat} {d B : Nat} {l : List (List UInt8)}
theorem cutH (g n cap : Nat) (h1 : 1 ≤ n) (h2 : n ≤ cap) (I : Int) (hI : I = (n : Int) - 1) (W : World) : (Instr.slice 39 (.slice (some ⟨g, 0, none⟩) n cap) none (some (.int .i64 I)) none).run Tryz.prog W = .ok (.slice (some ⟨g, 0, none⟩) (n - 1) cap) W := by
  obtain ⟨m, rfl⟩ : ∃ m, n = m + 1 := ⟨n - 1, by omega⟩
  have hI' : I = (m : Int) := by omega
  subst hI'
  obtain ⟨i0, hi0, hz0, hz1, hz2⟩ := info_parts infoS
  simp [Instr.slice, run_underlying Tryz.underlying39, Instr.sliceBounds, Instr.sliceBound, asIntOf, sizeOf, typeInfo, hi0, addr_add]
  intro h; omega
end
section
variable {o : Roles} {w : World} {r : List Nat} {d B : Nat} {l : List (List UInt8)}
theorem Row.cut {o : Roles} {w : World} {r : List Nat} {e : TypeId} {g n cap m : Nat} {xs : List Value} (h : Row o w r e 1 (.slice (some ⟨g, 0, none⟩) n cap) n xs) (hm : m ≤ n) : Row o w r e 1 (.slice (some ⟨g, 0, none⟩) m cap) m (xs.take m) := by
  rcases h.form with ⟨h1, _, _⟩ | ⟨g', cap', cur, h1, hb, h3, h4, h5, h6⟩
  · cases h1
  · injection h1 with e1 _ e3
    injection e1 with e1
    injection e1 with e1
    subst e1 e3
    refine ⟨⟨by rw [List.length_take, h.len]; omega, .inr ⟨g, cap, cur, rfl, Nat.zero_le _, hb.heap, by omega, h4, h5, ?_⟩⟩, h.role⟩
    rw [← h6, List.take_take]
    congr 1
    omega
end
theorem idx_last (g N cap n : Nat) (h1 : 1 ≤ n) (h2 : n ≤ N) (W : World) : (Instr.indexAt 39 (.slice (some ⟨g, 0, none⟩) N cap) (.int .i64 ((n : Int) - 1))).run Tryz.prog W = .ok (.pointer (some ⟨g, n - 1, none⟩)) W := by
  obtain ⟨m, rfl⟩ : ∃ m, n = m + 1 := ⟨n - 1, by omega⟩
  have e : (((m + 1 : Nat) : Int) - 1) = (m : Int) := by omega
  rw [e]
  obtain ⟨i0, hi0, hz0, hz1, hz2⟩ := info_parts infoS
  simp [Instr.indexAt, run_underlying Tryz.underlying39, asIntOf, sizeOf, typeInfo, hi0, hz1, addr_add]
  omega
theorem Row.fill {o : Roles} {w : World} {r : List Nat} {e : TypeId} {g n cap k : Nat} {xs vs : List Value} (h : Row o w r e 1 (.slice (some ⟨g, 0, none⟩) n cap) n xs) (hk : k + vs.length ≤ n) :
    Row o (w.setCells g k vs) r e 1 (.slice (some ⟨g, 0, none⟩) n cap) n (xs.take k ++ vs ++ xs.drop (k + vs.length)) := by
  rcases h.form with ⟨h1, _, _⟩ | ⟨g', cap', cur, h1, hb, h3, h4, h5, h6⟩
  · cases h1
  · injection h1 with e1 _ e3
    injection e1 with e1
    injection e1 with e1
    subst e1 e3
    have hxl : xs.length = n := by have := h.len; simpa using this
    refine ⟨⟨by simp [hxl]; omega, .inr ⟨g, cap, _, rfl, Nat.zero_le _, heap_setCells_at g e _ vs k w cur hb.heap, h3, h4, by rw [setMany_size, h5], ?_⟩⟩, h.role⟩
    apply List.ext_getElem?
    intro j
    rw [List.getElem?_take]
    have hg := setMany_get vs cur k (by omega) j
    have hx : ∀ j, j < n → cur[j]? = xs[j]? := fun j hj => by rw [← h6, List.getElem?_take, if_pos (by omega)]; simp
    by_cases hj : j < n * 1
    · rw [if_pos hj, Array.getElem?_toList, hg]
      by_cases h1 : j < k
      · rw [if_pos h1, hx j (by omega), List.append_assoc, List.getElem?_append_left (by simp; omega), List.getElem?_take, if_pos h1]
      · rw [if_neg h1]
        by_cases h2 : j < k + vs.length
        · rw [if_pos h2, List.getElem?_append_left (by simp; omega), List.getElem?_append_right (by simp; omega)]
          congr 1
          simp; omega
        · rw [if_neg h2, hx j (by omega), List.getElem?_append_right (by simp; omega), List.getElem?_drop]
          congr 1
          simp; omega
    · rw [if_neg hj, List.getElem?_eq_none (by simp [hxl]; omega)]
theorem made_txt (n : Nat) : (madeCells (Value.string ⟨#[]⟩).cells (n * 1)).toList = (List.replicate n ([] : List UInt8)).map txt := by
  simp only [madeCells, Value.cells]
  apply List.ext_getElem
  · simp
  · intro i h1 h2
    simp [Nat.mod_one, txt]
theorem cutR (g M room : Nat) (h : room ≤ M) : ∃ a, (∀ W, (Instr.slice 39 (.slice (some ⟨g, 0, none⟩) M M) (some (.int .i64 room)) none none).run Tryz.prog W = .ok (.slice a (M - room) (M - room)) W) ∧ (room < M → a = some ⟨g, room, none⟩) := by
  obtain ⟨i0, hi0, hz0, hz1, hz2⟩ := info_parts infoS
  refine ⟨if M = room then some ⟨g, 0, none⟩ else some ⟨g, room, none⟩, fun W => ?_, fun hl => if_neg (by omega)⟩
  simp [Instr.slice, run_underlying Tryz.underlying39, Instr.sliceBounds, Instr.sliceBound, asIntOf, sizeOf, typeInfo, hi0, hz1, addr_add]
  intro h'; omega
set_option maxRecDepth 10000 in
theorem copy_run {A : Nat → Prop} {o : Roles} {W : World} {r : List Nat} {g M room c4 c2 : Nat} {a4 a2 : Option Addr} {xs : List Value} {l : List (List UInt8)} (hrow : Row o W r 9 1 (.slice (some ⟨g, 0, none⟩) M M) M xs) (hM : room + l.length = M) (ha : room < M → a4 = some ⟨g, room, none⟩)
    (hv : Vw A W (.slice a2 l.length c2) 1 l.length (l.map txt)) (ty : TypeId) : (Builtin.copy_ #[39, 39] ty #[.slice a4 l.length c4, .slice a2 l.length c2]).run Tryz.prog W = .ok (goInt l.length) (W.setCells g room (l.map txt)) := by
  obtain ⟨i0, hi0, hz0, hz1, hz2⟩ := info_parts infoS
  have hs : (Tryz.prog.info? 9).map (·.size) = some 1 := by rw [hi0]; simp [hz1]
  by_cases hl : l.length = 0
  · have : l = [] := List.eq_nil_of_length_eq_zero hl
    subst this
    have h := run_copy_none (P := Tryz.prog) W 39 39 ty 9 a4 a2 0 c4 0 c2 Tryz.underlying39 hs rfl
    rw [List.length_nil, List.map_nil]
    exact h
  · obtain ⟨⟨a, c, e, _, _, h3⟩, _⟩ := hv
    injection e with e1 _ e3
    subst e1 e3
    rcases h3 with h3 | ⟨b, off, rfl, _, _, hc⟩
    · omega
    rw [ha (by omega)]
    have hrow2 := fun j (hj : j < l.length) => hrow.set1 (k := room + j) (by omega) (.string ⟨#[]⟩)
    have hxl : xs.length = M := by have := hrow.len; simpa using this
    have h := run_copy_cells (P := Tryz.prog) W 39 39 ty 9 g room l.length c4 ⟨b, off, none⟩ l.length c2 (l.map txt) Tryz.underlying39 hs (by simp) (fun j v hj => by rw [addr_add]; exact hc j v hj)
      (fun j hj => by
        obtain ⟨g2, c3, e, _, _, _, hce, _⟩ := hrow2 j (by simpa using hj)
        injection e with e1 _ _
        injection e1 with e1
        injection e1 with e1 _ _
        subst e1
        have hj' : j < l.length := by simpa using hj
        rw [hce, List.getElem?_eq_getElem (by omega)]; rfl)
      (fun j hj => by
        obtain ⟨g2, c3, e, _, _, hz, _, _⟩ := hrow2 j (by simpa using hj)
        injection e with e1 _ _
        injection e1 with e1
        injection e1 with e1 _ _
        subst e1
        exact hz) (one_list l)
    simpa using h
theorem step_copy {ops : Array Oper} {op : Oper} {a : Act} {K : Act → World → Prop} {Q : Exit → Act → World → Prop} {E : Prop} {w w' : World} {v vd vs : Value} (hgd : op.guard = none) (d s : Operand)
    (ho : op.op = .call { callee := .builtin .copy, args := #[d, s], argTypes := #[39, 39] }) (hd : a.eval d = vd) (hs : a.eval s = vs) (hr : ∀ ty, (Builtin.copy_ #[39, 39] ty #[vd, vs]).run Tryz.prog w = .ok v w') (h : K (a.put op.dst v) w') :
    if Region.wanted op (yielded ops a.tmps) = true then Oper.wp Tryz.prog op a w K Q else E := by
  have hw : Region.wanted op (yielded ops a.tmps) = true := by simp [Region.wanted, hgd]
  rw [if_pos hw]
  unfold Oper.wp execOp
  simp only [ho, resolve, invoke, builtin, Sem.run_bind, Sem.run_pure, Result.andThen_ok, List.map_toArray, List.map_cons, List.map_nil, hd, hs, hr]
  exact h
theorem yields_slice {ρ : Operand → Value} {op : Oper} {x l : Operand} {X L v : Value} {W : World} (ho : op.op = .slice 39 x (some l) none none) (hx : ρ x = X) (hl : ρ l = L) (h : (Instr.slice 39 X (some L) none none).run Tryz.prog W = .ok v W) : (execOp ρ op).run Tryz.prog W = .ok (.value v) W := by
  unfold execOp
  simp only [ho]
  simp [hx, hl, Instr.sliceAt, run_underlying Tryz.underlying39, h]
theorem vw_new1 (w : World) (x : List UInt8) (T : TypeId) : Vw (fun b => b = w.heap.size) (w.alloc (.cells #[txt x] T)) (.slice (some ⟨w.heap.size, 0, none⟩) 1 1) 1 1 ([x].map txt) := by
  refine ⟨⟨_, 1, rfl, Nat.le_refl _, by unfold maxLen; omega, .inr ⟨w.heap.size, 0, rfl, by simp, rfl, fun k u hk => ?_⟩⟩, rfl⟩
  have : k = 0 := by have := (List.getElem?_eq_some_iff.1 hk).1; simp at this; omega
  subst this
  simp at hk
  subst hk
  unfold World.cell?
  rw [show (w.alloc (.cells #[txt x] T)).heap[w.heap.size]? = some (.cells #[txt x] T (0, 0)) from heap_alloc_new w _]
  rfl
theorem vw_one {A : Nat → Prop} {w : World} {v : Value} {y : Value} (h : Vw A w v 1 1 [y]) : ∃ b off cap, v = .slice (some ⟨b, off, none⟩) 1 cap ∧ 1 ≤ cap ∧ w.cell? ⟨b, off, none⟩ = some y := by
  obtain ⟨⟨a, cap, h1, h2, h3, h4⟩, h5⟩ := h
  rcases h4 with h4 | ⟨b, off, rfl, g2, g3, g4⟩
  · omega
  · exact ⟨b, off, cap, h1, h2, by simpa using g4 0 y rfl⟩
/-- A view of blocks that were there. -/
abbrev Old (w : World) : Nat → Prop := fun b => b < w.heap.size
theorem vw_tail3 {A : Nat → Prop} {w : World} {b off n cap : Nat} {k : List UInt8} {t : List (List UInt8)} (h : Vw A w (.slice (some ⟨b, off, none⟩) (n + 1) cap) 1 (n + 1) ((k :: t).map txt)) : Vw A w (.slice (some ⟨b, off + 1, none⟩) n n) 1 n (t.map txt) := by
  obtain ⟨⟨a, c, e, g1, g2, g3⟩, g4⟩ := h
  injection e with e1 e2 e3
  subst e1 e3
  have hn : t.length = n := by simpa using g4
  refine ⟨⟨_, _, rfl, Nat.le_refl _, by omega, ?_⟩, by simp [hn]⟩
  rcases g3 with g3 | ⟨b', off', e, g5, g6, g7⟩
  · omega
  · injection e with e
    injection e with e4 e5 _
    subst e4 e5
    refine .inr ⟨b, off + 1, rfl, g5, g6, fun j u hj => ?_⟩
    have := g7 (j + 1) u (by simpa using hj)
    rw [show off + 1 + j = off + (j + 1) by omega]; exact this
theorem vw_head1 {A : Nat → Prop} {w : World} {v : Value} {n : Nat} {k : List UInt8} {t : List (List UInt8)} (h : Vw A w v 1 (n + 1) ((k :: t).map txt)) : ∃ b off cap, v = .slice (some ⟨b, off, none⟩) (n + 1) cap ∧ n + 1 ≤ cap ∧ A b ∧ w.cell? ⟨b, off, none⟩ = some (.string ⟨k.toArray⟩) := by
  obtain ⟨⟨a, cap, rfl, g1, g2, g3⟩, g4⟩ := h
  rcases g3 with g3 | ⟨b, off, rfl, g5, g6, g7⟩
  · omega
  · exact ⟨b, off, cap, rfl, g1, g6, by simpa [txt] using g7 0 (txt k) rfl⟩
section
variable {o : Roles} {w : World} {q : List Nat} {p : Nat} {c : Cnt} {S : SP}
theorem vw_get {A : Nat → Prop} {w : World} {a : Option Addr} {n cap : Nat} {l : List (List UInt8)} (h : Vw A w (.slice a n cap) 1 n (l.map txt)) (hn : 0 < n) : ∃ b off, a = some ⟨b, off, none⟩ ∧ A b ∧ n ≤ cap ∧ ∀ (k : Nat) x, l[k]? = some x → w.cell? ⟨b, off + k, none⟩ = some (.string ⟨x.toArray⟩) := by
  obtain ⟨⟨a', c', e, g1, g2, g3⟩, g4⟩ := h
  injection e with e1 e2 e3
  subst e1 e3
  rcases g3 with g3 | ⟨b, off, rfl, g5, g6, g7⟩
  · omega
  · exact ⟨b, off, rfl, g6, g1, fun k x hx => g7 k (txt x) (by rw [List.getElem?_map, hx]; rfl)⟩
end
theorem Vw.old {A : Nat → Prop} {w : World} {v : Value} {sz n : Nat} {xs : List Value} (h : Vw A w v sz n xs) : Vw (Old w) w v sz n xs := by
  obtain ⟨⟨a, c, h1, h2, h3, h4⟩, h5⟩ := h
  refine ⟨⟨a, c, h1, h2, h3, ?_⟩, h5⟩
  rcases h4 with h4 | ⟨b, off, g1, g2, g3, g4⟩
  · exact .inl h4
  · exact .inr ⟨b, off, g1, g2, g2, g4⟩
theorem Row.lit (o : Roles) (w : World) (r : List Nat) (e : TypeId) (xs : List Value) (hn : xs.length ≤ 100) : Row (o.put w.heap.size r) (w.alloc (.cells xs.toArray e)) r e 1 (.slice (some ⟨w.heap.size, 0, none⟩) xs.length xs.length) xs.length xs := by
  refine ⟨⟨by simp, .inr ⟨w.heap.size, xs.length, xs.toArray, rfl, Nat.zero_le _, heap_alloc_new w _, Nat.le_refl _, by unfold maxLen; omega, by simp, by simp⟩⟩, fun g hg => ?_⟩
  simp only [Value.ownBlock, Option.some.injEq] at hg
  subst hg; exact Roles.put_same _ _ _
end Go.Proofs.YthojmgjgmbnopaaGreatDoor
/- Sets of texts as rising lists: plain lists. No program is named. -/
namespace Go.Proofs.YthojmgjgmbnopaaGreatDoor
open Go
abbrev Tx := List UInt8
abbrev ltB (a b : Tx) : Bool := Op.bytesLess a b
theorem ltB_asymm {a b : Tx} (h : ltB a b = true) : ltB b a = false := by
  cases e : ltB b a with
  | false => rfl
  | true => have := less_trans a b a h e; rw [less_irrefl] at this; cases this
theorem ltB_ne {a b : Tx} (h : ltB a b = true) : a ≠ b := by
  rintro rfl; rw [show ltB a a = false from less_irrefl a] at h; cases h
/-- A rising list. -/
def Asc (l : List Tx) : Prop := l.Pairwise fun a b => ltB a b = true
theorem Asc.nil : Asc [] := List.Pairwise.nil
theorem asc_cons {x : Tx} {l : List Tx} : Asc (x :: l) ↔ (∀ y ∈ l, ltB x y = true) ∧ Asc l := List.pairwise_cons
theorem Asc.ext : ∀ {a b : List Tx}, Asc a → Asc b → (∀ x, x ∈ a ↔ x ∈ b) → a = b
  | [], [], _, _, _ => rfl
  | [], y :: b, _, _, h => by have := (h y).2 (by simp); cases this
  | x :: a, [], _, _, h => by have := (h x).1 (by simp); cases this
  | x :: a, y :: b, ha, hb, h => by
    obtain ⟨ha1, ha2⟩ := asc_cons.1 ha
    obtain ⟨hb1, hb2⟩ := asc_cons.1 hb
    have hxy : x = y := by
      rcases less_total x y with h1 | h1 | h1
      · have hx := (h x).1 (by simp)
        rcases List.mem_cons.1 hx with e | e
        · exact e
        · have := ltB_asymm (hb1 x e); rw [show ltB x y = true from h1] at this; cases this
      · exact h1
      · have hy := (h y).2 (by simp)
        rcases List.mem_cons.1 hy with e | e
        · exact e.symm
        · have := ltB_asymm (ha1 y e); rw [show ltB y x = true from h1] at this; cases this
    subst hxy
    congr 1
    refine Asc.ext ha2 hb2 fun z => ?_
    have hz := h z
    simp only [List.mem_cons] at hz
    constructor
    · intro hm
      rcases hz.1 (.inr hm) with e | e
      · subst e; exact absurd rfl (ltB_ne (ha1 z hm))
      · exact e
    · intro hm
      rcases hz.2 (.inr hm) with e | e
      · subst e; exact absurd rfl (ltB_ne (hb1 z hm))
      · exact e
theorem Asc.nodup {l : List Tx} (h : Asc l) : l.Nodup := h.imp fun hab => ltB_ne hab
theorem Asc.sub {a b : List Tx} (h : Asc b) (hs : a.Sublist b) : Asc a := List.Pairwise.sublist hs h
def insL (x : Tx) : List Tx → List Tx
  | [] => [x]
  | y :: t => if ltB x y then x :: y :: t else if x = y then y :: t else y :: insL x t
theorem insL_mem (x z : Tx) : ∀ l : List Tx, z ∈ insL x l ↔ z = x ∨ z ∈ l
  | [] => by simp [insL]
  | y :: t => by
    unfold insL
    split
    · simp
    · split
      · rename_i h; subst h; simp
      · simp only [List.mem_cons, insL_mem x z t]
        constructor
        · rintro (h | h | h)
          · exact .inr (.inl h)
          · exact .inl h
          · exact .inr (.inr h)
        · rintro (h | h | h)
          · exact .inr (.inl h)
          · exact .inl h
          · exact .inr (.inr h)
theorem insL_asc (x : Tx) : ∀ {l : List Tx}, Asc l → Asc (insL x l)
  | [], _ => by unfold insL; exact asc_cons.2 ⟨by simp, Asc.nil⟩
  | y :: t, h => by
    obtain ⟨h1, h2⟩ := asc_cons.1 h
    unfold insL
    split
    · rename_i hxy
      refine asc_cons.2 ⟨fun z hz => ?_, h⟩
      rcases List.mem_cons.1 hz with e | e
      · subst e; exact hxy
      · exact less_trans x y z hxy (h1 z e)
    · split
      · exact h
      · rename_i hn hne
        refine asc_cons.2 ⟨fun z hz => ?_, insL_asc x h2⟩
        rcases (insL_mem x z t).1 hz with e | e
        · subst e
          rcases less_total z y with k | k | k
          · exact absurd k hn
          · exact absurd k hne
          · exact k
        · exact h1 z e
/-- The set of a list. -/
def ofL (l : List Tx) : List Tx := l.foldr insL []
theorem ofL_mem (z : Tx) : ∀ l : List Tx, z ∈ ofL l ↔ z ∈ l
  | [] => by simp [ofL]
  | x :: t => by show z ∈ insL x (ofL t) ↔ _; rw [insL_mem, ofL_mem z t, List.mem_cons]
theorem ofL_asc : ∀ l : List Tx, Asc (ofL l)
  | [] => Asc.nil
  | x :: t => insL_asc x (ofL_asc t)
theorem ofL_eq {s l : List Tx} (hs : Asc s) (h : ∀ x, x ∈ s ↔ x ∈ l) : s = ofL l := hs.ext (ofL_asc l) fun x => (h x).trans (ofL_mem x l).symm
theorem ofL_self {s : List Tx} (hs : Asc s) : ofL s = s := (ofL_eq hs fun _ => Iff.rfl).symm
theorem ofL_nil : ofL [] = [] := rfl
theorem ofL_eq_nil {l : List Tx} : ofL l = [] ↔ l = [] := by
  constructor
  · intro h
    cases l with
    | nil => rfl
    | cons x t => have := (ofL_mem x (x :: t)).2 (by simp); rw [h] at this; cases this
  · rintro rfl; rfl
theorem insL_len (x : Tx) : ∀ l : List Tx, (insL x l).length ≤ l.length + 1
  | [] => by simp [insL]
  | y :: t => by
    unfold insL
    split
    · simp
    · split
      · simp
      · have := insL_len x t; simp; omega
theorem ofL_len : ∀ l : List Tx, (ofL l).length ≤ l.length
  | [] => Nat.le_refl _
  | x :: t => by have h1 := insL_len x (ofL t); have h2 := ofL_len t; show (insL x (ofL t)).length ≤ _; simp; omega
theorem ofL_congr {a b : List Tx} (h : ∀ x, x ∈ a ↔ x ∈ b) : ofL a = ofL b := (ofL_asc a).ext (ofL_asc b) fun x => by rw [ofL_mem, ofL_mem]; exact h x
/-- Two rising lists gone through. -/
def mergeL (f b s : Bool) : List Tx → List Tx → List Tx
  | [], [] => []
  | [], y :: ys => if s then y :: mergeL f b s [] ys else mergeL f b s [] ys
  | x :: xs, [] => if f then x :: mergeL f b s xs [] else mergeL f b s xs []
  | x :: xs, y :: ys =>
    if ltB x y then (if f then x :: mergeL f b s xs (y :: ys) else mergeL f b s xs (y :: ys))
    else if ltB y x then (if s then y :: mergeL f b s (x :: xs) ys else mergeL f b s (x :: xs) ys)
    else (if b then x :: mergeL f b s xs ys else mergeL f b s xs ys)
  termination_by l r => l.length + r.length
theorem mergeL_mem (f b s : Bool) (z : Tx) : ∀ {l r : List Tx}, Asc l → Asc r → (z ∈ mergeL f b s l r ↔ (z ∈ l ∧ z ∉ r ∧ f = true) ∨ (z ∈ l ∧ z ∈ r ∧ b = true) ∨ (z ∉ l ∧ z ∈ r ∧ s = true)) := by
  intro l r
  fun_induction mergeL f b s l r with
  | case1 => intro _ _; simp
  | case2 y ys h ih =>
    intro hl hr
    obtain ⟨h1, h2⟩ := asc_cons.1 hr
    rw [List.mem_cons, ih hl h2]
    simp [h]
  | case3 y ys h ih =>
    intro hl hr
    obtain ⟨h1, h2⟩ := asc_cons.1 hr
    rw [ih hl h2]
    simp [h]
  | case4 x xs h ih =>
    intro hl hr
    obtain ⟨h1, h2⟩ := asc_cons.1 hl
    rw [List.mem_cons, ih h2 hr]
    simp [h]
  | case5 x xs h ih =>
    intro hl hr
    obtain ⟨h1, h2⟩ := asc_cons.1 hl
    rw [ih h2 hr]
    simp [h]
  | case6 x xs y ys hxy h ih =>
    intro hl hr
    obtain ⟨h1, h2⟩ := asc_cons.1 hl
    have hx : x ∉ y :: ys := fun hm => by
      rcases List.mem_cons.1 hm with e | e
      · exact ltB_ne hxy e
      · exact ltB_ne (less_trans x y x hxy (by have := (asc_cons.1 hr).1 x e; exact this)) rfl
    have hx2 : x ∉ xs := fun hm => ltB_ne (h1 x hm) rfl
    rw [List.mem_cons, ih h2 hr]
    by_cases e : z = x
    · subst e; simp [hx, h]
    · simp [e, List.mem_cons]
  | case7 x xs y ys hxy h ih =>
    intro hl hr
    obtain ⟨h1, h2⟩ := asc_cons.1 hl
    have hx : x ∉ y :: ys := fun hm => by
      rcases List.mem_cons.1 hm with e | e
      · exact ltB_ne hxy e
      · exact ltB_ne (less_trans x y x hxy (by have := (asc_cons.1 hr).1 x e; exact this)) rfl
    have hx2 : x ∉ xs := fun hm => ltB_ne (h1 x hm) rfl
    rw [ih h2 hr]
    by_cases e : z = x
    · subst e; simp [hx, h, hx2]
    · simp [e, List.mem_cons]
  | case8 x xs y ys hn hxy h ih =>
    intro hl hr
    obtain ⟨h1, h2⟩ := asc_cons.1 hr
    have hx : y ∉ x :: xs := fun hm => by
      rcases List.mem_cons.1 hm with e | e
      · exact ltB_ne hxy e
      · exact ltB_ne (less_trans y x y hxy (by have := (asc_cons.1 hl).1 y e; exact this)) rfl
    have hx2 : y ∉ ys := fun hm => ltB_ne (h1 y hm) rfl
    rw [List.mem_cons, ih hl h2]
    by_cases e : z = y
    · subst e; simp [hx, h]
    · simp [e, List.mem_cons]
  | case9 x xs y ys hn hxy h ih =>
    intro hl hr
    obtain ⟨h1, h2⟩ := asc_cons.1 hr
    have hx : y ∉ x :: xs := fun hm => by
      rcases List.mem_cons.1 hm with e | e
      · exact ltB_ne hxy e
      · exact ltB_ne (less_trans y x y hxy (by have := (asc_cons.1 hl).1 y e; exact this)) rfl
    have hx2 : y ∉ ys := fun hm => ltB_ne (h1 y hm) rfl
    rw [ih hl h2]
    by_cases e : z = y
    · subst e; simp [hx, h, hx2]
    · simp [e, List.mem_cons]
  | case10 x xs y ys hn hn2 h ih =>
    intro hl hr
    obtain ⟨h1, h2⟩ := asc_cons.1 hl
    obtain ⟨k1, k2⟩ := asc_cons.1 hr
    have e0 : x = y := by
      rcases less_total x y with k | k | k
      · exact absurd k hn
      · exact k
      · exact absurd k hn2
    subst e0
    have hx1 : x ∉ xs := fun hm => ltB_ne (h1 x hm) rfl
    have hx2 : x ∉ ys := fun hm => ltB_ne (k1 x hm) rfl
    rw [List.mem_cons, ih h2 k2]
    by_cases e : z = x
    · subst e; simp [h]
    · simp [e, List.mem_cons]
  | case11 x xs y ys hn hn2 h ih =>
    intro hl hr
    obtain ⟨h1, h2⟩ := asc_cons.1 hl
    obtain ⟨k1, k2⟩ := asc_cons.1 hr
    have e0 : x = y := by
      rcases less_total x y with k | k | k
      · exact absurd k hn
      · exact k
      · exact absurd k hn2
    subst e0
    have hx1 : x ∉ xs := fun hm => ltB_ne (h1 x hm) rfl
    have hx2 : x ∉ ys := fun hm => ltB_ne (k1 x hm) rfl
    rw [ih h2 k2]
    by_cases e : z = x
    · subst e; simp [h, hx1, hx2]
    · simp [e, List.mem_cons]
theorem mergeL_asc (f b s : Bool) : ∀ {l r : List Tx}, Asc l → Asc r → Asc (mergeL f b s l r) := by
  intro l r
  fun_induction mergeL f b s l r with
  | case1 => intro _ _; exact Asc.nil
  | case2 y ys h ih =>
    intro hl hr
    obtain ⟨h1, h2⟩ := asc_cons.1 hr
    refine asc_cons.2 ⟨fun z hz => ?_, ih hl h2⟩
    rw [mergeL_mem f b s z hl h2] at hz
    rcases hz with hz | hz | hz
    · simp at hz
    · exact h1 z hz.2.1
    · exact h1 z hz.2.1
  | case3 y ys h ih => intro hl hr; exact ih hl (asc_cons.1 hr).2
  | case4 x xs h ih =>
    intro hl hr
    obtain ⟨h1, h2⟩ := asc_cons.1 hl
    refine asc_cons.2 ⟨fun z hz => ?_, ih h2 hr⟩
    rw [mergeL_mem f b s z h2 hr] at hz
    rcases hz with hz | hz | hz
    · exact h1 z hz.1
    · exact h1 z hz.1
    · simp at hz
  | case5 x xs h ih => intro hl hr; exact ih (asc_cons.1 hl).2 hr
  | case6 x xs y ys hxy h ih =>
    intro hl hr
    obtain ⟨h1, h2⟩ := asc_cons.1 hl
    refine asc_cons.2 ⟨fun z hz => ?_, ih h2 hr⟩
    have hzr : z ∈ y :: ys → ltB x z = true := fun hm => by
      rcases List.mem_cons.1 hm with e | e
      · subst e; exact hxy
      · exact less_trans x y z hxy ((asc_cons.1 hr).1 z e)
    rw [mergeL_mem f b s z h2 hr] at hz
    rcases hz with hz | hz | hz
    · exact h1 z hz.1
    · exact h1 z hz.1
    · exact hzr hz.2.1
  | case7 x xs y ys hxy h ih => intro hl hr; exact ih (asc_cons.1 hl).2 hr
  | case8 x xs y ys hn hxy h ih =>
    intro hl hr
    obtain ⟨h1, h2⟩ := asc_cons.1 hr
    refine asc_cons.2 ⟨fun z hz => ?_, ih hl h2⟩
    have hzl : z ∈ x :: xs → ltB y z = true := fun hm => by
      rcases List.mem_cons.1 hm with e | e
      · subst e; exact hxy
      · exact less_trans y x z hxy ((asc_cons.1 hl).1 z e)
    rw [mergeL_mem f b s z hl h2] at hz
    rcases hz with hz | hz | hz
    · exact hzl hz.1
    · exact h1 z hz.2.1
    · exact h1 z hz.2.1
  | case9 x xs y ys hn hxy h ih => intro hl hr; exact ih hl (asc_cons.1 hr).2
  | case10 x xs y ys hn hn2 h ih =>
    intro hl hr
    obtain ⟨h1, h2⟩ := asc_cons.1 hl
    obtain ⟨k1, k2⟩ := asc_cons.1 hr
    have e0 : x = y := by
      rcases less_total x y with k | k | k
      · exact absurd k hn
      · exact k
      · exact absurd k hn2
    subst e0
    refine asc_cons.2 ⟨fun z hz => ?_, ih h2 k2⟩
    rw [mergeL_mem f b s z h2 k2] at hz
    rcases hz with hz | hz | hz
    · exact h1 z hz.1
    · exact h1 z hz.1
    · exact k1 z hz.2.1
  | case11 x xs y ys hn hn2 h ih => intro hl hr; exact ih (asc_cons.1 hl).2 (asc_cons.1 hr).2
/-- More; less; both. -/
theorem merge_add (l r : List Tx) : mergeL true true true (ofL l) (ofL r) = ofL (l ++ r) := by
  refine ofL_eq (mergeL_asc _ _ _ (ofL_asc l) (ofL_asc r)) fun x => ?_
  rw [mergeL_mem _ _ _ _ (ofL_asc l) (ofL_asc r), ofL_mem, ofL_mem, List.mem_append]
  by_cases h1 : x ∈ l <;> by_cases h2 : x ∈ r <;> simp [h1, h2]
def lessL (l r : List Tx) : List Tx := ofL (l.filter fun x => decide (x ∉ r))
theorem lessL_mem (l r : List Tx) (x : Tx) : x ∈ lessL l r ↔ x ∈ l ∧ x ∉ r := by
  unfold lessL; rw [ofL_mem, List.mem_filter, decide_eq_true_eq]
theorem lessL_asc (l r : List Tx) : Asc (lessL l r) := ofL_asc _
theorem merge_less (l r : List Tx) : mergeL true false false (ofL l) (ofL r) = lessL l r := by
  refine (mergeL_asc _ _ _ (ofL_asc l) (ofL_asc r)).ext (lessL_asc l r) fun x => ?_
  rw [mergeL_mem _ _ _ _ (ofL_asc l) (ofL_asc r), ofL_mem, ofL_mem, lessL_mem]
  by_cases h1 : x ∈ l <;> by_cases h2 : x ∈ r <;> simp [h1, h2]
def bothL (l r : List Tx) : List Tx := ofL (l.filter fun x => decide (x ∈ r))
theorem bothL_mem (l r : List Tx) (x : Tx) : x ∈ bothL l r ↔ x ∈ l ∧ x ∈ r := by
  unfold bothL; rw [ofL_mem, List.mem_filter, decide_eq_true_eq]
theorem bothL_asc (l r : List Tx) : Asc (bothL l r) := ofL_asc _
theorem merge_both (l r : List Tx) : mergeL false true false (ofL l) (ofL r) = bothL l r := by
  refine (mergeL_asc _ _ _ (ofL_asc l) (ofL_asc r)).ext (bothL_asc l r) fun x => ?_
  rw [mergeL_mem _ _ _ _ (ofL_asc l) (ofL_asc r), ofL_mem, ofL_mem, bothL_mem]
  by_cases h1 : x ∈ l <;> by_cases h2 : x ∈ r <;> simp [h1, h2]
theorem mergeL_len (f b s : Bool) (l r : List Tx) : (mergeL f b s l r).length ≤ l.length + r.length := by
  fun_induction mergeL f b s l r <;> simp at * <;> omega
/-- A rising list as Compact leaves it. -/
def compL : List Tx → List Tx
  | [] => []
  | [x] => [x]
  | x :: y :: t => if x = y then compL (y :: t) else x :: compL (y :: t)
theorem compL_mem (z : Tx) : ∀ l : List Tx, z ∈ compL l ↔ z ∈ l
  | [] => by simp [compL]
  | [x] => by simp [compL]
  | x :: y :: t => by
    have ih := compL_mem z (y :: t)
    unfold compL
    split
    · rename_i h; subst h; rw [ih]; simp
    · rw [List.mem_cons, ih, List.mem_cons (a := z) (b := x)]
theorem compL_asc : ∀ {l : List Tx}, l.Pairwise (fun a b => ltB b a = false) → Asc (compL l)
  | [], _ => Asc.nil
  | [x], _ => by unfold compL; exact asc_cons.2 ⟨by simp, Asc.nil⟩
  | x :: y :: t, h => by
    obtain ⟨h1, h2⟩ := List.pairwise_cons.1 h
    have ih := compL_asc h2
    unfold compL
    split
    · exact ih
    · rename_i hne
      refine asc_cons.2 ⟨fun z hz => ?_, ih⟩
      have hz := (compL_mem z _).1 hz
      have hxy : ltB x y = true := by
        rcases less_total x y with k | k | k
        · exact k
        · exact absurd k hne
        · have := h1 y (by simp); rw [show ltB y x = true from k] at this; cases this
      rcases List.mem_cons.1 hz with e | e
      · subst e; exact hxy
      · have hyz := (List.pairwise_cons.1 h2).1 z e
        rcases less_total y z with k | k | k
        · exact less_trans x y z hxy k
        · subst k; exact hxy
        · rw [show ltB z y = true from k] at hyz; cases hyz
end Go.Proofs.YthojmgjgmbnopaaGreatDoor
/- Sorted and compacted, a list is its set: plain lists. No program is named. -/
namespace Go.Proofs.YthojmgjgmbnopaaGreatDoor
open Go
theorem le_ltB (x y : Tx) : decide (x ≤ y) = !ltB y x := by
  have h : ltB y x = decide (y < x) := bytesLess_eq y x
  rw [h]
  by_cases hl : y < x
  · rw [decide_eq_true hl, decide_eq_false (fun k : x ≤ y => k hl)]; rfl
  · rw [decide_eq_false hl, decide_eq_true (show x ≤ y from hl)]; rfl
theorem msort_mem (l : List Tx) (x : Tx) : x ∈ (l.mergeSort fun x y => decide (x ≤ y)) ↔ x ∈ l := List.mem_mergeSort
theorem msort_sorted (l : List Tx) : (l.mergeSort fun x y => decide (x ≤ y)).Pairwise fun a b => ltB b a = false := by
  have h := List.pairwise_mergeSort (le := fun x y : Tx => decide (x ≤ y))
    (fun a b c h1 h2 => by
      rw [le_ltB] at h1 h2 ⊢
      have h1 : ltB b a = false := by simpa using h1
      have h2 : ltB c b = false := by simpa using h2
      cases e : ltB c a with
      | false => rfl
      | true =>
        rcases less_total b c with k | k | k
        · have := less_trans b c a k e; rw [show Op.bytesLess b a = ltB b a from rfl, h1] at this; cases this
        · subst k; rw [e] at h1; cases h1
        · rw [show ltB c b = true from k] at h2; cases h2)
    (fun a b => by
      rw [le_ltB, le_ltB]
      cases e : ltB b a with
      | false => rfl
      | true => rw [ltB_asymm e]; rfl) l
  exact h.imp fun hab => by rw [le_ltB] at hab; simpa using hab
open Go.Lib in
theorem compact_up {d : Array Tx} (hs : ∀ i j, i ≤ j → j < d.size → ltB d[j]! d[i]! = false) : ∀ m, m ≤ d.size → Asc (compactUpTo d m) ∧ ∀ x, x ∈ compactUpTo d m ↔ ∃ j, j < m ∧ d[j]! = x
  | 0, _ => ⟨by simpa [compactUpTo] using Asc.nil, fun x => by simp [compactUpTo]⟩
  | m + 1, hm => by
    obtain ⟨h1, h2⟩ := compact_up hs m (by omega)
    rw [compactUpTo_succ]
    by_cases hk : keeps d m = true
    · rw [if_pos hk]
      constructor
      · refine List.pairwise_append.2 ⟨h1, List.pairwise_singleton _ _, fun x hx y hy => ?_⟩
        obtain rfl := List.mem_singleton.1 hy
        obtain ⟨j, hj, rfl⟩ := (h2 x).1 hx
        have hne : m ≠ 0 := by omega
        have hd : d[m]! ≠ d[m - 1]! := by
          unfold keeps at hk
          rcases of_decide_eq_true hk with h | h
          · exact absurd h hne
          · exact h
        have hlt : ltB d[m - 1]! d[m]! = true := by
          rcases less_total d[m - 1]! d[m]! with k | k | k
          · exact k
          · exact absurd k.symm hd
          · have := hs (m - 1) m (by omega) (by omega); rw [show ltB d[m]! d[m - 1]! = true from k] at this; cases this
        have hle := hs j (m - 1) (by omega) (by omega)
        rcases less_total d[j]! d[m - 1]! with k | k | k
        · exact less_trans _ _ _ k hlt
        · rw [k]; exact hlt
        · rw [show ltB d[m - 1]! d[j]! = true from k] at hle; cases hle
      · intro x
        rw [List.mem_append, h2, List.mem_singleton]
        constructor
        · rintro (⟨j, hj, e⟩ | e)
          · exact ⟨j, by omega, e⟩
          · exact ⟨m, by omega, e.symm⟩
        · rintro ⟨j, hj, e⟩
          by_cases hjm : j = m
          · subst hjm; exact .inr e.symm
          · exact .inl ⟨j, by omega, e⟩
    · rw [if_neg hk, List.append_nil]
      refine ⟨h1, fun x => ?_⟩
      rw [h2]
      have hd : m ≠ 0 ∧ d[m]! = d[m - 1]! := by
        unfold keeps at hk
        have := of_decide_eq_false (by simpa using hk : decide (m = 0 ∨ d[m]! ≠ d[m - 1]!) = false)
        exact ⟨fun e => this (.inl e), Classical.not_not.1 fun e => this (.inr e)⟩
      constructor
      · rintro ⟨j, hj, e⟩; exact ⟨j, by omega, e⟩
      · rintro ⟨j, hj, e⟩
        by_cases hjm : j = m
        · subst hjm; exact ⟨j - 1, by omega, hd.2.symm.trans e⟩
        · exact ⟨j, by omega, e⟩
theorem compact_ofL (l : List Tx) : Lib.compact (l.mergeSort fun x y => decide (x ≤ y)) = ofL l := by
  have hp := msort_sorted l
  have hm := msort_mem l
  generalize (l.mergeSort fun x y => decide (x ≤ y)) = zs at *
  have hs : ∀ i j, i ≤ j → j < zs.toArray.size → ltB zs.toArray[j]! zs.toArray[i]! = false := fun i j hij hj => by
    have hj' : j < zs.length := by simpa using hj
    have hi' : i < zs.length := by omega
    have e1 : zs.toArray[j]! = zs[j] := by simp [hj']
    have e2 : zs.toArray[i]! = zs[i] := by simp [hi']
    rw [e1, e2]
    rcases Nat.lt_or_ge i j with h | h
    · exact List.pairwise_iff_getElem.1 hp i j hi' hj' h
    · obtain rfl : i = j := by omega
      exact less_irrefl _
  obtain ⟨h1, h2⟩ := compact_up hs zs.length (by simp)
  refine ofL_eq h1 fun x => ?_
  rw [← hm x]
  refine (h2 x).trans ?_
  constructor
  · rintro ⟨j, hj, rfl⟩
    have : zs.toArray[j]! = zs[j] := by simp [hj]
    rw [this]; exact List.getElem_mem hj
  · intro hx
    obtain ⟨j, hj, e⟩ := List.mem_iff_getElem.1 hx
    exact ⟨j, hj, by simp [hj, e]⟩
end Go.Proofs.YthojmgjgmbnopaaGreatDoor
