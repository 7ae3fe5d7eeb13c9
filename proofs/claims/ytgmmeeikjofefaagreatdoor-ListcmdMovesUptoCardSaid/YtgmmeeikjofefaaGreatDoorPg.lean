import Derived.Test.YtgmmeeikjofefaaGreatDoorPf
import Derived.Deep.RegionLaw
import Derived.Laws.IdiomCopy
namespace Go.Proofs.YtgmmeeikjofefaaGreatDoor
open Go Go.RowKit
section
theorem Row.fill {o : Roles} {w : World} {r : List Nat} {e : TypeId} {g n cap k : Nat} {xs vs : List Value} (h : Row o w r e 1 (.slice (some ⟨g, 0, none⟩) n cap) n xs) (hk : k + vs.length ≤ n) :
    Row o (w.setCells g k vs) r e 1 (.slice (some ⟨g, 0, none⟩) n cap) n (xs.take k ++ vs ++ xs.drop (k + vs.length)) := by
  rcases h.form with ⟨h1, _, _⟩ | ⟨g', cap', cur, h1, hb, h3, h4, h5, h6⟩
  · cases h1
  · injection h1 with e1 _ e3
    injection e1 with e1
    injection e1 with e1
    subst e1 e3
    have hxl : xs.length = n := by have := h.len; simpa using this
    refine ⟨⟨by simp [hxl]; omega, .inr ⟨g, cap, _, rfl, Nat.zero_le _, heap_setCells_at g e _ vs k w cur hb.heap, h3, h4, by rw [setMany_size, h5], ?_⟩⟩, h.role⟩
    apply List.ext_getElem?
    intro j
    rw [List.getElem?_take]
    have hg := setMany_get vs cur k (by omega) j
    have hx : ∀ j, j < n → cur[j]? = xs[j]? := fun j hj => by rw [← h6, List.getElem?_take, if_pos (by omega)]; simp
    by_cases hj : j < n * 1
    · rw [if_pos hj, Array.getElem?_toList, hg]
      by_cases h1 : j < k
      · rw [if_pos h1, hx j (by omega), List.append_assoc, List.getElem?_append_left (by simp; omega), List.getElem?_take, if_pos h1]
      · rw [if_neg h1]
        by_cases h2 : j < k + vs.length
        · rw [if_pos h2, List.getElem?_append_left (by simp; omega), List.getElem?_append_right (by simp; omega)]
          congr 1
          simp; omega
        · rw [if_neg h2, hx j (by omega), List.getElem?_append_right (by simp; omega), List.getElem?_drop]
          congr 1
          simp; omega
    · rw [if_neg hj, List.getElem?_eq_none (by simp [hxl]; omega)]
theorem made_txt (n : Nat) : (madeCells (Value.string ⟨#[]⟩).cells (n * 1)).toList = (List.replicate n ([] : List UInt8)).map txt := by
  simp only [madeCells, Value.cells]
  apply List.ext_getElem
  · simp
  · intro i h1 h2
    simp [Nat.mod_one, txt]
theorem cutR (g M room : Nat) (h : room ≤ M) : ∃ a, (∀ W, (Instr.slice 22 (.slice (some ⟨g, 0, none⟩) M M) (some (.int .i64 room)) none none).run Tryz.prog W = .ok (.slice a (M - room) (M - room)) W) ∧ (room < M → a = some ⟨g, room, none⟩) := by
  obtain ⟨i0, hi0, hz0, hz1, hz2⟩ := info_parts infoS
  refine ⟨if M = room then some ⟨g, 0, none⟩ else some ⟨g, room, none⟩, fun W => ?_, fun hl => if_neg (by omega)⟩
  simp [Instr.slice, run_underlying Tryz.underlying22, Instr.sliceBounds, Instr.sliceBound, asIntOf, sizeOf, typeInfo, hi0, hz1, addr_add]
  intro h'; omega
set_option maxRecDepth 10000 in
theorem copy_run {A : Nat → Prop} {o : Roles} {W : World} {r : List Nat} {g M room c4 c2 : Nat} {a4 a2 : Option Addr} {xs : List Value} {l : List (List UInt8)} (hrow : Row o W r 9 1 (.slice (some ⟨g, 0, none⟩) M M) M xs) (hM : room + l.length = M) (ha : room < M → a4 = some ⟨g, room, none⟩)
    (hv : Vw A W (.slice a2 l.length c2) 1 l.length (l.map txt)) (ty : TypeId) : (Builtin.copy_ #[22, 22] ty #[.slice a4 l.length c4, .slice a2 l.length c2]).run Tryz.prog W = .ok (goInt l.length) (W.setCells g room (l.map txt)) := by
  obtain ⟨i0, hi0, hz0, hz1, hz2⟩ := info_parts infoS
  have hs : (Tryz.prog.info? 9).map (·.size) = some 1 := by rw [hi0]; simp [hz1]
  by_cases hl : l.length = 0
  · have : l = [] := List.eq_nil_of_length_eq_zero hl
    subst this
    have h := run_copy_none (P := Tryz.prog) W 22 22 ty 9 a4 a2 0 c4 0 c2 Tryz.underlying22 hs rfl
    rw [List.length_nil, List.map_nil]
    exact h
  · obtain ⟨⟨a, c, e, _, _, h3⟩, _⟩ := hv
    injection e with e1 _ e3
    subst e1 e3
    rcases h3 with h3 | ⟨b, off, rfl, _, _, hc⟩
    · omega
    rw [ha (by omega)]
    have hrow2 := fun j (hj : j < l.length) => hrow.set1 (k := room + j) (by omega) (.string ⟨#[]⟩)
    have hxl : xs.length = M := by have := hrow.len; simpa using this
    have h := run_copy_cells (P := Tryz.prog) W 22 22 ty 9 g room l.length c4 ⟨b, off, none⟩ l.length c2 (l.map txt) Tryz.underlying22 hs (by simp) (fun j v hj => by rw [addr_add]; exact hc j v hj)
      (fun j hj => by
        obtain ⟨g2, c3, e, _, _, _, hce, _⟩ := hrow2 j (by simpa using hj)
        injection e with e1 _ _
        injection e1 with e1
        injection e1 with e1 _ _
        subst e1
        have hj' : j < l.length := by simpa using hj
        rw [hce, List.getElem?_eq_getElem (by omega)]; rfl)
      (fun j hj => by
        obtain ⟨g2, c3, e, _, _, hz, _, _⟩ := hrow2 j (by simpa using hj)
        injection e with e1 _ _
        injection e1 with e1
        injection e1 with e1 _ _
        subst e1
        exact hz) (one_list l)
    simpa using h
theorem step_copy {ops : Array Oper} {op : Oper} {a : Act} {K : Act → World → Prop} {Q : Exit → Act → World → Prop} {E : Prop} {w w' : World} {v vd vs : Value} (hgd : op.guard = none) (d s : Operand)
    (ho : op.op = .call { callee := .builtin .copy, args := #[d, s], argTypes := #[22, 22] }) (hd : a.eval d = vd) (hs : a.eval s = vs) (hr : ∀ ty, (Builtin.copy_ #[22, 22] ty #[vd, vs]).run Tryz.prog w = .ok v w') (h : K (a.put op.dst v) w') :
    if Region.wanted op (yielded ops a.tmps) = true then Oper.wp Tryz.prog op a w K Q else E := by
  have hw : Region.wanted op (yielded ops a.tmps) = true := by simp [Region.wanted, hgd]
  rw [if_pos hw]
  unfold Oper.wp execOp
  simp only [ho, resolve, invoke, builtin, Sem.run_bind, Sem.run_pure, Result.andThen_ok, List.map_toArray, List.map_cons, List.map_nil, hd, hs, hr]
  exact h
end
end Go.Proofs.YtgmmeeikjofefaaGreatDoor
