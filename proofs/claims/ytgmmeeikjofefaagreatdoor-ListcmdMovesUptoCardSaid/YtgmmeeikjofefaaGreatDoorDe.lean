import Derived.Test.YtgmmeeikjofefaaGreatDoorDr
namespace Go.Proofs.YtgmmeeikjofefaaGreatDoor
open Go Go.RowKit
/-! The deque of texts. -/
theorem vw_cut {A : Nat → Prop} {w : World} {v : Value} {n : Nat} {xs : List Value} (h : Vw A w v 1 n xs) (lo hi : Nat) (h1 : lo ≤ hi) (h2 : hi ≤ n) :
    ∃ a c, (∀ W, (Instr.slice 22 v (some (.int .i64 lo)) (some (.int .i64 hi)) none).run Tryz.prog W = .ok (.slice a (hi - lo) c) W) ∧
      (hi = n → ∀ W, (Instr.slice 22 v (some (.int .i64 lo)) none none).run Tryz.prog W = .ok (.slice a (hi - lo) c) W) ∧
      (lo = 0 → ∀ W, (Instr.slice 22 v none (some (.int .i64 hi)) none).run Tryz.prog W = .ok (.slice a (hi - lo) c) W) ∧
      Vw A w (.slice a (hi - lo) c) 1 (hi - lo) ((xs.drop lo).take (hi - lo)) := by
  obtain ⟨i0, hi0, hz0, hz1, hz2⟩ := info_parts infoS
  obtain ⟨⟨a, cap, rfl, g1, g2, g3⟩, g4⟩ := h
  refine ⟨if cap = lo then a else a.map (fun x => x.add lo), cap - lo, fun W => ?_, fun e W => ?_, fun e W => ?_, ⟨⟨_, _, rfl, by omega, by omega, ?_⟩, ?_⟩⟩
  · simp [Instr.slice, run_underlying Tryz.underlying22, Instr.sliceBounds, Instr.sliceBound, asIntOf, sizeOf, typeInfo, hi0, hz1]
    rw [if_pos (by omega), if_pos h1]
  · subst e
    simp [Instr.slice, run_underlying Tryz.underlying22, Instr.sliceBounds, Instr.sliceBound, asIntOf, sizeOf, typeInfo, hi0, hz1]
    intro h; omega
  · subst e
    simp [Instr.slice, run_underlying Tryz.underlying22, Instr.sliceBounds, Instr.sliceBound, asIntOf, sizeOf, typeInfo, hi0]
    intro h; omega
  · rcases Nat.eq_zero_or_pos (hi - lo) with e | e
    · exact .inl e
    · rcases g3 with g3 | ⟨b, off, rfl, g5, g6, g7⟩
      · omega
      · refine .inr ⟨b, off + lo, ?_, g5, g6, fun k u hk => ?_⟩
        · rw [if_neg (by omega)]
          simp [addr_add]
        · have hk' : k < hi - lo := by have := (List.getElem?_eq_some_iff.1 hk).1; simp at this; omega
          rw [List.getElem?_take, if_pos hk', List.getElem?_drop] at hk
          rw [Nat.add_assoc]; exact g7 _ u hk
  · simp [g4]; omega
/-- Block d is a deque of these texts. -/
structure Deq (o : Roles) (w : World) (r : List Nat) (d B : Nat) (sv : Value) (junk l : List (List UInt8)) : Prop where
  blk : Blk o w r d #[sv, .int .i64 junk.length] 166
  row : Row o w (r ++ [0]) 9 1 sv (junk.length + l.length) (junk.map txt ++ l.map txt)
  few : junk.length + l.length ≤ B
def DeqI (o : Roles) (w : World) (r : List Nat) (d B : Nat) (l : List (List UInt8)) : Prop := ∃ sv junk, Deq o w r d B sv junk l
section
variable {o o' : Roles} {w w' : World} {r s : List Nat} {d B : Nat} {sv : Value} {junk l : List (List UInt8)}
theorem Deq.keep (h : Deq o w r d B sv junk l) (st : Stp s o w o' w') (hn : Apart s r) : Deq o' w' r d B sv junk l :=
  ⟨h.blk.keep st (by simpa using hn []), h.row.keep st (hn _), h.few⟩
theorem Deq.below (h : Deq o w r d B sv junk l) (hB : Below w.heap.size w w') : Deq o w' r d B sv junk l := ⟨h.blk.below hB, h.row.below hB, h.few⟩
theorem DeqI.keep (h : DeqI o w r d B l) (st : Stp s o w o' w') (hn : Apart s r) : DeqI o' w' r d B l := by
  obtain ⟨sv, junk, h⟩ := h; exact ⟨sv, junk, h.keep st hn⟩
theorem DeqI.below (h : DeqI o w r d B l) (hB : Below w.heap.size w w') : DeqI o w' r d B l := by
  obtain ⟨sv, junk, h⟩ := h; exact ⟨sv, junk, h.below hB⟩
theorem Deq.vw (h : Deq o w r d B sv junk l) : Vw (fun b => o b = r ++ [0]) w sv 1 (junk.length + l.length) (junk.map txt ++ l.map txt) := h.row.vw
def AllOf (o : Roles) (w : World) (r : List Nat) (l : List (List UInt8)) (e : Ending) (w' : World) : Prop :=
  ∃ a c k, e = .returned (.slice a l.length c) ∧ w' = w.drewN k ∧ Vw (fun b => o b = r ++ [0]) w (.slice a l.length c) 1 l.length (l.map txt)
set_option maxRecDepth 10000 in
theorem dall_ok (h : DeqI o w r d B l) : Calls Tryz.prog 121 #[.pointer (some ⟨d, 0, none⟩)] w (AllOf o w r l) := by
  obtain ⟨sv, junk, h⟩ := h
  obtain ⟨a, c, _, hc2, _, hv⟩ := vw_cut h.vw junk.length (junk.length + l.length) (by omega) (Nat.le_refl _)
  have hc := hc2 rfl
  have e1 : junk.length + l.length - junk.length = l.length := by omega
  have e2 : ((junk.map txt ++ l.map txt).drop junk.length).take l.length = l.map txt := by
    rw [List.drop_append_of_le_length (by simp), List.drop_of_length_le (by simp), List.nil_append, List.take_of_length_le (by simp)]
  rw [e1] at hc hv
  rw [e2] at hv
  have hb := h.blk.cell
  obtain ⟨a0, c0, e3, _⟩ := h.row.slice
  subst e3
  have HV := Lib.hid hv
  clear h hc2 hv e1 e2
  go_enter Tryz.func121, Tryz.ntmps121
  go_wp2_with fail
  go_quiet (fail)
  go_wp2_with fail
  go_ret
  exact ⟨a, c, _, rfl, rfl, HV.out⟩
set_option maxRecDepth 10000 in
theorem dlen_ok (h : DeqI o w r d B l) : Calls Tryz.prog 67 #[.pointer (some ⟨d, 0, none⟩)] w fun e w' => e = .returned (.int .i64 l.length) ∧ ∃ k, w' = w.drewN k := by
  have H := Lib.hid (dall_ok h)
  clear h
  go_enter Tryz.func67, Tryz.ntmps67
  go_wp2_with fail
  refine H.out.mono ?_; rintro e w1 ⟨a, c, k, rfl, rfl, _⟩
  go_wp2_with fail
  go_ret
  exact ⟨rfl, k, rfl⟩
set_option maxRecDepth 10000 in
theorem dlist_ok (h : DeqI o w r d B l) (hB : B ≤ 1099511627776) : Calls Tryz.prog 123 #[.pointer (some ⟨d, 0, none⟩)] w fun e w' => ∃ v', e = .returned v' ∧ Fresh w w' 9 1 v' l.length (l.map txt) := by
  have H := Lib.hid (dall_ok h)
  have hl : l.length ≤ 1099511627776 := by obtain ⟨_, _, h⟩ := h; have := h.few; omega
  clear h
  go_enter Tryz.func123, Tryz.ntmps123
  go_wp2_with fail
  refine H.out.mono ?_; rintro e w1 ⟨a, c, k, rfl, rfl, hv⟩
  have HC := Lib.hid (cloneS_ok (hv.drewN k) (one_list l) hl)
  clear hv
  go_wp2_with fail
  refine HC.out.mono ?_; rintro e w2 ⟨v', rfl, hF⟩
  have HF := Lib.hid (show Fresh w w2 9 1 v' l.length (l.map txt) from ⟨hF.own, (below_drewN (Below.refl _ w) k).trans hF.below⟩)
  clear hF
  obtain ⟨a2, c2, rfl, _⟩ := HF.out.vw.slice
  go_wp2_with fail
  go_ret
  exact ⟨_, rfl, HF.out⟩
set_option maxRecDepth 10000 in
theorem dof_ok {A : Nat → Prop} (o : Roles) (r : List Nat) {v : Value} {n : Nat} (hv : Vw A w v 1 n (l.map txt)) (hn : n ≤ 1099511627776) : Calls Tryz.prog 120 #[v] w fun e w' => ∃ d o', e = .returned (.pointer (some ⟨d, 0, none⟩)) ∧ DeqI o' w' r d n l ∧ ∀ s, Stp s o w o' w' := by
  have hl : n = l.length := by have := hv.len; simpa using this.symm
  subst hl
  have HC := Lib.hid (cloneS_ok hv (one_list l) hn)
  obtain ⟨a, c, rfl, _⟩ := hv.slice
  clear hv
  go_enter Tryz.func120, Tryz.ntmps120
  go_wp2_with fail
  refine HC.out.mono ?_; rintro e w2 ⟨v', rfl, hF⟩
  obtain ⟨o1, hrow, hst⟩ := hF.row o (r ++ [0])
  obtain ⟨a2, c2, rfl, _⟩ := hrow.slice
  have HD := Lib.hid (show DeqI (o1.put w2.heap.size r) (w2.alloc (.cells #[.slice a2 l.length c2, .int .i64 0] 166)) r w2.heap.size l.length l from
    ⟨_, [], ⟨Blk.new o1 w2 r _ 166 _ rfl, by simpa using hrow.alloc _ w2.heap.size r rfl, by simp⟩⟩)
  have HST := Lib.hid (fun s => (hst s).alloc (r' := r) (.cells #[.slice a2 l.length c2, .int .i64 0] 166) w2.heap.size rfl)
  clear hF hrow hst
  go_wp2_with fail
  go_ret
  exact ⟨_, _, rfl, HD.out, HST.out⟩
end
end Go.Proofs.YtgmmeeikjofefaaGreatDoor
