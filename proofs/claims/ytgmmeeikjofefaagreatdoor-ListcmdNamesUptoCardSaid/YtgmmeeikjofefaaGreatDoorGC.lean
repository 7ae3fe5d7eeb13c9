import Derived.Test.YtgmmeeikjofefaaGreatDoorGB
import Derived.Lib.SliceRun
import Derived.OwnWalk
import Derived.Deep.RegionLaw
import Derived.Laws.IdiomCopy
namespace Go.Proofs.YtgmmeeikjofefaaGreatDoor
open Go Go.RowKit
/-! The deque of texts. -/
theorem vw_cut {A : Nat → Prop} {w : World} {v : Value} {n : Nat} {xs : List Value} (h : Vw A w v 1 n xs) (lo hi : Nat) (h1 : lo ≤ hi) (h2 : hi ≤ n) :
    ∃ a c, (∀ W, (Instr.slice 22 v (some (.int .i64 lo)) (some (.int .i64 hi)) none).run Tryz.prog W = .ok (.slice a (hi - lo) c) W) ∧
      (hi = n → ∀ W, (Instr.slice 22 v (some (.int .i64 lo)) none none).run Tryz.prog W = .ok (.slice a (hi - lo) c) W) ∧
      (lo = 0 → ∀ W, (Instr.slice 22 v none (some (.int .i64 hi)) none).run Tryz.prog W = .ok (.slice a (hi - lo) c) W) ∧
      Vw A w (.slice a (hi - lo) c) 1 (hi - lo) ((xs.drop lo).take (hi - lo)) := by
  obtain ⟨i0, hi0, hz0, hz1, hz2⟩ := info_parts infoS
  obtain ⟨⟨a, cap, rfl, g1, g2, g3⟩, g4⟩ := h
  refine ⟨if cap = lo then a else a.map (fun x => x.add lo), cap - lo, fun W => ?_, fun e W => ?_, fun e W => ?_, ⟨⟨_, _, rfl, by omega, by omega, ?_⟩, ?_⟩⟩
  · simp [Instr.slice, run_underlying Tryz.underlying22, Instr.sliceBounds, Instr.sliceBound, asIntOf, sizeOf, typeInfo, hi0, hz1]
    rw [if_pos (by omega), if_pos h1]
  · subst e
    simp [Instr.slice, run_underlying Tryz.underlying22, Instr.sliceBounds, Instr.sliceBound, asIntOf, sizeOf, typeInfo, hi0, hz1]
    intro h; omega
  · subst e
    simp [Instr.slice, run_underlying Tryz.underlying22, Instr.sliceBounds, Instr.sliceBound, asIntOf, sizeOf, typeInfo, hi0]
    intro h; omega
  · rcases Nat.eq_zero_or_pos (hi - lo) with e | e
    · exact .inl e
    · rcases g3 with g3 | ⟨b, off, rfl, g5, g6, g7⟩
      · omega
      · refine .inr ⟨b, off + lo, ?_, g5, g6, fun k u hk => ?_⟩
        · rw [if_neg (by omega)]
          simp [addr_add]
        · have hk' : k < hi - lo := by have := (List.getElem?_eq_some_iff.1 hk).1; simp at this; omega
          rw [List.getElem?_take, if_pos hk', List.getElem?_drop] at hk
          rw [Nat.add_assoc]; exact g7 _ u hk
  · simp [g4]; omega
/-- Block d is a deque of these texts. -/
structure Deq (o : Roles) (w : World) (r : List Nat) (d B : Nat) (sv : Value) (junk l : List (List UInt8)) : Prop where
  blk : Blk o w r d #[sv, .int .i64 junk.length] 166
  row : Row o w (r ++ [0]) 9 1 sv (junk.length + l.length) (junk.map txt ++ l.map txt)
  few : junk.length + l.length ≤ B
def DeqI (o : Roles) (w : World) (r : List Nat) (d B : Nat) (l : List (List UInt8)) : Prop := ∃ sv junk, Deq o w r d B sv junk l
section
variable {o o' : Roles} {w w' : World} {r s : List Nat} {d B : Nat} {sv : Value} {junk l : List (List UInt8)}
theorem Deq.keep (h : Deq o w r d B sv junk l) (st : Stp s o w o' w') (hn : Apart s r) : Deq o' w' r d B sv junk l :=
  ⟨h.blk.keep st (by simpa using hn []), h.row.keep st (hn _), h.few⟩
theorem Deq.below (h : Deq o w r d B sv junk l) (hB : Below w.heap.size w w') : Deq o w' r d B sv junk l := ⟨h.blk.below hB, h.row.below hB, h.few⟩
theorem DeqI.keep (h : DeqI o w r d B l) (st : Stp s o w o' w') (hn : Apart s r) : DeqI o' w' r d B l := by
  obtain ⟨sv, junk, h⟩ := h; exact ⟨sv, junk, h.keep st hn⟩
theorem DeqI.below (h : DeqI o w r d B l) (hB : Below w.heap.size w w') : DeqI o w' r d B l := by
  obtain ⟨sv, junk, h⟩ := h; exact ⟨sv, junk, h.below hB⟩
theorem Deq.vw (h : Deq o w r d B sv junk l) : Vw (fun b => o b = r ++ [0]) w sv 1 (junk.length + l.length) (junk.map txt ++ l.map txt) := h.row.vw
def AllOf (o : Roles) (w : World) (r : List Nat) (l : List (List UInt8)) (e : Ending) (w' : World) : Prop :=
  ∃ a c k, e = .returned (.slice a l.length c) ∧ w' = w.drewN k ∧ Vw (fun b => o b = r ++ [0]) w (.slice a l.length c) 1 l.length (l.map txt)
set_option maxRecDepth 10000 in
theorem dall_ok (h : DeqI o w r d B l) : Calls Tryz.prog 121 #[.pointer (some ⟨d, 0, none⟩)] w (AllOf o w r l) := by
  obtain ⟨sv, junk, h⟩ := h
  obtain ⟨a, c, _, hc2, _, hv⟩ := vw_cut h.vw junk.length (junk.length + l.length) (by omega) (Nat.le_refl _)
  have hc := hc2 rfl
  have e1 : junk.length + l.length - junk.length = l.length := by omega
  have e2 : ((junk.map txt ++ l.map txt).drop junk.length).take l.length = l.map txt := by
    rw [List.drop_append_of_le_length (by simp), List.drop_of_length_le (by simp), List.nil_append, List.take_of_length_le (by simp)]
  rw [e1] at hc hv
  rw [e2] at hv
  have hb := h.blk.cell
  obtain ⟨a0, c0, e3, _⟩ := h.row.slice
  subst e3
  have HV := Lib.hid hv
  clear h hc2 hv e1 e2
  go_enter Tryz.func121, Tryz.ntmps121
  go_wp2_with fail
  go_quiet (fail)
  go_wp2_with fail
  go_ret
  exact ⟨a, c, _, rfl, rfl, HV.out⟩
set_option maxRecDepth 10000 in
theorem dlen_ok (h : DeqI o w r d B l) : Calls Tryz.prog 67 #[.pointer (some ⟨d, 0, none⟩)] w fun e w' => e = .returned (.int .i64 l.length) ∧ ∃ k, w' = w.drewN k := by
  have H := Lib.hid (dall_ok h)
  clear h
  go_enter Tryz.func67, Tryz.ntmps67
  go_wp2_with fail
  refine H.out.mono ?_; rintro e w1 ⟨a, c, k, rfl, rfl, _⟩
  go_wp2_with fail
  go_ret
  exact ⟨rfl, k, rfl⟩
set_option maxRecDepth 10000 in
theorem dlist_ok (h : DeqI o w r d B l) (hB : B ≤ 1099511627776) : Calls Tryz.prog 123 #[.pointer (some ⟨d, 0, none⟩)] w fun e w' => ∃ v', e = .returned v' ∧ Fresh w w' 9 1 v' l.length (l.map txt) := by
  have H := Lib.hid (dall_ok h)
  have hl : l.length ≤ 1099511627776 := by obtain ⟨_, _, h⟩ := h; have := h.few; omega
  clear h
  go_enter Tryz.func123, Tryz.ntmps123
  go_wp2_with fail
  refine H.out.mono ?_; rintro e w1 ⟨a, c, k, rfl, rfl, hv⟩
  have HC := Lib.hid (cloneS_ok (hv.drewN k) (one_list l) hl)
  clear hv
  go_wp2_with fail
  refine HC.out.mono ?_; rintro e w2 ⟨v', rfl, hF⟩
  have HF := Lib.hid (show Fresh w w2 9 1 v' l.length (l.map txt) from ⟨hF.own, (below_drewN (Below.refl _ w) k).trans hF.below⟩)
  clear hF
  obtain ⟨a2, c2, rfl, _⟩ := HF.out.vw.slice
  go_wp2_with fail
  go_ret
  exact ⟨_, rfl, HF.out⟩
set_option maxRecDepth 10000 in
theorem dof_ok {A : Nat → Prop} (o : Roles) (r : List Nat) {v : Value} {n : Nat} (hv : Vw A w v 1 n (l.map txt)) (hn : n ≤ 1099511627776) : Calls Tryz.prog 120 #[v] w fun e w' => ∃ d o', e = .returned (.pointer (some ⟨d, 0, none⟩)) ∧ DeqI o' w' r d n l ∧ ∀ s, Stp s o w o' w' := by
  have hl : n = l.length := by have := hv.len; simpa using this.symm
  subst hl
  have HC := Lib.hid (cloneS_ok hv (one_list l) hn)
  obtain ⟨a, c, rfl, _⟩ := hv.slice
  clear hv
  go_enter Tryz.func120, Tryz.ntmps120
  go_wp2_with fail
  refine HC.out.mono ?_; rintro e w2 ⟨v', rfl, hF⟩
  obtain ⟨o1, hrow, hst⟩ := hF.row o (r ++ [0])
  obtain ⟨a2, c2, rfl, _⟩ := hrow.slice
  have HD := Lib.hid (show DeqI (o1.put w2.heap.size r) (w2.alloc (.cells #[.slice a2 l.length c2, .int .i64 0] 166)) r w2.heap.size l.length l from
    ⟨_, [], ⟨Blk.new o1 w2 r _ 166 _ rfl, by simpa using hrow.alloc _ w2.heap.size r rfl, by simp⟩⟩)
  have HST := Lib.hid (fun s => (hst s).alloc (r' := r) (.cells #[.slice a2 l.length c2, .int .i64 0] 166) w2.heap.size rfl)
  clear hF hrow hst
  go_wp2_with fail
  go_ret
  exact ⟨_, _, rfl, HD.out, HST.out⟩
end
end Go.Proofs.YtgmmeeikjofefaaGreatDoor
namespace Go.Proofs.YtgmmeeikjofefaaGreatDoor
open Go Go.RowKit
section
variable {o : Roles} {w : World} {r : List Nat} {d B : Nat} {l : List (List UInt8)}
theorem np2 {r : List Nat} {a : Nat} : r ++ [a] ≠ r := by simp
set_option maxRecDepth 10000 in
theorem dpushBack_ok {A : Nat → Prop} (h : DeqI o w r d B l) {v : Value} {ws : List (List UInt8)} (hv : Vw A w v 1 ws.length (ws.map txt)) (hn : B + ws.length ≤ 1099511627776) :
    Calls Tryz.prog 65 #[.pointer (some ⟨d, 0, none⟩), v] w fun e w' => e = .returned (.tuple #[]) ∧ ∃ o', DeqI o' w' r d (B + ws.length) (l ++ ws) ∧ Stp r o w o' w' := by
  obtain ⟨sv, junk, h⟩ := h
  have hf := h.few
  have HSRC := Lib.hid (hv.src (P := Tryz.prog) Tryz.underlying22 (one_list ws))
  obtain ⟨i0, hi0, hz0, hz1, hz2⟩ := info_parts infoS
  have hb := h.blk.cell
  obtain ⟨a0, c0, e3, _⟩ := h.row.slice
  subst e3
  obtain ⟨a1, c1, e4, _⟩ := hv.slice
  subst e4
  have HD := Lib.hid h
  clear h hv
  go_enter Tryz.func65, Tryz.ntmps65
  go_wp2_with (
    at_builtin
    refine wpList_app _ rfl _ _ 22 22 rfl 9 i0 _ 1 16 Tryz.underlying22 hi0 hz0 hz1 hz2 rfl rfl HD.out.row rfl HSRC.out (by unfold maxLen; omega) (by omega) ?_
    intro v' w1 o1 hrow hst
    obtain ⟨a2, c2, e5, _⟩ := id hrow.slice
    subst e5
    have hblk := HD.out.blk.keep hst np1
    have hb1 := hblk.cell
    have hf1 := hblk.free
    have HROW := Lib.hid hrow
    have HBLK := Lib.hid hblk
    have HST := Lib.hid hst
    clear hrow hst hblk hb)
  go_end0
  refine ⟨rfl, o1, ⟨.slice a2 (junk.length + l.length + ws.length) c2, junk, ?_, ?_, by simp; omega⟩, ?_⟩
  · exact HBLK.out.setCell 0 _
  · have hr := HROW.out.setCell ⟨d, 0, none⟩ (.slice a2 (junk.length + l.length + ws.length) c2) (by show o1 d ≠ r ++ [0]; rw [HBLK.out.role]; exact np2.symm)
    simpa [Nat.add_assoc] using hr
  · exact (HST.out.wide (List.prefix_append _ _)).setCell (by show r <+: o1 d; rw [HBLK.out.role]; exact List.prefix_refl _) _
/-- The ends of a piece. -/
def loE (n : Nat) (a : Int) : Int := if a < 0 then max 0 (a + n) else a
def hiE (n : Nat) (b : Int) : Int := min (if b < 0 then b + n else b) ((n : Int) - 1)
def endsL (n : Nat) (a b : Int) : Nat × Nat := if hiE n b < loE n a then (0, 0) else ((loE n a).toNat, (hiE n b + 1).toNat)
theorem loE_neg {n : Nat} {a : Int} (h : a < 0) : loE n a = max 0 (a + n) := if_pos h
theorem loE_pos {n : Nat} {a : Int} (h : ¬ a < 0) : loE n a = a := if_neg h
theorem hiE_neg {n : Nat} {b : Int} (h : b < 0) : hiE n b = min (b + n) ((n : Int) - 1) := by unfold hiE; rw [if_pos h]
theorem hiE_pos {n : Nat} {b : Int} (h : ¬ b < 0) : hiE n b = min b ((n : Int) - 1) := by unfold hiE; rw [if_neg h]
theorem loE_ge (n : Nat) (a : Int) : 0 ≤ loE n a := by
  by_cases h : a < 0
  · rw [loE_neg h]; omega
  · rw [loE_pos h]; omega
theorem endsL_bad {n : Nat} {a b : Int} (h : hiE n b < loE n a) : endsL n a b = (0, 0) := if_pos h
theorem endsL_good {n : Nat} {a b : Int} (h : ¬ hiE n b < loE n a) : endsL n a b = ((loE n a).toNat, (hiE n b + 1).toNat) := if_neg h
end
end Go.Proofs.YtgmmeeikjofefaaGreatDoor
namespace Go.Proofs.YtgmmeeikjofefaaGreatDoor
open Go Go.RowKit
section
variable {o : Roles} {w : World} {r : List Nat} {d B : Nat} {l : List (List UInt8)}
def EndsDid (w : World) (n : Nat) (a b : Int) (e : Ending) (w' : World) : Prop :=
  ∃ x y : Int, e = .returned (.tuple #[.int .i64 x, .int .i64 y]) ∧ x = (endsL n a b).1 ∧ y = (endsL n a b).2 ∧ ∃ k, w' = w.drewN k
set_option maxRecDepth 10000 in
set_option maxHeartbeats 1000000 in
theorem dends_ok (h : DeqI o w r d B l) (hB : B ≤ 1099511627776) (a b : Int) (ha : -9223372036854775808 ≤ a ∧ a ≤ 9223372036854775807) (hb : -9223372036854775808 ≤ b ∧ b ≤ 9223372036854775807) :
    Calls Tryz.prog 128 #[.pointer (some ⟨d, 0, none⟩), .int .i64 a, .int .i64 b] w (EndsDid w l.length a b) := by
  have H := Lib.hid (dlen_ok h)
  have hl : l.length ≤ 1099511627776 := by obtain ⟨_, _, h⟩ := h; have := h.few; omega
  clear h
  generalize l.length = n at *
  go_enter Tryz.func128, Tryz.ntmps128
  go_wp2_with fail
  refine H.out.mono ?_; rintro e w1 ⟨rfl, k, rfl⟩
  go_wp2_with fail
  all_goals (
    go_ret2
    have hlo := loE_ge n a
    have e1 : (a < 0 → loE n a = max 0 (a + n)) ∧ (¬ a < 0 → loE n a = a) := ⟨loE_neg, loE_pos⟩
    have e2 : (b < 0 → hiE n b = min (b + n) ((n : Int) - 1)) ∧ (¬ b < 0 → hiE n b = min b ((n : Int) - 1)) := ⟨hiE_neg, hiE_pos⟩
    by_cases hq : hiE n b < loE n a
    · rw [EndsDid, endsL_bad hq]
      refine ⟨_, _, rfl, ?_, ?_, k, rfl⟩
      · first | rfl | (dsimp; omega) | omega
      · first | rfl | (dsimp; omega) | omega
    · rw [EndsDid, endsL_good hq]
      refine ⟨_, _, rfl, ?_, ?_, k, rfl⟩
      · dsimp; omega
      · dsimp; omega)
theorem endsL_ok (n : Nat) (a b : Int) : (endsL n a b).1 ≤ (endsL n a b).2 ∧ (endsL n a b).2 ≤ n := by
  by_cases hq : hiE n b < loE n a
  · rw [endsL_bad hq]; exact ⟨Nat.le_refl _, Nat.zero_le _⟩
  · rw [endsL_good hq]
    have h1 := loE_ge n a
    have h2 : hiE n b ≤ (n : Int) - 1 := by unfold hiE; omega
    constructor
    · show (loE n a).toNat ≤ (hiE n b + 1).toNat; omega
    · show (hiE n b + 1).toNat ≤ n; omega
def pieceL (l : List (List UInt8)) (a b : Int) : List (List UInt8) := (l.drop (endsL l.length a b).1).take ((endsL l.length a b).2 - (endsL l.length a b).1)
set_option maxRecDepth 10000 in
theorem dslice_ok (h : DeqI o w r d B l) (hB : B ≤ 1099511627776) (a b : Int) (ha : -9223372036854775808 ≤ a ∧ a ≤ 9223372036854775807) (hb : -9223372036854775808 ≤ b ∧ b ≤ 9223372036854775807) :
    Calls Tryz.prog 77 #[.pointer (some ⟨d, 0, none⟩), .int .i64 a, .int .i64 b] w fun e w' => ∃ v', e = .returned v' ∧ Fresh w w' 9 1 v' (pieceL l a b).length ((pieceL l a b).map txt) := by
  have HE := Lib.hid (dends_ok h hB a b ha hb)
  have HA := Lib.hid (fun k => dall_ok (h.below (below_drewN (Below.refl _ w) k)))
  have hl : l.length ≤ 1099511627776 := by obtain ⟨_, _, h⟩ := h; have := h.few; omega
  obtain ⟨hE1, hE2⟩ := endsL_ok l.length a b
  have HP := Lib.hid (show (pieceL l a b).map txt = ((l.map txt).drop (endsL l.length a b).1).take ((endsL l.length a b).2 - (endsL l.length a b).1) by unfold pieceL; rw [List.map_take, List.map_drop])
  have hpl : (pieceL l a b).length = (endsL l.length a b).2 - (endsL l.length a b).1 := by unfold pieceL; simp; omega
  have HPL := Lib.hid hpl
  have HO := Lib.hid (one_list (pieceL l a b))
  clear h hpl
  unfold EndsDid at HE
  generalize (endsL l.length a b).1 = lo at *
  generalize (endsL l.length a b).2 = hi at *
  generalize pieceL l a b = P at *
  go_enter Tryz.func77, Tryz.ntmps77
  go_wp2_with fail
  refine HE.out.mono ?_; rintro e w1 ⟨x, y, rfl, rfl, rfl, k, rfl⟩
  go_wp2_with fail
  refine (HA.out k).mono ?_; rintro e w2 ⟨a2, c2, k2, rfl, rfl, hv⟩
  obtain ⟨a3, c3, hcut, _, _, hv3⟩ := vw_cut hv lo hi hE1 hE2
  have hv4 : Vw (fun b => o b = r ++ [0]) (w.drewN (k + k2)) _ 1 _ _ := hv3.stay (Nat.le_refl _) (fun _ _ _ => rfl)
  rw [← HP.out, ← HPL.out] at hv4
  rw [← HPL.out] at hcut
  have HC := Lib.hid (cloneS_ok hv4 HO.out (by have := HPL.out; omega))
  clear hv hv3 hv4
  go_wp2_with fail
  refine HC.out.mono ?_; rintro e w3 ⟨v', rfl, hF⟩
  have HF := Lib.hid (show Fresh w w3 9 1 v' P.length (P.map txt) from ⟨hF.own, (below_drewN (Below.refl _ w) (k + k2)).trans hF.below⟩)
  clear hF
  obtain ⟨a5, c5, rfl, _⟩ := HF.out.vw.slice
  go_wp2_with fail
  go_ret
  exact ⟨_, rfl, HF.out⟩
end
end Go.Proofs.YtgmmeeikjofefaaGreatDoor
namespace Go.Proofs.YtgmmeeikjofefaaGreatDoor
open Go Go.RowKit
/-! PopFront, PopBack, PushFront. -/
section
variable {o : Roles} {w : World} {r : List Nat} {d B : Nat} {l : List (List UInt8)}
theorem set_append_mid {α : Type} (a b : List α) (x y : α) : (a ++ x :: b).set a.length y = a ++ y :: b := by
  rw [List.set_append, if_neg (by omega)]; simp
/-- One place of a row is written. -/
theorem Row.set1 {o : Roles} {w : World} {r : List Nat} {e : TypeId} {v : Value} {n : Nat} {xs : List Value} (h : Row o w r e 1 v n xs) {k : Nat} (hk : k < n) (u : Value) :
    ∃ g cap, v = .slice (some ⟨g, 0, none⟩) n cap ∧ n ≤ cap ∧ o g = r ∧ w.frozen? ⟨g, k, none⟩ = false ∧ (w.cell? ⟨g, k, none⟩ = xs[k]?) ∧ Row o (w.setCell ⟨g, k, none⟩ u) r e 1 v n (xs.set k u) := by
  rcases h.form with ⟨_, h2, _⟩ | ⟨g, cap, cur, h1, hb, h3, h4, h5, h6⟩
  · omega
  · subst h1
    have hcell : w.cell? ⟨g, k, none⟩ = xs[k]? := by
      rw [hb.cell, ← h6, List.getElem?_take, if_pos (by omega)]; simp
    refine ⟨g, cap, rfl, h3, hb.role, hb.free k, hcell, ⟨⟨by simpa using h.own.1, .inr ⟨g, cap, cur.setIfInBounds k u, rfl, Nat.zero_le _, (hb.setCell k u).heap, h3, h4, by simpa using h5, ?_⟩⟩, h.role⟩⟩
    rw [Array.toList_setIfInBounds, List.take_set, h6]
theorem vw_head {A : Nat → Prop} {w : World} {a : Option Addr} {n c : Nat} {xs : List Value} (h : Vw A w (.slice a n c) 1 n xs) (hi : Nat) (h1 : hi ≤ n) : Vw A w (.slice a hi c) 1 hi (xs.take hi) := by
  obtain ⟨⟨a0, c0, e, g1, g2, g3⟩, g4⟩ := h
  injection e with e1 e2 e3
  subst e1 e3
  refine ⟨⟨a, c, rfl, by omega, g2, ?_⟩, by simp [g4]; omega⟩
  rcases g3 with g3 | ⟨b, off, e, g5, g6, g7⟩
  · left; omega
  · exact .inr ⟨b, off, e, g5, g6, fun k u hk => g7 k u (by
      have hk' : k < hi := by have := (List.getElem?_eq_some_iff.1 hk).1; simp at this; omega
      rw [List.getElem?_take, if_pos hk'] at hk; exact hk)⟩
theorem cut1 (g n cap lo : Nat) (h1 : lo + 1 ≤ n) (h2 : n ≤ cap) (I J : Int) (hI : I = lo) (hJ : J = lo + 1) (W : World) : (Instr.slice 22 (.slice (some ⟨g, 0, none⟩) n cap) (some (.int .i64 I)) (some (.int .i64 J)) none).run Tryz.prog W = .ok (.slice (some ⟨g, lo, none⟩) 1 (cap - lo)) W := by
  subst hI hJ
  obtain ⟨i0, hi0, hz0, hz1, hz2⟩ := info_parts infoS
  simp [Instr.slice, run_underlying Tryz.underlying22, Instr.sliceBounds, Instr.sliceBound, asIntOf, sizeOf, typeInfo, hi0, hz1, addr_add]
  rw [if_pos (by omega)]
  simp
  omega
theorem zeroStr (w : World) : (zeroValue 9).run Tryz.prog w = .ok (.string ⟨#[]⟩) w := by
  obtain ⟨i, hi, hz, _, _⟩ := info_parts infoS
  simp [zeroValue, typeInfo, hi, hz]
theorem wpList_clear1 {ops : Array Oper} {rest : List Oper} {op : Oper} {a : Act} {Q : Exit → Act → World → Prop} {w : World} (hg : op.guard = none) (x : Operand) (hop : op.op = .call { callee := .builtin .clear, args := #[x], argTypes := #[22] })
    {b off c : Nat} (hx : a.eval x = .slice (some ⟨b, off, none⟩) 1 c) (hc : (w.cell? ⟨b, off, none⟩).isSome = true) (hf : w.frozen? ⟨b, off, none⟩ = false)
    (hK : wpList Tryz.prog ops Q rest (a.put op.dst (.tuple #[])) (w.setCell ⟨b, off, none⟩ (.string ⟨#[]⟩))) : wpList Tryz.prog ops Q (op :: rest) a w := by
  refine wpList_plain hg fun K' hK' => ?_
  have hc1 : ∀ j, j < 1 → (w.cell? ⟨b, off + j, none⟩).isSome = true := fun j hj => by
    have e : j = 0 := by omega
    rw [e]; exact hc
  have hf1 : ∀ j, j < 1 → w.frozen? ⟨b, off + j, none⟩ = false := fun j hj => by
    have e : j = 0 := by omega
    rw [e]; exact hf
  have hrun := Lib.run_clear_slice (P := Tryz.prog) w 22 9 op.type (.string ⟨#[]⟩) Tryz.underlying22 zeroStr rfl rfl b off 1 c (by decide) hc1 hf1
  unfold Oper.wp execOp
  simp only [hop, resolve, invoke, builtin, Sem.run_bind, Sem.run_pure, Result.andThen_ok, List.map_toArray, List.map_cons, List.map_nil, hx, hrun]
  exact hK' _ _ hK
set_option maxRecDepth 10000 in
set_option maxHeartbeats 1000000 in
theorem dpopFront_ok {x : List UInt8} {t : List (List UInt8)} (h : DeqI o w r d B (x :: t)) (hB : B ≤ 1099511627776) :
    Calls Tryz.prog 70 #[.pointer (some ⟨d, 0, none⟩), .int .i64 1] w fun e w' => ∃ v' o', e = .returned v' ∧ DeqI o' w' r d B t ∧ Vw (fun b => w.heap.size ≤ b) w' v' 1 1 [txt x] ∧ Stp r o w o' w' := by
  have HLN := Lib.hid (dlen_ok h)
  have HAL := Lib.hid (fun k => dall_ok (h.below (below_drewN (Below.refl _ w) k)))
  obtain ⟨sv, junk, h⟩ := h
  have hf := h.few
  rw [List.length_cons] at hf
  have hk : junk.length < junk.length + (x :: t).length := by simp
  obtain ⟨g, cap, hsv, hcap, hog, hfz, hce, hrow⟩ := h.row.set1 hk (.string ⟨#[]⟩)
  subst hsv
  have em : min (1 : Int) ((x :: t).length : Int) = 1 := by simp; omega
  have em2 : max (0 : Int) 1 = 1 := rfl
  have em3 : ((max (0 : Int) 1) == 0) = false := rfl
  have HH := Lib.hid h
  have hl1 : 1 ≤ (x :: t).length := by simp
  clear h hrow hce hfz hk
  generalize hN : (x :: t).length = n at *
  go_enter Tryz.func70, Tryz.ntmps70
  go_wp2_with fail
  refine HLN.out.mono ?_; rintro e w1 ⟨rfl, k, rfl⟩
  go_wp2_with fail
  refine (HAL.out k).mono ?_; rintro e w2 ⟨a2, c2, k2, rfl, rfl, hv⟩
  rw [hN]
  have hcap2 : (1 : Int) ≤ (c2 : Int) := by
    obtain ⟨a0, c0, e0, h0, _⟩ := hv.slice
    injection e0 with _ _ e2
    omega
  have hv3 := vw_head hv 1 (by rw [hN]; exact hl1)
  have hv4 : Vw (fun b => o b = r ++ [0]) (w.drewN (k + k2)) (.slice a2 1 c2) 1 1 ([x].map txt) := hv3.stay (Nat.le_refl _) (fun _ _ _ => rfl)
  have HC := Lib.hid (cloneS_ok hv4 (one_list [x]) (by decide))
  clear hv hv3 hv4 HLN HAL
  go_wp2_with fail
  refine HC.out.mono ?_; rintro e w3 ⟨v', rfl, hF⟩
  have hB3 : Below w.heap.size w w3 := (below_drewN (Below.refl _ w) (k + k2)).trans hF.below
  have hv' : Vw (fun b => w.heap.size ≤ b) w3 v' 1 1 [txt x] := hF.vw
  obtain ⟨a6, c6, rfl, _⟩ := id hv'.slice
  have h3 := HH.out.below hB3
  have h3D : Deq o (World.drew w3) r d B _ junk (x :: t) := h3.below (Below.refl _ w3).drew
  have hk : junk.length < junk.length + (x :: t).length := by simp
  obtain ⟨g2, cap2, hsv2, _, _, hfz, hce, hrow⟩ := h3D.row.set1 hk (.string ⟨#[]⟩)
  rw [hN] at hsv2
  injection hsv2 with e1 e2 e3
  injection e1 with e1
  injection e1 with e1 _ _
  subst e1 e3
  have hcell : ((World.drew w3).cell? ⟨g, junk.length, none⟩).isSome = true := by rw [hce]; simp
  have hcutc := cut1 g (junk.length + n) cap junk.length (by omega) hcap _ _ rfl rfl
  have hb3 := h3.blk.cell
  have hne : d ≠ g := fun e => by
    have h1 := h3.blk.role
    rw [e, hog] at h1
    simp at h1
  have hblk5 : Blk o ((World.drew w3).setCell ⟨g, junk.length, none⟩ (.string ⟨#[]⟩)) r d _ _ := h3D.blk.setOther ⟨g, junk.length, none⟩ (.string ⟨#[]⟩) hne
  have HB5 := Lib.hid hblk5
  have HROW := Lib.hid hrow
  have HV := Lib.hid hv'
  have HB3 := Lib.hid hB3
  have hg3 : g < w.heap.size := HH.out.row.lt g rfl
  clear hF h3 h3D hk hce hrow hblk5 hv' hB3 HC e2 em em2 em3
  have ew : IntKind.i64.wrap ((junk.length : Int) + 1) = (junk.length : Int) + 1 := by rw [IntKind.wrap_i64]; omega
  go_wp2_with fail
  go_still_tail 15, (by kernel_rfl)
  change wpList _ _ _ _ _ (World.drew w3)
  refine wpList_clear1 rfl _ rfl rfl hcell hfz ?_
  have hb5 := HB5.out.cell
  have hf5 := HB5.out.free
  generalize hW5 : (World.drew w3).setCell ⟨g, junk.length, none⟩ (.string ⟨#[]⟩) = w5 at *
  clear hb3 hcell hfz
  go_wp2_with fail
  go_ret
  refine ⟨_, o, rfl, ?_, ?_, ?_⟩
  · refine ⟨.slice (some ⟨g, 0, none⟩) (junk.length + n) cap, junk ++ [[]], ?_, ?_, by simp; omega⟩
    · have := HB5.out.setCell 1 (.int .i64 ((junk.length : Int) + 1))
      simpa using this
    · have hr := HROW.out.setCell ⟨d, 1, none⟩ (.int .i64 ((junk.length : Int) + 1)) (by show o d ≠ r ++ [0]; rw [HB5.out.role]; exact np2.symm)
      rw [hN] at hr
      have e1 : (junk.map txt ++ (x :: t).map txt).set junk.length (.string ⟨#[]⟩) = (junk ++ [[]]).map txt ++ t.map txt := by
        have := set_append_mid (junk.map txt) (t.map txt) (txt x) (.string ⟨#[]⟩)
        simp only [List.length_map] at this
        rw [List.map_cons, this]
        simp [txt]
      have e2 : junk.length + n = (junk ++ [[]]).length + t.length := by rw [← hN]; simp; omega
      rw [e1, e2] at hr
      rw [e2]
      exact hr
  · refine HV.out.stay (by rw [← hW5]; simp) (fun b hb _ => ?_)
    have hd : d < w.heap.size := HH.out.blk.lt
    rw [← hW5, heap_set_far (by show b ≠ d; omega), heap_set_far (by show b ≠ g; omega)]
    rfl
  · rw [← hW5]
    refine Stp.setCell (Stp.setCell ((Stp.ofBelow r o HB3.out).drew) (by show r <+: o g; rw [hog]; exact List.prefix_append _ _) _) (by show r <+: o d; rw [HB5.out.role]; exact List.prefix_refl _) _
end
end Go.Proofs.YtgmmeeikjofefaaGreatDoor
namespace Go.Proofs.YtgmmeeikjofefaaGreatDoor
open Go Go.RowKit
section
variable {o : Roles} {w : World} {r : List Nat} {d B : Nat} {l : List (List UInt8)}
theorem cutT (g n cap : Nat) (h1 : 1 ≤ n) (h2 : n ≤ cap) (I : Int) (hI : I = (n : Int) - 1) (W : World) : (Instr.slice 22 (.slice (some ⟨g, 0, none⟩) n cap) (some (.int .i64 I)) none none).run Tryz.prog W = .ok (.slice (some ⟨g, n - 1, none⟩) 1 (cap - (n - 1))) W := by
  obtain ⟨m, rfl⟩ : ∃ m, n = m + 1 := ⟨n - 1, by omega⟩
  have hI' : I = (m : Int) := by omega
  subst hI'
  obtain ⟨i0, hi0, hz0, hz1, hz2⟩ := info_parts infoS
  simp [Instr.slice, run_underlying Tryz.underlying22, Instr.sliceBounds, Instr.sliceBound, asIntOf, sizeOf, typeInfo, hi0, hz1, addr_add]
  intro h; omega
theorem cutH (g n cap : Nat) (h1 : 1 ≤ n) (h2 : n ≤ cap) (I : Int) (hI : I = (n : Int) - 1) (W : World) : (Instr.slice 22 (.slice (some ⟨g, 0, none⟩) n cap) none (some (.int .i64 I)) none).run Tryz.prog W = .ok (.slice (some ⟨g, 0, none⟩) (n - 1) cap) W := by
  obtain ⟨m, rfl⟩ : ∃ m, n = m + 1 := ⟨n - 1, by omega⟩
  have hI' : I = (m : Int) := by omega
  subst hI'
  obtain ⟨i0, hi0, hz0, hz1, hz2⟩ := info_parts infoS
  simp [Instr.slice, run_underlying Tryz.underlying22, Instr.sliceBounds, Instr.sliceBound, asIntOf, sizeOf, typeInfo, hi0, addr_add]
  intro h; omega
theorem Row.cut {o : Roles} {w : World} {r : List Nat} {e : TypeId} {g n cap m : Nat} {xs : List Value} (h : Row o w r e 1 (.slice (some ⟨g, 0, none⟩) n cap) n xs) (hm : m ≤ n) : Row o w r e 1 (.slice (some ⟨g, 0, none⟩) m cap) m (xs.take m) := by
  rcases h.form with ⟨h1, _, _⟩ | ⟨g', cap', cur, h1, hb, h3, h4, h5, h6⟩
  · cases h1
  · injection h1 with e1 _ e3
    injection e1 with e1
    injection e1 with e1
    subst e1 e3
    refine ⟨⟨by rw [List.length_take, h.len]; omega, .inr ⟨g, cap, cur, rfl, Nat.zero_le _, hb.heap, by omega, h4, h5, ?_⟩⟩, h.role⟩
    rw [← h6, List.take_take]
    congr 1
    omega
set_option maxRecDepth 10000 in
theorem rev1_ok {A : Nat → Prop} {w : World} {v : Value} {xs : List Value} (h : Vw A w v 1 1 xs) : Calls Tryz.prog 127 #[v] w fun e w' => e = .returned (.tuple #[]) ∧ w' = w := by
  obtain ⟨a, c, rfl, _⟩ := h.slice
  clear h
  go_enter Tryz.func127, Tryz.ntmps127
  go_wp2_with fail
  go_loopw [2, 3] (fun i j wr => wr = w ∧ i = .int .i64 0 ∧ j = .int .i64 0) (fun i _ _ => (intOf i).toNat)
  case atStart => exact ⟨rfl, rfl, rfl⟩
  case round =>
    obtain ⟨rfl, rfl, rfl⟩ := hrel
    go_wp2_with fail
    go_end0
    exact ⟨rfl, rfl⟩
set_option maxRecDepth 10000 in
set_option maxHeartbeats 1000000 in
theorem dpopBack_ok {x : List UInt8} {t : List (List UInt8)} (h : DeqI o w r d B (t ++ [x])) (hB : B ≤ 1099511627776) :
    Calls Tryz.prog 71 #[.pointer (some ⟨d, 0, none⟩), .int .i64 1] w fun e w' => ∃ v' o', e = .returned v' ∧ DeqI o' w' r d B t ∧ Vw (fun b => w.heap.size ≤ b) w' v' 1 1 [txt x] ∧ Stp r o w o' w' := by
  have HLN := Lib.hid (dlen_ok h)
  obtain ⟨sv, junk, h⟩ := h
  have hf := h.few
  rw [List.length_append, List.length_singleton] at hf
  have hk : junk.length + t.length < junk.length + (t ++ [x]).length := by simp
  obtain ⟨g, cap, hsv, hcap, hog, _, _, _⟩ := h.row.set1 hk (.string ⟨#[]⟩)
  subst hsv
  have em : min (1 : Int) ((t ++ [x]).length : Int) = 1 := by simp; omega
  have em2 : max (0 : Int) 1 = 1 := rfl
  have em3 : ((max (0 : Int) 1) == 0) = false := rfl
  have HH := Lib.hid h
  have hNN : junk.length + (t ++ [x]).length = junk.length + t.length + 1 := by simp; omega
  have hb := h.blk.cell
  clear h hk
  rw [hNN] at hcap HH hb
  have hjt : junk.length + t.length + 1 ≤ B := by omega
  obtain ⟨N, hN⟩ : ∃ N, N = junk.length + t.length + 1 := ⟨_, rfl⟩
  rw [← hN] at hcap HH hb hjt
  have hc1 := cutT g N cap (by omega) hcap _ rfl
  have hc2 := cutH g N cap (by omega) hcap _ rfl
  have hgl : g < w.heap.size := HH.out.row.lt g rfl
  have hcellx : w.cell? ⟨g, N - 1, none⟩ = some (txt x) := by
    have hk2 : N - 1 < junk.length + (t ++ [x]).length := by rw [hNN]; omega
    have hr := HH.out.row
    rw [hNN, ← hN] at hr
    obtain ⟨g2, c2, e, _, _, _, hce, _⟩ := hr.set1 (k := N - 1) (by omega) (.string ⟨#[]⟩)
    injection e with e1 _ _
    injection e1 with e1
    injection e1 with e1 _ _
    subst e1
    rw [hce, hN]
    rw [List.map_append, ← List.append_assoc, List.getElem?_append_right (by simp)]
    simp
  have hcapm : cap ≤ maxLen := by
    obtain ⟨a0, c0, e0, _, h0, _⟩ := HH.out.row.slice
    injection e0 with _ _ e2
    omega
  have HN := Lib.hid hN
  have HNN := Lib.hid (show junk.length + (t ++ [x]).length = N from hNN.trans hN.symm)
  clear hN hNN hf
  generalize (t ++ [x]).length = n at *
  have hN1 : 1 ≤ N := by have := HN.out; omega
  go_enter Tryz.func71, Tryz.ntmps71
  go_wp2_with fail
  refine HLN.out.mono ?_; rintro e w1 ⟨rfl, k, rfl⟩
  have hvk : Vw (fun b => o b = r ++ [0]) (w.drewN k) (.slice (some ⟨g, N - 1, none⟩) 1 (cap - (N - 1))) 1 1 ([x].map txt) := by
    refine ⟨⟨_, _, rfl, by omega, ?_, .inr ⟨g, N - 1, rfl, hgl, hog, fun j u hj => ?_⟩⟩, rfl⟩
    · omega
    · have e : j = 0 := by have := (List.getElem?_eq_some_iff.1 hj).1; simp at this; exact this
      subst e
      cases hj
      exact hcellx
  have HC := Lib.hid (cloneS_ok hvk (one_list [x]) (by decide))
  have HCX := Lib.hid hcellx
  clear hvk HLN hcellx
  go_wp2_with fail
  refine HC.out.mono ?_; rintro e w3 ⟨v', rfl, hF⟩
  have hB3 : Below w.heap.size w w3 := (below_drewN (Below.refl _ w) k).trans hF.below
  have hv' : Vw (fun b => w.heap.size ≤ b) w3 v' 1 1 [txt x] := hF.vw
  obtain ⟨a6, c6, rfl, _⟩ := id hv'.slice
  have h3 := HH.out.below hB3
  have hb3 := h3.blk.cell
  have HV := Lib.hid hv'
  have HB3 := Lib.hid hB3
  clear hF hv' hB3 HC hb
  go_wp2_with fail
  refine (rev1_ok HV.out).mono ?_; rintro e w4 ⟨rfl, rfl⟩
  have hr4 : Row o w4 (r ++ [0]) 9 1 (.slice (some ⟨g, 0, none⟩) N cap) N (junk.map txt ++ (t ++ [x]).map txt) := by
    have := h3.row
    rw [show junk.length + (t ++ [x]).length = N by have := HN.out; simp; omega] at this
    exact this
  obtain ⟨g2, cap2, hsv2, _, _, hfz, hce, hrow⟩ := hr4.set1 (k := N - 1) (by omega) (.string ⟨#[]⟩)
  injection hsv2 with e1 _ e3
  injection e1 with e1
  injection e1 with e1 _ _
  subst e1 e3
  have hcell : (w4.cell? ⟨g, N - 1, none⟩).isSome = true := by
    rw [hce, List.getElem?_eq_getElem (by have := HN.out; simp; omega)]; rfl
  have hne : d ≠ g := fun e => by
    have h1 := h3.blk.role
    rw [e, hog] at h1
    simp at h1
  have hblk5 : Blk o (w4.setCell ⟨g, N - 1, none⟩ (.string ⟨#[]⟩)) r d _ _ := h3.blk.setOther ⟨g, N - 1, none⟩ (.string ⟨#[]⟩) hne
  have HB5 := Lib.hid hblk5
  have HROW := Lib.hid (hrow.cut (m := N - 1) (by omega))
  clear h3 hr4 hce hrow hblk5 em em2 em3
  go_wp2_with (
    refine wpList_clear1 rfl _ rfl rfl hcell hfz ?_
    have hb5 := HB5.out.cell
    have hf5 := HB5.out.free
    generalize hW5 : w4.setCell ⟨g, N - 1, none⟩ (.string ⟨#[]⟩) = w5 at *
    clear hb3 hcell hfz)
  go_ret
  refine ⟨_, o, rfl, ?_, ?_, ?_⟩
  · have e1 : ((junk.map txt ++ (t ++ [x]).map txt).set (N - 1) (.string ⟨#[]⟩)).take (N - 1) = junk.map txt ++ t.map txt := by
      rw [List.take_set, List.set_eq_of_length_le (by simp; omega), List.map_append, ← List.append_assoc, List.take_append_of_le_length (by have := HN.out; simp; omega), List.take_of_length_le (by have := HN.out; simp; omega)]
    have e2 : N - 1 = junk.length + t.length := by have := HN.out; omega
    refine ⟨.slice (some ⟨g, 0, none⟩) (N - 1) cap, junk, ?_, ?_, by have := HN.out; omega⟩
    · have := HB5.out.setCell 0 (.slice (some ⟨g, 0, none⟩) (N - 1) cap)
      simpa using this
    · have hr := HROW.out.setCell ⟨d, 0, none⟩ (.slice (some ⟨g, 0, none⟩) (N - 1) cap) (by show o d ≠ r ++ [0]; rw [HB5.out.role]; exact np2.symm)
      rw [e1] at hr
      rw [← e2]
      exact hr
  · refine HV.out.stay (by rw [← hW5]; simp) (fun b hb _ => ?_)
    have hd : d < w.heap.size := HH.out.blk.lt
    rw [← hW5, heap_set_far (by show b ≠ d; omega), heap_set_far (by show b ≠ g; omega)]
  · rw [← hW5]
    refine Stp.setCell (Stp.setCell (Stp.ofBelow r o HB3.out) (by show r <+: o g; rw [hog]; exact List.prefix_append _ _) _) (by show r <+: o d; rw [HB5.out.role]; exact List.prefix_refl _) _
end
end Go.Proofs.YtgmmeeikjofefaaGreatDoor
namespace Go.Proofs.YtgmmeeikjofefaaGreatDoor
open Go Go.RowKit
section
theorem deq_push {o : Roles} {w : World} {r : List Nat} {d B g N cap : Nat} {junk l : List (List UInt8)} (h : Deq o w r d B (.slice (some ⟨g, 0, none⟩) N cap) junk l) (hj : junk ≠ []) (x : List UInt8) :
    Deq o (((w.setCell ⟨d, 1, none⟩ (.int .i64 ((junk.length - 1 : Nat) : Int))).drew).setCell ⟨g, junk.length - 1, none⟩ (txt x)) r d B (.slice (some ⟨g, 0, none⟩) N cap) junk.dropLast (x :: l) := by
  obtain ⟨j0, y, rfl⟩ : ∃ j0 y, junk = j0 ++ [y] := ⟨junk.dropLast, junk.getLast hj, (List.dropLast_concat_getLast hj).symm⟩
  have hblk := h.blk.setCell 1 (.int .i64 (((j0 ++ [y]).length - 1 : Nat) : Int))
  have hrow := (h.row.setCell ⟨d, 1, none⟩ (.int .i64 (((j0 ++ [y]).length - 1 : Nat) : Int)) (by show o d ≠ r ++ [0]; rw [h.blk.role]; exact np2.symm)).drew
  obtain ⟨g2, c2, e, _, hog, _, _, hrow2⟩ := hrow.set1 (k := (j0 ++ [y]).length - 1) (by simp; omega) (txt x)
  injection e with e1 e2 e3
  injection e1 with e1
  injection e1 with e1 _ _
  subst e1
  have hne : d ≠ g := fun e => by
    have h1 := h.blk.role
    rw [e, hog] at h1
    simp at h1
  have hl : (j0 ++ [y]).length - 1 = j0.length := by simp
  rw [hl] at hblk hrow2 ⊢
  have hx : ((j0 ++ [y]).map txt ++ l.map txt).set j0.length (txt x) = j0.map txt ++ (x :: l).map txt := by
    have := set_append_mid (j0.map txt) (l.map txt) (txt y) (txt x)
    simp only [List.length_map] at this
    simp [this]
  refine ⟨?_, ?_, ?_⟩
  · have := hblk.drew.setOther ⟨g, j0.length, none⟩ (txt x) hne
    rw [List.dropLast_concat]
    simpa using this
  · rw [hx] at hrow2
    rw [List.dropLast_concat]
    have e2' : j0.length + (x :: l).length = (j0 ++ [y]).length + l.length := by simp; omega
    rw [e2']
    exact hrow2
  · have := h.few
    rw [List.dropLast_concat]
    simp at this ⊢
    omega
def PfRel (w : World) (r : List Nat) (d B : Nat) (sv : Value) (ws l : List (List UInt8)) (o0 : Roles) (i : Value) (wr : World) : Prop :=
  ∃ k junk o', k ≤ ws.length ∧ i = .int .i64 ((k : Nat) : Int) ∧ Deq o' wr r d B sv junk ((ws.take k).reverse ++ l) ∧ ws.length ≤ junk.length + k ∧ Stp r o0 w o' wr
theorem idx_last (g N cap n : Nat) (h1 : 1 ≤ n) (h2 : n ≤ N) (W : World) : (Instr.indexAt 22 (.slice (some ⟨g, 0, none⟩) N cap) (.int .i64 ((n : Int) - 1))).run Tryz.prog W = .ok (.pointer (some ⟨g, n - 1, none⟩)) W := by
  obtain ⟨m, rfl⟩ : ∃ m, n = m + 1 := ⟨n - 1, by omega⟩
  have e : (((m + 1 : Nat) : Int) - 1) = (m : Int) := by omega
  rw [e]
  obtain ⟨i0, hi0, hz0, hz1, hz2⟩ := info_parts infoS
  simp [Instr.indexAt, run_underlying Tryz.underlying22, asIntOf, sizeOf, typeInfo, hi0, hz1, addr_add]
  omega
set_option maxRecDepth 10000 in
set_option maxHeartbeats 2000000 in


theorem dpushFront_room {A : Nat → Prop} {o : Roles} {w : World} {r : List Nat} {d B : Nat} {sv : Value} {junk l : List (List UInt8)} (h : Deq o w r d B sv junk l) (hB : B ≤ 1099511627776) {v : Value} {ws : List (List UInt8)} (hv : Vw A w v 1 ws.length (ws.map txt)) (hA : ∀ b, A b → ¬ r <+: o b) (h0 : ws ≠ []) (hr : ws.length ≤ junk.length) :
    Calls Tryz.prog 64 #[.pointer (some ⟨d, 0, none⟩), v] w fun e w' => e = .returned (.tuple #[]) ∧ ∃ o', DeqI o' w' r d B (ws.reverse ++ l) ∧ Stp r o w o' w' := by
  have hf := h.few
  have hw1 : 1 ≤ ws.length := by cases ws with | nil => exact absurd rfl h0 | cons x t => simp
  have hb := h.blk.cell
  obtain ⟨g, cap, hsv, hcap, _, _, _, _⟩ := h.row.set1 (k := 0) (by omega) (.string ⟨#[]⟩)
  have hat : PfRel w r d B sv ws l o (.int .i64 0) w := ⟨0, junk, o, Nat.zero_le _, rfl, by simpa using h, by omega, Stp.refl _ _ _⟩
  subst hsv
  obtain ⟨av, cv, rfl, _⟩ := hv.slice
  have HV := Lib.hid hv
  have HA := Lib.hid hA
  have e0 : ((ws.length : Int) == 0) = false := beq_eq_false_iff_ne.2 (by omega)
  have d0 : decide ((junk.length : Int) < ws.length) = false := decide_eq_false (by omega)
  have d1 : decide (junk.length < ws.length) = false := decide_eq_false (by omega)
  clear h hv hA h0
  generalize hN : junk.length + l.length = N at *
  go_enter Tryz.func64, Tryz.ntmps64
  go_wp2_with fail
  go_loopw [48] (fun i wr => PfRel w r d B (.slice (some ⟨g, 0, none⟩) N cap) ws l o i wr) (fun i _ => ws.length - (intOf i).toNat)
  case atStart => exact hat
  case round =>
    obtain ⟨k, jk, o3, hk, rfl, hd, hjk, hst⟩ := hrel
    clear hat
    by_cases hkl : k < ws.length
    · obtain ⟨x, hx⟩ : ∃ x, ws[k]? = some x := ⟨_, List.getElem?_eq_getElem hkl⟩
      have hvr := HV.out.stay (w' := wr) hst.size (fun b hAb hb => hst.block b hb (HA.out b hAb))
      obtain ⟨⟨a1, c1, e4, hc1, _, hcells⟩, _⟩ := hvr
      injection e4 with e5 e6 e7
      subst e5 e7
      rcases hcells with hcells | ⟨bv, ov, rfl, hbv, _, hcv⟩
      · omega
      have hcell : wr.cell? ⟨bv, ov + k, none⟩ = some (.string ⟨x.toArray⟩) := hcv k (txt x) (by rw [List.getElem?_map, hx]; rfl)
      have hfew := hd.few
      have hjk1 : 1 ≤ jk.length := by omega
      have hjne : jk ≠ [] := by intro e; rw [e] at hjk1; simp at hjk1
      obtain ⟨g2, c2, e, hc2, hog, hfz, hce, _⟩ := hd.row.set1 (k := jk.length - 1) (by omega) (txt x)
      injection e with e1 e2 e3
      injection e1 with e1
      injection e1 with e1 _ _
      subst e1 e3
      have hsome : ∃ u, wr.cell? ⟨g, jk.length - 1, none⟩ = some u := ⟨_, by rw [hce, List.getElem?_append_left (by simp; omega)]; exact List.getElem?_eq_getElem (by simp; omega)⟩
      obtain ⟨u, hu⟩ := hsome
      have hpush := deq_push hd hjne x
      have hb := hd.blk.cell
      have hf := hd.blk.free
      have hne : d ≠ g := fun e => by
        have h1 := hd.blk.role
        rw [e, hog] at h1
        simp at h1
      have hst2 := (hst.setCell (a := ⟨d, 1, none⟩) (by show r <+: o3 d; rw [hd.blk.role]; exact List.prefix_refl _) (.int .i64 ((jk.length - 1 : Nat) : Int))).drew
      have hpush2 : Deq o3 (((wr.setCell ⟨d, 1, none⟩ (.int .i64 ((jk.length - 1 : Nat) : Int))).setCell ⟨g, jk.length - 1, none⟩ (.string ⟨x.toArray⟩)).drew) r d B (.slice (some ⟨g, 0, none⟩) N cap) jk.dropLast ((ws.take (k + 1)).reverse ++ l) := by
        have e : ((ws.take k ++ [x]).reverse ++ l) = x :: ((ws.take k).reverse ++ l) := by simp
        rw [List.take_add_one, hx]
        show Deq _ _ _ _ _ _ _ ((ws.take k ++ [x]).reverse ++ l)
        rw [e]
        exact hpush
      have hst3 : Stp r o w o3 (((wr.setCell ⟨d, 1, none⟩ (.int .i64 ((jk.length - 1 : Nat) : Int))).setCell ⟨g, jk.length - 1, none⟩ (.string ⟨x.toArray⟩)).drew) := hst2.setCell (a := ⟨g, jk.length - 1, none⟩) (by show r <+: o3 g; rw [hog]; exact List.prefix_append _ _) (txt x)
      have D := Lib.hid (show PfRel w r d B (.slice (some ⟨g, 0, none⟩) N cap) ws l o (.int .i64 ((k : Int) + 1)) (((wr.setCell ⟨d, 1, none⟩ (.int .i64 ((jk.length - 1 : Nat) : Int))).setCell ⟨g, jk.length - 1, none⟩ (.string ⟨x.toArray⟩)).drew) from ⟨k + 1, jk.dropLast, o3, hkl, by go_num, hpush2, by rw [List.length_dropLast]; omega, hst3⟩)
      have hJ : ((jk.length - 1 : Nat) : Int) = (jk.length : Int) - 1 := by omega
      have hNc : N ≤ cap := by rw [e2]; exact hc2
      have hjN : (jk.length : Int) - 1 < N := by omega
      have hj0 : (0 : Int) ≤ (jk.length : Int) - 1 := by omega
      have hb5 := (hd.blk.setCell 1 (.int .i64 ((jk.length - 1 : Nat) : Int))).cell
      have hu5 : (wr.setCell ⟨d, 1, none⟩ (.int .i64 ((jk.length - 1 : Nat) : Int))).cell? ⟨g, jk.length - 1, none⟩ = some u := by
        rw [World.cell?_setCell_other _ _ _ _ (by intro e; injection e with e1 _ _; exact hne e1)]; exact hu
      have hz5 : (wr.setCell ⟨d, 1, none⟩ (.int .i64 ((jk.length - 1 : Nat) : Int))).frozen? ⟨g, jk.length - 1, none⟩ = false := by rw [World.frozen?_setCell]; exact hfz
      have hidx := idx_last g N cap jk.length hjk1 (by omega)
      clear hpush hpush2 hst3 hst2 hd hst hcv hx hce e2 hfew
      rw [hJ] at D hb5 hu5 hz5
      go_wp2_with fail
      clear hb hf hu hfz hcell
      generalize wr.setCell ⟨d, 1, none⟩ (.int .i64 ((jk.length : Int) - 1)) = w5 at *
      go_still_tail 10, (by kernel_rfl)
      change wpList _ _ _ _ _ (World.drew w5)
      go_wp2_with fail
      go_roundw
      case rel => exact D.out
      case measure => simp [intOf]; omega
    · obtain rfl : k = ws.length := by omega
      rw [List.take_length] at hd
      have D := Lib.hid (show ∃ o', DeqI o' wr r d B (ws.reverse ++ l) ∧ Stp r o w o' wr from ⟨o3, ⟨_, jk, hd⟩, hst⟩)
      clear hd hst
      go_wp2_with fail
      go_end0
      exact ⟨rfl, D.out⟩
end
end Go.Proofs.YtgmmeeikjofefaaGreatDoor
namespace Go.Proofs.YtgmmeeikjofefaaGreatDoor
open Go Go.RowKit
section
theorem Row.fill {o : Roles} {w : World} {r : List Nat} {e : TypeId} {g n cap k : Nat} {xs vs : List Value} (h : Row o w r e 1 (.slice (some ⟨g, 0, none⟩) n cap) n xs) (hk : k + vs.length ≤ n) :
    Row o (w.setCells g k vs) r e 1 (.slice (some ⟨g, 0, none⟩) n cap) n (xs.take k ++ vs ++ xs.drop (k + vs.length)) := by
  rcases h.form with ⟨h1, _, _⟩ | ⟨g', cap', cur, h1, hb, h3, h4, h5, h6⟩
  · cases h1
  · injection h1 with e1 _ e3
    injection e1 with e1
    injection e1 with e1
    subst e1 e3
    have hxl : xs.length = n := by have := h.len; simpa using this
    refine ⟨⟨by simp [hxl]; omega, .inr ⟨g, cap, _, rfl, Nat.zero_le _, heap_setCells_at g e _ vs k w cur hb.heap, h3, h4, by rw [setMany_size, h5], ?_⟩⟩, h.role⟩
    apply List.ext_getElem?
    intro j
    rw [List.getElem?_take]
    have hg := setMany_get vs cur k (by omega) j
    have hx : ∀ j, j < n → cur[j]? = xs[j]? := fun j hj => by rw [← h6, List.getElem?_take, if_pos (by omega)]; simp
    by_cases hj : j < n * 1
    · rw [if_pos hj, Array.getElem?_toList, hg]
      by_cases h1 : j < k
      · rw [if_pos h1, hx j (by omega), List.append_assoc, List.getElem?_append_left (by simp; omega), List.getElem?_take, if_pos h1]
      · rw [if_neg h1]
        by_cases h2 : j < k + vs.length
        · rw [if_pos h2, List.getElem?_append_left (by simp; omega), List.getElem?_append_right (by simp; omega)]
          congr 1
          simp; omega
        · rw [if_neg h2, hx j (by omega), List.getElem?_append_right (by simp; omega), List.getElem?_drop]
          congr 1
          simp; omega
    · rw [if_neg hj, List.getElem?_eq_none (by simp [hxl]; omega)]
theorem made_txt (n : Nat) : (madeCells (Value.string ⟨#[]⟩).cells (n * 1)).toList = (List.replicate n ([] : List UInt8)).map txt := by
  simp only [madeCells, Value.cells]
  apply List.ext_getElem
  · simp
  · intro i h1 h2
    simp [Nat.mod_one, txt]
theorem cutR (g M room : Nat) (h : room ≤ M) : ∃ a, (∀ W, (Instr.slice 22 (.slice (some ⟨g, 0, none⟩) M M) (some (.int .i64 room)) none none).run Tryz.prog W = .ok (.slice a (M - room) (M - room)) W) ∧ (room < M → a = some ⟨g, room, none⟩) := by
  obtain ⟨i0, hi0, hz0, hz1, hz2⟩ := info_parts infoS
  refine ⟨if M = room then some ⟨g, 0, none⟩ else some ⟨g, room, none⟩, fun W => ?_, fun hl => if_neg (by omega)⟩
  simp [Instr.slice, run_underlying Tryz.underlying22, Instr.sliceBounds, Instr.sliceBound, asIntOf, sizeOf, typeInfo, hi0, hz1, addr_add]
  intro h'; omega
set_option maxRecDepth 10000 in
theorem copy_run {A : Nat → Prop} {o : Roles} {W : World} {r : List Nat} {g M room c4 c2 : Nat} {a4 a2 : Option Addr} {xs : List Value} {l : List (List UInt8)} (hrow : Row o W r 9 1 (.slice (some ⟨g, 0, none⟩) M M) M xs) (hM : room + l.length = M) (ha : room < M → a4 = some ⟨g, room, none⟩)
    (hv : Vw A W (.slice a2 l.length c2) 1 l.length (l.map txt)) (ty : TypeId) : (Builtin.copy_ #[22, 22] ty #[.slice a4 l.length c4, .slice a2 l.length c2]).run Tryz.prog W = .ok (goInt l.length) (W.setCells g room (l.map txt)) := by
  obtain ⟨i0, hi0, hz0, hz1, hz2⟩ := info_parts infoS
  have hs : (Tryz.prog.info? 9).map (·.size) = some 1 := by rw [hi0]; simp [hz1]
  by_cases hl : l.length = 0
  · have : l = [] := List.eq_nil_of_length_eq_zero hl
    subst this
    have h := run_copy_none (P := Tryz.prog) W 22 22 ty 9 a4 a2 0 c4 0 c2 Tryz.underlying22 hs rfl
    rw [List.length_nil, List.map_nil]
    exact h
  · obtain ⟨⟨a, c, e, _, _, h3⟩, _⟩ := hv
    injection e with e1 _ e3
    subst e1 e3
    rcases h3 with h3 | ⟨b, off, rfl, _, _, hc⟩
    · omega
    rw [ha (by omega)]
    have hrow2 := fun j (hj : j < l.length) => hrow.set1 (k := room + j) (by omega) (.string ⟨#[]⟩)
    have hxl : xs.length = M := by have := hrow.len; simpa using this
    have h := run_copy_cells (P := Tryz.prog) W 22 22 ty 9 g room l.length c4 ⟨b, off, none⟩ l.length c2 (l.map txt) Tryz.underlying22 hs (by simp) (fun j v hj => by rw [addr_add]; exact hc j v hj)
      (fun j hj => by
        obtain ⟨g2, c3, e, _, _, _, hce, _⟩ := hrow2 j (by simpa using hj)
        injection e with e1 _ _
        injection e1 with e1
        injection e1 with e1 _ _
        subst e1
        have hj' : j < l.length := by simpa using hj
        rw [hce, List.getElem?_eq_getElem (by omega)]; rfl)
      (fun j hj => by
        obtain ⟨g2, c3, e, _, _, hz, _, _⟩ := hrow2 j (by simpa using hj)
        injection e with e1 _ _
        injection e1 with e1
        injection e1 with e1 _ _
        subst e1
        exact hz) (one_list l)
    simpa using h
theorem step_copy {ops : Array Oper} {op : Oper} {a : Act} {K : Act → World → Prop} {Q : Exit → Act → World → Prop} {E : Prop} {w w' : World} {v vd vs : Value} (hgd : op.guard = none) (d s : Operand)
    (ho : op.op = .call { callee := .builtin .copy, args := #[d, s], argTypes := #[22, 22] }) (hd : a.eval d = vd) (hs : a.eval s = vs) (hr : ∀ ty, (Builtin.copy_ #[22, 22] ty #[vd, vs]).run Tryz.prog w = .ok v w') (h : K (a.put op.dst v) w') :
    if Region.wanted op (yielded ops a.tmps) = true then Oper.wp Tryz.prog op a w K Q else E := by
  have hw : Region.wanted op (yielded ops a.tmps) = true := by simp [Region.wanted, hgd]
  rw [if_pos hw]
  unfold Oper.wp execOp
  simp only [ho, resolve, invoke, builtin, Sem.run_bind, Sem.run_pure, Result.andThen_ok, List.map_toArray, List.map_cons, List.map_nil, hd, hs, hr]
  exact h
end
end Go.Proofs.YtgmmeeikjofefaaGreatDoor
