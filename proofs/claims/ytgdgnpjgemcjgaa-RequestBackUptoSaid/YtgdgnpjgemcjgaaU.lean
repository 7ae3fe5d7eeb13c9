import Derived.Test.YtgdgnpjgemcjgaaT
import Derived.Lib.Builder
import Derived.Lib.UnsafeStr
import Derived.Laws.Externs
namespace Go.Proofs.Ytgdgnpjgemcjgaa
open Go Go.RowKit
/-! ### A strings.Builder of the call's own -/
structure Bld (o : Roles) (w : World) (r : List Nat) (p : Nat) (l : List UInt8) (av v : Value) : Prop where
  blk : Blk o w (r ++ [0]) p #[av, v] 67
  addr : av = .pointer none ∨ av = .pointer (some ⟨p, 0, none⟩)
  row : Row o w (r ++ [1]) 5 1 v l.length (l.map bv)
theorem infoBld : (Try.prog.info? 67).map (·.size) = some 2 := by kernel_rfl
theorem liesBld : liesAt Try.prog Try.prog.depth 67 (2 / Try.prog.cellsOf 67) 0 67 1 = true := by kernel_rfl
theorem cellsU8 : Try.prog.cellsOf 5 = 1 := by kernel_rfl
set_option maxRecDepth 100000 in
theorem copyCheck_used (b : Nat) (w : World) (h0 : w.cell? ⟨b, 0, none⟩ = some (.pointer (some ⟨b, 0, none⟩))) :
    Calls Try.prog 47 #[.pointer (some ⟨b, 0, none⟩)] w fun e w' => e = .returned (.tuple #[]) ∧ w' = w := by
  obtain ⟨j, hj, _⟩ := Option.map_eq_some_iff.1 infoBld
  go_enter Try.func47, Try.ntmps47
  go_wp2
  rw [Lib.run_neq_ptr_same w _ Try.underlying65 hj]
  go_wp2
  go_end0
  exact ⟨rfl, rfl⟩
set_option maxRecDepth 100000 in
theorem copyCheck_fresh (b : Nat) (w : World) (h0 : w.cell? ⟨b, 0, none⟩ = some (.pointer none)) (hsh : w.shape? b = some (67, 2)) (hfz : w.frozen? ⟨b, 0, none⟩ = false) :
    Calls Try.prog 47 #[.pointer (some ⟨b, 0, none⟩)] w fun e w' => e = .returned (.tuple #[]) ∧ w' = w.setCell ⟨b, 0, none⟩ (.pointer (some ⟨b, 0, none⟩)) := by
  obtain ⟨j, hj, hjs⟩ := Option.map_eq_some_iff.1 infoBld
  go_enter Try.func47, Try.ntmps47
  go_wp2
  rw [Lib.run_to_unsafe w ⟨b, 0, none⟩ Try.underlying65 Try.underlying98 hj (by rw [hjs]; decide) hsh (Nat.zero_lt_succ 1)]
  simp only [Result.andThen]
  rw [Oper.upon_value]
  go_wp2
  rw [run_callFunc_extern Try.func55 (by kernel_rfl) (by kernel_rfl) (by kernel_rfl) (e := Extern.AbiNoEscape.same) (by kernel_rfl)]
  rw [Lib.run_noEscape]
  simp only [Result.andThen]
  rw [Oper.upon_value]
  go_wp2
  rw [Lib.run_from_unsafe w ⟨b, 0, none⟩ Try.underlying98 Try.underlying65 hj hsh liesBld]
  simp only [Result.andThen]
  rw [Oper.upon_value]
  go_wp2
  go_end0
  exact ⟨rfl, rfl⟩
/-- A builder's row comes behind by a text. -/
theorem wpList_joinS {ops : Array Oper} {rest : List Oper} {o : Oper} {a : Act} {Q : Exit → Act → World → Prop} {ow : Roles} {w : World} {r : List Nat} (hgd : o.guard = none) (s x : Operand)
    (ho : o.op = .call { callee := .builtin .append, args := #[s, x], argTypes := #[62, 9] })
    {v : Value} {l l2 : List UInt8} (hv : a.eval s = v) (hrow : Row ow w r 5 1 v l.length (l.map bv)) (hx : a.eval x = .string ⟨l2.toArray⟩)
    (hn : l.length + l2.length ≤ 4398046511104)
    (h : ∀ v' w' ow', Row ow' w' r 5 1 v' (l ++ l2).length ((l ++ l2).map bv) → Stp r ow w ow' w' → wpList Try.prog ops Q rest (a.put o.dst v') w') : wpList Try.prog ops Q (o :: rest) a w := by
  obtain ⟨i0, hi0, hz0, hz1, hz2⟩ := info_parts info5
  have hs2 : (⟨l2.toArray⟩ : ByteArray).size = l2.length := by simp [ByteArray.size]
  have hsrc := Src.ofString (P := Try.prog) w (tx := 9) Try.underlying9 ⟨l2.toArray⟩
  have hbc : byteCells ⟨l2.toArray⟩ = l2.map bv := rfl
  rw [hbc, hs2] at hsrc
  refine wpList_app w hgd s x 62 9 ho 5 i0 (.int .u8 0) 1 1 Try.underlying62 hi0 hz0 hz1 hz2 rfl hv hrow hx hsrc (by unfold maxLen; omega) (by omega) ?_
  intro v' w' o' hr hs
  refine h v' w' o' ?_ hs
  simpa using hr

def BldDid (o : Roles) (w : World) (r : List Nat) (p : Nat) (l s : List UInt8) (e : Ending) (w' : World) : Prop :=
  ∃ av v o', e = .returned (.tuple #[.int .i64 s.length, .nilIface]) ∧ Bld o' w' r p (l ++ s) av v ∧ Stp r o w o' w'
set_option maxHeartbeats 1000000 in
theorem writeS_ok {o : Roles} {w : World} {r : List Nat} {p : Nat} {l : List UInt8} {av v : Value} (h : Bld o w r p l av v) (s : List UInt8) (hs : l.length + s.length ≤ 4398046511104) :
    Calls Try.prog 38 #[.pointer (some ⟨p, 0, none⟩), .string ⟨s.toArray⟩] w (BldDid o w r p l s) := by
  have hsz : (⟨s.toArray⟩ : ByteArray).size = s.length := by simp [ByteArray.size]
  have H : Calls Try.prog 47 #[.pointer (some ⟨p, 0, none⟩)] w fun e w' => e = .returned (.tuple #[]) ∧ Bld o w' r p l (.pointer (some ⟨p, 0, none⟩)) v ∧ Stp r o w o w' := by
    rcases h.addr with ha | ha
    · refine (copyCheck_fresh p w (by rw [h.blk.cell 0]; simp [ha]) (by simp [World.shape?, h.blk.heap]) (h.blk.free 0)).mono ?_
      rintro e w' ⟨rfl, rfl⟩
      have hb := h.blk.setCell 0 (.pointer (some ⟨p, 0, none⟩))
      refine ⟨rfl, ⟨hb, .inr rfl, h.row.setCell _ _ (by rw [show o p = r ++ [0] from h.blk.role]; exact ne_app (by simp))⟩, (Stp.refl _ _ _).setCell (by rw [show o p = r ++ [0] from h.blk.role]; exact List.prefix_append _ _) _⟩
    · refine (copyCheck_used p w (by rw [h.blk.cell 0]; simp [ha])).mono ?_
      rintro e w' ⟨rfl, rfl⟩
      subst ha
      exact ⟨rfl, h, Stp.refl _ _ _⟩
  have HH := Lib.hid H
  clear H h
  go_enter Try.func38, Try.ntmps38
  go_wp2_with fail
  refine HH.out.mono ?_; rintro e w1 ⟨rfl, hb, st⟩
  have hc := hb.blk.cell
  have hf := hb.blk.free
  have HB := Lib.hid hb
  have HS := Lib.hid st
  have hp0 : o p = r ++ [0] := hb.blk.role
  have hpr := Lib.hid hp0
  clear hb st HH hp0
  go_wp2_with (
    at_builtin
    refine wpList_joinS rfl _ _ rfl rfl HB.out.row rfl hs ?_
    intro v' w2 o' hrow hst
    have hb2 := HB.out.blk.keep hst (np_app (by simp))
    have hc := hb2.cell
    have hf := hb2.free
    have D := Lib.hid (show BldDid o w r p l s (.returned (.tuple #[.int .i64 s.length, .nilIface])) (w2.setCell ⟨p, 1, none⟩ v') from
      ⟨_, v', o', rfl, ⟨hb2.setCell 1 v', .inr rfl, hrow.setCell _ _ (by rw [show o' p = r ++ [0] from hb2.role]; exact ne_app (by simp))⟩, ((HS.out.trans (hst.wide (List.prefix_append _ _))).setCell (a := ⟨p, 1, none⟩) (by rw [show o' p = r ++ [0] from hb2.role]; exact List.prefix_append _ _) v')⟩)
    obtain ⟨va, vcap, hv', _⟩ := hrow.slice
    subst hv'
    clear hb2 hst hrow)
  go_ret2
  have D2 := D.out
  rw [List.length_append] at D2
  exact D2
theorem Stp.freeze {r : List Nat} {o o' : Roles} {w w' : World} (h : Stp r o w o' w') {g : Nat} (hg : r <+: o' g) (n : Nat) : Stp r o w o' (w'.freeze ⟨g, 0, none⟩ n) := by
  refine h.trans ?_
  unfold World.freeze
  split
  · exact Stp.refl _ _ _
  · exact ⟨rfl, rfl, rfl, by simp, fun _ _ => rfl, fun k hk hn => by
      simp only [Array.getElem?_modify]
      rw [if_neg (fun e => hn (by rw [← e]; exact hg))]⟩
set_option maxHeartbeats 1000000 in
theorem bstring_ok {o : Roles} {w : World} {r : List Nat} {p : Nat} {l : List UInt8} {av v : Value} (h : Bld o w r p l av v) (hl : l ≠ []) (hn : l.length ≤ 4398046511104) :
    Calls Try.prog 40 #[.pointer (some ⟨p, 0, none⟩)] w fun e w' => e = .returned (.string ⟨l.toArray⟩) ∧ Stp r o w o w' := by
  have hl0 : l.length ≠ 0 := by simpa using hl
  have hc := h.blk.cell
  rcases h.row.form with ⟨rfl, h2, _⟩ | ⟨g, cap, cur, rfl, hb, h3, h4, h5, h6⟩
  · exact absurd h2 hl0
  have c1 : w.drew.cell? ⟨p, 1, none⟩ = some (.slice (some ⟨g, 0, none⟩) l.length cap) := h.blk.drew.cell 1
  have hSD : (Builtin.unsafeSliceData_ #[62] 88 #[.slice (some ⟨g, 0, none⟩) l.length cap]).run Try.prog w.drew = .ok (.pointer (some ⟨g, 0, none⟩)) w.drew :=
    Lib.run_unsafeSliceData_row _ _ _ _ _ _ (by omega)
  have hUS : (Builtin.unsafeString_ #[88, 3] 9 #[.pointer (some ⟨g, 0, none⟩), .int .i64 l.length]).run Try.prog w.drew = .ok (.string ⟨l.toArray⟩) (w.drew.freeze ⟨g, 0, none⟩ l.length) := by
    refine Lib.run_unsafeString_row w.drew 88 3 9 5 Try.underlying88 cellsU8 g cur.size (by simp [World.shape?, hb.drew.heap]) l hl (by omega) (by omega) ?_
    intro j x hx
    have e : (⟨g, 0, none⟩ : Addr).add j = ⟨g, j, none⟩ := by unfold Addr.add; split <;> simp_all
    rw [e, hb.drew.cell, ← Array.getElem?_toList]
    have hj : j < l.length := (List.getElem?_eq_some_iff.1 hx).1
    have : (cur.toList.take (l.length * 1))[j]? = some (bv x) := by rw [h6]; simp [hx]
    rw [List.getElem?_take, if_pos (by omega)] at this
    exact this
  have HS := Lib.hid ((Stp.refl r o w).drew.freeze (g := g) (by rw [hb.role]; exact List.prefix_append _ _) l.length)
  clear h hb h6 hl
  go_enter Try.func40, Try.ntmps40
  go_wp2
  go_region
  all_goals (go_wp2; go_ret; exact ⟨rfl, HS.out⟩)
end Go.Proofs.Ytgdgnpjgemcjgaa
