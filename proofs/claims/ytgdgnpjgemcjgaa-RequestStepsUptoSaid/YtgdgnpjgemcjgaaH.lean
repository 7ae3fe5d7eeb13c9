import Derived.Test.YtgdgnpjgemcjgaaG
namespace Go.Proofs.Ytgdgnpjgemcjgaa
open Go Go.RowKit
theorem ne_app {r s t : List Nat} (h : s ≠ t) : r ++ s ≠ r ++ t := fun e => h (List.append_cancel_left e)
theorem np_app {r s t : List Nat} (h : ¬ s <+: t) : ¬ r ++ s <+: r ++ t := fun e => h ((List.prefix_append_right_inj r).1 e)
theorem infoStr : (Try.prog.info? 9).map (fun i => (i.zero, i.size, i.bytes)) = some (some (.string ⟨#[]⟩), 1, 16) := by kernel_rfl
/-- A list of texts. -/
abbrev Texts (o : Roles) (w : World) (r : List Nat) (v : Value) (ws : List (List UInt8)) : Prop := Row o w r 9 1 v ws.length (ws.map txt)
/-- One text comes behind. -/
theorem wpList_pushS {ops : Array Oper} {rest : List Oper} {o : Oper} {a : Act} {Q : Exit → Act → World → Prop} {ow : Roles} {w : World} {r : List Nat} (hgd : o.guard = none) (s x : Operand)
    (ho : o.op = .call { callee := .builtin .append, args := #[s, x], argTypes := #[33, 33] })
    {v : Value} {l : List (List UInt8)} (b : List UInt8) (hv : a.eval s = v) (hrow : Texts ow w r v l) (hx : a.eval x = .slice (some ⟨w.heap.size, 0, none⟩) 1 1)
    (hn : l.length ≤ 1099511627776)
    (h : ∀ v' w' ow', Texts ow' w' r v' (l ++ [b]) → Stp r ow w ow' w' → wpList Try.prog ops Q rest (a.put o.dst v') w') : wpList Try.prog ops Q (o :: rest) a (w.alloc (.cells #[.string ⟨b.toArray⟩] 9)) := by
  obtain ⟨i0, hi0, hz0, hz1, hz2⟩ := info_parts infoStr
  refine wpList_app (w.alloc (.cells #[.string ⟨b.toArray⟩] 9)) hgd s x 33 33 ho 9 i0 (.string ⟨#[]⟩) 1 16 Try.underlying33 hi0 hz0 hz1 hz2 rfl hv (hrow.below ((Below.refl _ _).alloc (Nat.le_refl _) _)) (m := 1) (news := [txt b]) hx
    (Src.ofSlice _ Try.underlying33 ⟨w.heap.size, 0, none⟩ 1 1 _ rfl (World.news_of_block (heap_alloc_new w _)) (fun u hu => by simp [txt] at hu; subst hu; rfl)) (by unfold maxLen; omega) (by omega) ?_
  intro v' w' o' hr hs
  refine h v' w' o' ?_ ?_
  · simpa [Texts] using hr
  · exact (Stp.ofBelow r ow ((Below.refl _ _).alloc (Nat.le_refl _) _)).trans hs

def SplitI (s : List UInt8) (acc : List (List UInt8)) (k : Nat) : Prop := splitL s = (splitL (s.drop k)).map (acc ++ ·)
theorem SplitI.start (s : List UInt8) : SplitI s [] 0 := by unfold SplitI; simp
theorem SplitI.blank {s : List UInt8} {acc : List (List UInt8)} {k : Nat} {b : UInt8} (h : SplitI s acc k) (hb : s[k]? = some b) (hbl : blankB b = true) : SplitI s acc (k + 1) := by
  unfold SplitI at *; rw [h, drop_at hb, splitL_blank hbl]
theorem SplitI.none {s : List UInt8} {acc : List (List UInt8)} {k : Nat} {b : UInt8} (h : SplitI s acc k) (hb : s[k]? = some b) (hbl : blankB b = false) (hw : wordL (s.drop k) = none) : splitL s = none := by
  rw [h, drop_at hb]; rw [drop_at hb] at hw; rw [splitL_none hbl hw]; rfl
theorem SplitI.word {s : List UInt8} {acc : List (List UInt8)} {k n : Nat} {b : UInt8} {p : List UInt8} (h : SplitI s acc k) (hb : s[k]? = some b) (hbl : blankB b = false) (hw : wordL (s.drop k) = some (p, s.drop n)) : SplitI s (acc ++ [p]) n := by
  unfold SplitI
  rw [h, drop_at hb]; rw [drop_at hb] at hw; rw [splitL_some hbl hw, Option.map_map]; congr 1; funext x; simp
theorem SplitI.done {s : List UInt8} {acc : List (List UInt8)} {k : Nat} (h : SplitI s acc k) (hk : s.length ≤ k) : splitL s = some acc := by
  rw [h, List.drop_eq_nil_of_le hk, splitL_nil]; simp
theorem word_lt {s p : List UInt8} {k n : Nat} {b : UInt8} (hb : s[k]? = some b) (hbl : blankB b = false) (hw : wordL (s.drop k) = some (p, s.drop n)) (hn : n ≤ s.length) : k < n := by
  have hk : k < s.length := (List.getElem?_eq_some_iff.1 hb).1
  rw [drop_at hb] at hw
  have := wordL_lt hbl hw
  simp only [List.length_cons, List.length_drop] at this
  omega

/-- Where the loop over the words is. -/
def SplitRel (o : Roles) (w : World) (r : List Nat) (s : List UInt8) (v i : Value) (wr : World) : Prop :=
  ∃ k acc o', k ≤ s.length ∧ acc.length ≤ k ∧ i = .int .i64 (k : Int) ∧ Texts o' wr (r ++ [0]) v acc ∧ Stp r o w o' wr ∧ SplitI s acc k
def SplitDid (o : Roles) (w : World) (r : List Nat) (s : List UInt8) (e : Ending) (w' : World) : Prop :=
  (e = .returned (.tuple #[.slice none 0 0, .bool false]) ∧ splitL s = none ∧ ∃ o', Stp r o w o' w') ∨
  ∃ v ws o', e = .returned (.tuple #[v, .bool true]) ∧ splitL s = some ws ∧ ws.length ≤ s.length ∧ Texts o' w' (r ++ [0]) v ws ∧ Stp r o w o' w'
theorem SplitDid.fail {o o' : Roles} {w wr : World} {r : List Nat} {s : List UInt8} (h : splitL s = none) (st : Stp r o w o' wr) : SplitDid o w r s (.returned (.tuple #[.slice none 0 0, .bool false])) wr := .inl ⟨rfl, h, o', st⟩
theorem SplitDid.good {o o' : Roles} {w wr : World} {r : List Nat} {s : List UInt8} {acc : List (List UInt8)} {v : Value} (h : splitL s = some acc) (hl : acc.length ≤ s.length) (hr : Texts o' wr (r ++ [0]) v acc) (st : Stp r o w o' wr) : SplitDid o w r s (.returned (.tuple #[v, .bool true])) wr := .inr ⟨v, acc, o', rfl, h, hl, hr, st⟩

set_option maxHeartbeats 1000000 in
theorem split_ok (o : Roles) (w : World) (r : List Nat) (s : List UInt8) (hs : s.length ≤ 1099511627776) :
    Calls Try.prog 17 #[.string ⟨s.toArray⟩] w (SplitDid o w r s) := by
  have hsz : (⟨s.toArray⟩ : ByteArray).size = s.length := by simp [ByteArray.size]
  go_enter Try.func17, Try.ntmps17
  go_wp2_with fail
  go_loopw [4, 5] (fun v i wr => SplitRel o w r s v i wr) (fun _ i _ => s.length - (intOf i).toNat)
  case atStart => exact ⟨0, [], o, Nat.zero_le _, Nat.le_refl _, rfl, Row.nil _ _ _ _ _, Stp.refl _ _ _, .start s⟩
  case round =>
    obtain ⟨k, acc, o1, hk, hak, rfl, hr, st, hL⟩ := hrel
    by_cases hlt : k < s.length
    · obtain ⟨b, hbk⟩ : ∃ b, s[k]? = some b := ⟨_, List.getElem?_eq_getElem hlt⟩
      have hix := idx_ok hbk
      cases hbl : blankB b with
      | true =>
        have B := blank_v hbl
        have hN := Lib.hid (hL.blank hbk hbl)
        have HS := Lib.hid st
        have HR := Lib.hid hr
        clear hL st hr hbk hbl
        go_wp2_with fail
        refine (B _).mono ?_; rintro e w' ⟨rfl, rfl⟩
        go_wp2_with fail
        go_roundw
        case rel => exact ⟨k + 1, _, o1, by omega, by omega, by go_num, HR.out, HS.out, hN.out⟩
        case measure => simp [intOf]; omega
      | false =>
        have B := blank_v hbl
        have HC := word_ok (o := o1) (w := wr) (r := r ++ [1]) k hk hs
        have HL := Lib.hid hL
        have HS := Lib.hid st
        have HR := Lib.hid hr
        have HB := Lib.hid hbk
        have HBL := Lib.hid hbl
        clear hL st hr hbk hbl
        go_wp2_with fail
        refine (B _).mono ?_; rintro e w' ⟨rfl, rfl⟩
        go_wp2_with fail
        refine HC.mono ?_; rintro e w1 (⟨rfl, hnone, o2, st2⟩ | ⟨p, n, o2, rfl, hnl, hin, hlen, hsome, st2⟩)
        · have HD := Lib.hid (SplitDid.fail (HL.out.none HB.out HBL.out hnone) (HS.out.trans (st2.wide (List.prefix_append _ _))))
          clear hnone st2 HC B
          go_wp2_with fail
          go_ret2
          exact HD.out
        · have hn0 : decide ((n : Int) < 0) = false := by simp
          have hkn := word_lt HB.out HBL.out hsome hnl
          have hN := Lib.hid (HL.out.word HB.out HBL.out hsome)
          have HR2 := Lib.hid (HR.out.keep st2 (np_app (by simp)))
          have HS2 := Lib.hid (HS.out.trans (st2.wide (List.prefix_append _ _)))
          clear hsome st2 HC B HL HR HS HB HBL
          go_wp2_with (
            at_builtin
            refine wpList_pushS rfl _ _ rfl p rfl HR2.out rfl (by omega) ?_
            intro v' w1 o' hrow hst
            have HW := Lib.hid hrow
            have HT := Lib.hid (HS2.out.trans (hst.wide (List.prefix_append _ _)))
            clear hrow hst HR2 HS2)
          go_roundw
          case rel => exact ⟨n, _, o', hnl, by simp; omega, rfl, HW.out, HT.out, hN.out⟩
          case measure => simp [intOf]; omega
    · have HD := Lib.hid (SplitDid.good (hL.done (by omega)) (by omega) hr st)
      clear hL hr st
      go_wp2_with fail
      go_ret2
      exact HD.out
end Go.Proofs.Ytgdgnpjgemcjgaa
