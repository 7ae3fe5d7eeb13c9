import Derived.Test.YtgdgnpjgemcjgaaH
namespace Go.Proofs.Ytgdgnpjgemcjgaa
open Go Go.RowKit
theorem wordD {s : List UInt8} {i0 k : Nat} {acc : List UInt8} (h : LoopI wordL s i0 [] acc k) (he : endsWord (s.drop k) = true) : wordL (s.drop i0) = some (acc, s.drop k) := by
  obtain ⟨part, rfl, h2⟩ := h.some (word_ends he)
  exact h2
theorem word_len {s : List UInt8} {i0 k : Nat} {acc : List UInt8} (h : LoopI wordL s i0 [] acc k) (he : endsWord (s.drop k) = true) (hk : k ≤ s.length) : acc.length ≤ k := by
  have := wordL_le _ _ _ (wordD h he)
  simp only [List.length_drop] at this
  omega
/-- Bytes come behind, out of another row. -/
theorem wpList_joinB {ops : Array Oper} {rest : List Oper} {o : Oper} {a : Act} {Q : Exit → Act → World → Prop} {ow : Roles} {w : World} {r r2 : List Nat} (hgd : o.guard = none) (s x : Operand)
    (ho : o.op = .call { callee := .builtin .append, args := #[s, x], argTypes := #[62, 62] })
    {v v2 : Value} {l l2 : List UInt8} (hv : a.eval s = v) (hrow : Row ow w r 5 1 v l.length (l.map bv)) (hx : a.eval x = v2) (hrow2 : Row ow w r2 5 1 v2 l2.length (l2.map bv))
    (hn : l.length + l2.length ≤ 4398046511104)
    (h : ∀ v' w' ow', Row ow' w' r 5 1 v' (l ++ l2).length ((l ++ l2).map bv) → Stp r ow w ow' w' → wpList Try.prog ops Q rest (a.put o.dst v') w') : wpList Try.prog ops Q (o :: rest) a w := by
  obtain ⟨i0, hi0, hz0, hz1, hz2⟩ := info_parts info5
  refine wpList_app w hgd s x 62 62 ho 5 i0 (.int .u8 0) 1 1 Try.underlying62 hi0 hz0 hz1 hz2 rfl hv hrow hx (hrow2.src Try.underlying62 (fun u hu => by obtain ⟨b, _, rfl⟩ := List.mem_map.1 hu; rfl)) (by unfold maxLen; omega) (by omega) ?_
  intro v' w' o' hr hs
  refine h v' w' o' ?_ hs
  simpa using hr
/-- Where the loop over a word's letters is. -/
def RWordRel (o : Roles) (w : World) (R : List Nat) (s : List UInt8) (i0 : Nat) (v i : Value) (wr : World) : Prop :=
  ∃ k acc o', k ≤ s.length ∧ i0 ≤ k ∧ acc.length ≤ k ∧ i = .int .i64 (k : Int) ∧ Row o' wr (R ++ [0]) 5 1 v acc.length (acc.map bv) ∧ Stp R o w o' wr ∧ LoopI wordL s i0 [] acc k
def RBlank (s : List UInt8) (acc : List (List UInt8)) (k : Nat) (i : Value) : Prop := ∃ j : Nat, k ≤ j ∧ j ≤ s.length ∧ i = .int .i64 j ∧ SplitI s acc j

set_option maxRecDepth 4000 in
set_option maxHeartbeats 4000000 in
theorem rsplit_ok (o : Roles) (w : World) (r : List Nat) (s : List UInt8) (hs : s.length ≤ 1099511627776) :
    Calls Try.prog 18 #[.string ⟨s.toArray⟩] w (SplitDid o w r s) := by
  have hsz : (⟨s.toArray⟩ : ByteArray).size = s.length := by simp [ByteArray.size]
  go_enter Try.func18, Try.ntmps18
  go_wp2_with fail
  go_loopw [4, 5] (fun v i wr => SplitRel o w r s v i wr) (fun _ i _ => s.length - (intOf i).toNat)
  case atStart => exact ⟨0, [], o, Nat.zero_le _, Nat.le_refl _, rfl, Row.nil _ _ _ _ _, Stp.refl _ _ _, .start s⟩
  case round =>
    obtain ⟨k0, acc, o1, hk0, hak, rfl, hr, st, hL0⟩ := hrel
    obtain ⟨wo, rfl⟩ : ∃ wo : World, wo = wr := ⟨_, rfl⟩
    have HR := Lib.hid hr
    have HS := Lib.hid st
    have HL0 := Lib.hid hL0
    clear hr st hL0
    go_wp2_with fail
    go_loop [5] (fun i => RBlank s acc k0 i) (fun i => s.length - (intOf i).toNat)
    case atStart => exact ⟨k0, Nat.le_refl _, hk0, rfl, HL0.out⟩
    case round =>
      obtain ⟨k, hkk, hk, rfl, hL⟩ := hrel
      clear HL0
      by_cases hlt : k < s.length
      · obtain ⟨b, hbk⟩ : ∃ b, s[k]? = some b := ⟨_, List.getElem?_eq_getElem hlt⟩
        have hix := idx_ok hbk
        cases hbl : blankB b with
        | true =>
          have B := rblank_v hbl
          have hN := Lib.hid (hL.blank hbk hbl)
          clear hL hbk hbl
          go_wp2_with fail
          refine (B _).mono ?_; rintro e w' ⟨rfl, rfl⟩
          go_wp2_with fail
          go_round
          case rel => exact ⟨k + 1, by omega, by omega, by go_num, hN.out⟩
          case measure => simp [intOf]; omega
        | false =>
          have B := rblank_v hbl
          have HL := Lib.hid hL
          have HB := Lib.hid hbk
          have HBL := Lib.hid hbl
          have hne : ((k : Int) == (s.length : Int)) = false := by simp; omega
          clear hL hbk hbl
          go_wp2_with fail
          refine (B _).mono ?_; rintro e w' ⟨rfl, rfl⟩
          go_wp2_with fail
          clear hix B hne
          go_loopw [6, 5] (fun v i wr => RWordRel o1 w' (r ++ [1]) s k v i wr) (fun _ i _ => s.length - (intOf i).toNat)
          case atStart => exact ⟨k, [], o1, hk, Nat.le_refl _, Nat.zero_le _, rfl, Row.nil _ _ _ _ _, Stp.refl _ _ _, .start _ _ _ _⟩
          case round =>
            obtain ⟨j, wacc, o2, hj, hkj, hwa, rfl, hr, st, hL⟩ := hrel
            have HR2 := Lib.hid (HR.out.keep st (np_app (by simp)))
            have HS2 := Lib.hid (HS.out.trans (st.wide (List.prefix_append _ _)))
            by_cases hlt : j < s.length
            · obtain ⟨b, hbk⟩ : ∃ b, s[j]? = some b := ⟨_, List.getElem?_eq_getElem hlt⟩
              have hix := idx_ok hbk
              cases hbl : blankB b with
              | true =>
                have B := rblank_v hbl
                have hw := wordD hL (ends_at hbk hbl)
                have hkn := word_lt HB.out HBL.out hw hj
                have hN := Lib.hid (HL.out.word HB.out HBL.out hw)
                have ht := row_text hr
                clear hL hr st hbk hbl HL hw
                go_wp2_with fail
                refine (B _).mono ?_; rintro e w2 ⟨rfl, rfl⟩
                go_wp2_with (
                  at_builtin
                  refine wpList_pushS rfl _ _ rfl wacc rfl HR2.out rfl (by omega) ?_
                  intro v' w3 o' hrow hst
                  have HW := Lib.hid hrow
                  have HT := Lib.hid (HS2.out.trans (hst.wide (List.prefix_append _ _)))
                  clear hrow hst HR2 HS2)
                go_roundw
                case rel => exact ⟨j, _, o', hj, by simp; omega, rfl, HW.out, HT.out, hN.out⟩
                case measure => simp [intOf]; omega
              | false =>
                have B := rblank_v hbl
                have HLW := Lib.hid hL
                have HST := Lib.hid st
                have HRW := Lib.hid hr
                have HBJ := Lib.hid hbk
                clear hL st hr hbk
                by_cases h34 : b = 34
                · have t1 : ((b.toNat : Int) == 34) = true := beqT 34 h34
                  have HC := rdouble_at (o := o2) (w := wr) (r := r ++ [1] ++ [1]) (j + 1) hlt hs ((j : Int) + 1) (by omega)
                  subst h34
                  clear hbl
                  go_wp2_with fail
                  refine (B _).mono ?_; rintro e w2 ⟨rfl, rfl⟩
                  go_wp2_with fail
                  refine HC.mono ?_; rintro e w3 (⟨v, o3, rfl, hnone, st3⟩ | ⟨v, n, part, o3, rfl, hnl, hin, hlen, hsome, hr3, st3⟩)
                  · have hw : wordL (s.drop k) = none := HLW.out.none (word_none HBJ.out (.inl ⟨rfl, hnone⟩))
                    have HD := Lib.hid (SplitDid.fail (HL.out.none HB.out HBL.out hw) (HS2.out.trans ((st3.wide (List.prefix_append _ _)).wide (List.prefix_append _ _))))
                    clear hw hnone st3 HC B
                    go_wp2_with fail
                    go_ret2
                    exact HD.out
                  · have hn0 : decide ((n : Int) < 0) = false := by simp
                    have HP := Lib.hid hr3
                    have HRW3 := Lib.hid (HRW.out.keep st3 (np_app (by simp)))
                    have hts : part.length ≤ n := by simpa using hlen
                    have hsum : wacc.length + part.length ≤ 4398046511104 := by omega
                    have HS3 := Lib.hid st3
                    have HLN := Lib.hid (fun (he : endsWord (s.drop n) = true) => HLW.out.step (word_good HBJ.out (.inl ⟨rfl, hsome⟩) he))
                    have HLF := Lib.hid (fun (c : UInt8) (hc : s[n]? = some c) (hbc : blankB c = false) => HLW.out.none (word_bad HBJ.out (.inl ⟨rfl, hsome⟩) hc hbc))
                    clear hr3 st3 HC B hsome hlen
                    by_cases hn : n < s.length
                    · obtain ⟨c, hc⟩ : ∃ c, s[n]? = some c := ⟨_, List.getElem?_eq_getElem hn⟩
                      have hix2 := idx_ok hc
                      cases hbc : blankB c with
                      | true =>
                        have B2 := rblank_v hbc
                        have hN := Lib.hid (HLN.out (ends_at hc hbc))
                        have hnl2 := word_len hN.out (ends_at hc hbc) hnl
                        clear hbc hc
                        go_wp2_with fail
                        refine (B2 _).mono ?_; rintro e w2 ⟨rfl, rfl⟩
                        go_wp2_with (
                          at_builtin
                          refine wpList_joinB rfl _ _ rfl rfl HRW3.out rfl HP.out hsum ?_
                          intro v' w4 o' hrow hst
                          have HW := Lib.hid hrow
                          have HT := Lib.hid ((HST.out.trans (HS3.out.wide (List.prefix_append _ _))).trans (hst.wide (List.prefix_append _ _)))
                          clear hrow hst)
                        go_roundw
                        case rel => exact ⟨n, _, o', hnl, by omega, hnl2, rfl, HW.out, HT.out, hN.out⟩
                        case measure => simp [intOf]; omega
                      | false =>
                        have B2 := rblank_v hbc
                        have HD := Lib.hid (SplitDid.fail (HL.out.none HB.out HBL.out (HLF.out c hc hbc)) (HS2.out.trans ((HS3.out.wide (List.prefix_append _ _)).wide (List.prefix_append _ _))))
                        clear hbc hc
                        go_wp2_with fail
                        refine (B2 _).mono ?_; rintro e w2 ⟨rfl, rfl⟩
                        go_wp2_with fail
                        go_ret2
                        exact HD.out
                    · have hN := Lib.hid (HLN.out (ends_len (by omega)))
                      have hnl2 := word_len hN.out (ends_len (by omega)) hnl
                      go_wp2_with (
                        at_builtin
                        refine wpList_joinB rfl _ _ rfl rfl HRW3.out rfl HP.out hsum ?_
                        intro v' w4 o' hrow hst
                        have HW := Lib.hid hrow
                        have HT := Lib.hid ((HST.out.trans (HS3.out.wide (List.prefix_append _ _))).trans (hst.wide (List.prefix_append _ _)))
                        clear hrow hst)
                      go_roundw
                      case rel => exact ⟨n, _, o', hnl, by omega, hnl2, rfl, HW.out, HT.out, hN.out⟩
                      case measure => simp [intOf]; omega
                · have t1 : ((b.toNat : Int) == 34) = false := beqF 34 h34
                  have t1n : ((b.toNat : Int) != 34) = true := bneT 34 h34
                  by_cases h39 : b = 39
                  · have t1 : ((b.toNat : Int) == 39) = true := beqT 39 h39
                    have HC := rsingle_at (o := o2) (w := wr) (r := r ++ [1] ++ [1]) (j + 1) hlt hs ((j : Int) + 1) (by omega)
                    subst h39
                    clear hbl
                    go_wp2_with fail
                    refine (B _).mono ?_; rintro e w2 ⟨rfl, rfl⟩
                    go_wp2_with fail
                    refine HC.mono ?_; rintro e w3 (⟨v, o3, rfl, hnone, st3⟩ | ⟨v, n, part, o3, rfl, hnl, hin, hlen, hsome, hr3, st3⟩)
                    · have hw : wordL (s.drop k) = none := HLW.out.none (word_none HBJ.out (.inr ⟨rfl, hnone⟩))
                      have HD := Lib.hid (SplitDid.fail (HL.out.none HB.out HBL.out hw) (HS2.out.trans ((st3.wide (List.prefix_append _ _)).wide (List.prefix_append _ _))))
                      clear hw hnone st3 HC B
                      go_wp2_with fail
                      go_ret2
                      exact HD.out
                    · have hn0 : decide ((n : Int) < 0) = false := by simp
                      have HP := Lib.hid hr3
                      have HRW3 := Lib.hid (HRW.out.keep st3 (np_app (by simp)))
                      have hts : part.length ≤ n := by simpa using hlen
                      have hsum : wacc.length + part.length ≤ 4398046511104 := by omega
                      have HS3 := Lib.hid st3
                      have HLN := Lib.hid (fun (he : endsWord (s.drop n) = true) => HLW.out.step (word_good HBJ.out (.inr ⟨rfl, hsome⟩) he))
                      have HLF := Lib.hid (fun (c : UInt8) (hc : s[n]? = some c) (hbc : blankB c = false) => HLW.out.none (word_bad HBJ.out (.inr ⟨rfl, hsome⟩) hc hbc))
                      clear hr3 st3 HC B hsome hlen
                      by_cases hn : n < s.length
                      · obtain ⟨c, hc⟩ : ∃ c, s[n]? = some c := ⟨_, List.getElem?_eq_getElem hn⟩
                        have hix2 := idx_ok hc
                        cases hbc : blankB c with
                        | true =>
                          have B2 := rblank_v hbc
                          have hN := Lib.hid (HLN.out (ends_at hc hbc))
                          have hnl2 := word_len hN.out (ends_at hc hbc) hnl
                          clear hbc hc
                          go_wp2_with fail
                          refine (B2 _).mono ?_; rintro e w2 ⟨rfl, rfl⟩
                          go_wp2_with (
                            at_builtin
                            refine wpList_joinB rfl _ _ rfl rfl HRW3.out rfl HP.out hsum ?_
                            intro v' w4 o' hrow hst
                            have HW := Lib.hid hrow
                            have HT := Lib.hid ((HST.out.trans (HS3.out.wide (List.prefix_append _ _))).trans (hst.wide (List.prefix_append _ _)))
                            clear hrow hst)
                          go_roundw
                          case rel => exact ⟨n, _, o', hnl, by omega, hnl2, rfl, HW.out, HT.out, hN.out⟩
                          case measure => simp [intOf]; omega
                        | false =>
                          have B2 := rblank_v hbc
                          have HD := Lib.hid (SplitDid.fail (HL.out.none HB.out HBL.out (HLF.out c hc hbc)) (HS2.out.trans ((HS3.out.wide (List.prefix_append _ _)).wide (List.prefix_append _ _))))
                          clear hbc hc
                          go_wp2_with fail
                          refine (B2 _).mono ?_; rintro e w2 ⟨rfl, rfl⟩
                          go_wp2_with fail
                          go_ret2
                          exact HD.out
                      · have hN := Lib.hid (HLN.out (ends_len (by omega)))
                        have hnl2 := word_len hN.out (ends_len (by omega)) hnl
                        go_wp2_with (
                          at_builtin
                          refine wpList_joinB rfl _ _ rfl rfl HRW3.out rfl HP.out hsum ?_
                          intro v' w4 o' hrow hst
                          have HW := Lib.hid hrow
                          have HT := Lib.hid ((HST.out.trans (HS3.out.wide (List.prefix_append _ _))).trans (hst.wide (List.prefix_append _ _)))
                          clear hrow hst)
                        go_roundw
                        case rel => exact ⟨n, _, o', hnl, by omega, hnl2, rfl, HW.out, HT.out, hN.out⟩
                        case measure => simp [intOf]; omega
                  · have t2 : ((b.toNat : Int) == 39) = false := beqF 39 h39
                    have t2n : ((b.toNat : Int) != 39) = true := bneT 39 h39
                    have hN := Lib.hid (HLW.out.step (word_go HBJ.out hbl h34 h39))
                    clear hbl
                    go_wp2_with fail
                    refine (B _).mono ?_; rintro e w2 ⟨rfl, rfl⟩
                    go_wp2_with (
                      at_builtin
                      refine wpList_push rfl _ _ rfl b rfl HRW.out rfl (by omega) ?_
                      intro v' w1 o' hrow hst
                      have HW := Lib.hid hrow
                      have HT := Lib.hid (HST.out.trans (hst.wide (List.prefix_append _ _)))
                      clear hrow hst)
                    go_roundw
                    case rel => exact ⟨j + 1, _, o', by omega, by omega, by simp; omega, by go_num, HW.out, HT.out, hN.out⟩
                    case measure => simp [intOf]; omega
            · have hw := wordD hL (ends_len (by omega))
              have hkn := word_lt HB.out HBL.out hw hj
              have hN := Lib.hid (HL.out.word HB.out HBL.out hw)
              have ht := row_text hr
              clear hL hr st HL hw
              go_wp2_with (
                at_builtin
                refine wpList_pushS rfl _ _ rfl wacc rfl HR2.out rfl (by omega) ?_
                intro v' w3 o' hrow hst
                have HW := Lib.hid hrow
                have HT := Lib.hid (HS2.out.trans (hst.wide (List.prefix_append _ _)))
                clear hrow hst HR2 HS2)
              go_roundw
              case rel => exact ⟨j, _, o', hj, by simp; omega, rfl, HW.out, HT.out, hN.out⟩
              case measure => simp [intOf]; omega
      · have heq : ((k : Int) == (s.length : Int)) = true := by simp; omega
        have HD := Lib.hid (SplitDid.good (hL.done (by omega)) (by omega) HR.out HS.out)
        clear hL
        go_wp2_with fail
        go_ret2
        exact HD.out
end Go.Proofs.Ytgdgnpjgemcjgaa
