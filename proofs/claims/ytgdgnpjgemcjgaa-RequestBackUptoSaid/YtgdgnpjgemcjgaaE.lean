import Derived.Test.YtgdgnpjgemcjgaaD
namespace Go.Proofs.Ytgdgnpjgemcjgaa
open Go Go.RowKit
set_option maxRecDepth 4000 in
set_option maxHeartbeats 4000000 in
theorem rdouble_ok {o : Roles} {w : World} {r : List Nat} {s : List UInt8} (i0 : Nat) (hi : i0 ≤ s.length) (hs : s.length ≤ 1099511627776) :
    Calls Try.prog 36 #[txt s, .int .i64 i0] w (PartDid doubleL o w r s i0 []) := by
  have hsz : (⟨s.toArray⟩ : ByteArray).size = s.length := by simp [ByteArray.size]
  have H := Lib.hid (Row.nil o w r 5 1)
  have hb : (([] : List UInt8)).length ≤ i0 := Nat.zero_le _
  unfold txt
  go_enter Try.func36, Try.ntmps36
  go_wp2_with fail
  go_loopw [6, 1] (fun v i wr => PartRel doubleL o w r s i0 [] v i wr) (fun _ i _ => s.length - (intOf i).toNat)
  case atStart => exact ⟨i0, [], o, hi, Nat.le_refl _, hb, rfl, H.out, Stp.refl _ _ _, .start _ _ _ _⟩
  case round =>
    obtain ⟨k, acc, o1, hk, hik, hak, rfl, hr, st, hL⟩ := hrel
    clear H
    by_cases hlt : k < s.length
    · obtain ⟨b, hbk⟩ : ∃ b, s[k]? = some b := ⟨_, List.getElem?_eq_getElem hlt⟩
      have hix := idx_ok hbk
      by_cases h34 : b = 34
      · have t1 : ((b.toNat : Int) == 34) = true := beqT 34 h34
        subst h34
        have D := fun N hN => PartDid.good hL (double_end hbk) hlt (by omega) (by omega) hr st N hN
        have HD := Lib.hid D
        clear D hL hr st hbk
        go_wp2_with fail
        go_ret2
        exact HD.out _ (by go_num)
      · have t1 : ((b.toNat : Int) == 34) = false := beqF 34 h34
        by_cases h92 : b = 92
        · have t2 : ((b.toNat : Int) == 92) = true := beqT 92 h92
          subst h92
          by_cases hl2 : k + 1 < s.length
          · obtain ⟨c, hck⟩ : ∃ c, s[k + 1]? = some c := ⟨_, List.getElem?_eq_getElem hl2⟩
            have hix2 : ∀ w, (Instr.index 9 (.string ⟨s.toArray⟩) (.int .i64 ((k : Int) + 1))).run Try.prog w = .ok (.int .u8 (c.toNat : Int)) w := idx_ok hck
            have hne : ((k : Int) + 1 == (s.length : Int)) = false := by simp; omega
            by_cases hcx : c = 120
            · subst hcx
              by_cases hl4 : k + 3 < s.length
              · obtain ⟨h1, hh1⟩ : ∃ c, s[k + 2]? = some c := ⟨_, List.getElem?_eq_getElem (by omega)⟩
                obtain ⟨h2, hh2⟩ : ∃ c, s[k + 3]? = some c := ⟨_, List.getElem?_eq_getElem (by omega)⟩
                have i1 := idx_at hh1 ((k : Int) + 1 + 1) (by omega)
                have i1' := idx_at hh1 ((k : Int) + 2) (by omega)
                have i2 := idx_at hh2 ((k : Int) + 1 + 2) (by omega)
                have i2' := idx_at hh2 ((k : Int) + 3) (by omega)
                cases hv1 : hexV h1 with
                | none =>
                  have X1 := rhex_okN hv1
                  have hN := hL.step (double_esc hbk hck (fun _ a b ha hb => .inl (by rw [hh1] at ha; cases ha; exact hv1)))
                  have HN := Lib.hid hN
                  have HS := Lib.hid st
                  have HR := Lib.hid hr
                  clear hN hL hr st hbk hck hh1 hh2 hv1
                  go_wp2_with fail
                  refine (X1 _).mono ?_; rintro e w' ⟨rfl, rfl⟩
                  go_wp2_with (
                    at_builtin
                    refine wpList_push rfl _ _ rfl 120 rfl HR.out rfl (by omega) ?_
                    intro v' w1 o' hrow hst
                    have HW := Lib.hid hrow
                    have HT := Lib.hid hst
                    clear hrow hst HR)
                  all_goals
                    go_roundw
                    case rel => exact ⟨k + 2, _, o', by omega, by omega, by simp; omega, by go_num, HW.out, HS.out.trans HT.out, HN.out⟩
                    case measure => simp [intOf]; omega
                | some x =>
                  have X1 := rhex_okS hv1
                  have hx := hexV_lt hv1
                  cases hv2 : hexV h2 with
                  | none =>
                    have X2 := rhex_okN hv2
                    have hN := hL.step (double_esc hbk hck (fun _ a b ha hb => .inr (by rw [hh2] at hb; cases hb; exact hv2)))
                    have HN := Lib.hid hN
                    have HS := Lib.hid st
                    have HR := Lib.hid hr
                    clear hN hL hr st hbk hck hh1 hh2 hv1 hv2
                    go_wp2_with fail
                    refine (X1 _).mono ?_; rintro e w' ⟨rfl, rfl⟩
                    go_wp2_with fail
                    refine (X2 _).mono ?_; rintro e w' ⟨rfl, rfl⟩
                    go_wp2_with (
                      at_builtin
                      refine wpList_push rfl _ _ rfl 120 rfl HR.out rfl (by omega) ?_
                      intro v' w1 o' hrow hst
                      have HW := Lib.hid hrow
                      have HT := Lib.hid hst
                      clear hrow hst HR)
                    all_goals
                      go_roundw
                      case rel => exact ⟨k + 2, _, o', by omega, by omega, by simp; omega, by go_num, HW.out, HS.out.trans HT.out, HN.out⟩
                      case measure => simp [intOf]; omega
                  | some y =>
                    have X2 := rhex_okS hv2
                    have hy := hexV_lt hv2
                    have hN := hL.step (double_hex hbk hck hh1 hh2 hv1 hv2)
                    have HN := Lib.hid hN
                    have HS := Lib.hid st
                    have HR := Lib.hid hr
                    clear hN hL hr st hbk hck hh1 hh2 hv1 hv2
                    go_wp2_with fail
                    refine (X1 _).mono ?_; rintro e w' ⟨rfl, rfl⟩
                    go_wp2_with fail
                    refine (X2 _).mono ?_; rintro e w' ⟨rfl, rfl⟩
                    go_wp2_with fail
                    have e0 : IntKind.i64.wrap ((k : Int) + 1 + 1) = (k : Int) + 1 + 1 := IntWalk.i64_in _ (by omega)
                    have e1 : IntKind.i64.wrap ((k : Int) + 2) = (k : Int) + 2 := IntWalk.i64_in _ (by omega)
                    have e2 : IntKind.i64.wrap ((k : Int) + 1 + 2) = (k : Int) + 1 + 2 := IntWalk.i64_in _ (by omega)
                    have e3 : IntKind.i64.wrap ((k : Int) + 3) = (k : Int) + 3 := IntWalk.i64_in _ (by omega)
                    have e4 : IntKind.i64.wrap ((x : Int) * 16) = (x : Int) * 16 := IntWalk.i64_in _ (by omega)
                    have e5 : IntKind.i64.wrap (16 * (x : Int)) = 16 * (x : Int) := IntWalk.i64_in _ (by omega)
                    have e6 : IntKind.i64.wrap ((x : Int) * 16 + y) = (x : Int) * 16 + y := IntWalk.i64_in _ (by omega)
                    have e7 : IntKind.i64.wrap (16 * (x : Int) + y) = 16 * (x : Int) + y := IntWalk.i64_in _ (by omega)
                    have e8 : IntKind.u8.wrap ((x : Int) * 16 + y) = (x : Int) * 16 + y := IntWalk.u8_in _ (by omega)
                    have e9 : IntKind.u8.wrap (16 * (x : Int) + y) = 16 * (x : Int) + y := IntWalk.u8_in _ (by omega)
                    go_region_law (first
                      | ((refine step_push2 rfl _ _ rfl (UInt8.ofNat (16 * x + y)) _ ?_ rfl HR.out.drew rfl rfl ?_ ?_)
                         · rw [ofNat_lt _ (by omega)]; go_num
                         · omega
                         intro v' w1 o' hrow hst
                         have HW := Lib.hid hrow
                         have HT := Lib.hid hst.from1
                         clear hrow hst HR)
                      | (go_simp; go_at_call 46; (with_reducible refine (X1 _).mono ?_); rintro e w' ⟨rfl, rfl⟩)
                      | (go_simp; go_at_call 46; (with_reducible refine (X2 _).mono ?_); rintro e w' ⟨rfl, rfl⟩))
                    all_goals
                      clear e0 e1 e2 e3 e4 e5 e6 e7 e8 e9
                      go_wp2_with fail
                      go_roundw
                      case rel => exact ⟨k + 4, _, o', by omega, by omega, by simp; omega, by go_num, HW.out, HS.out.trans HT.out, HN.out⟩
                      case measure => simp [intOf]; omega
              · have hl4' : s.length ≤ k + 3 := by omega
                have hN := hL.step (double_esc hbk hck (fun _ a b ha hb => absurd (List.getElem?_eq_some_iff.1 hb).1 (by omega)))
                have HN := Lib.hid hN
                have HS := Lib.hid st
                have HR := Lib.hid hr
                clear hN hL hr st hbk hck
                go_wp2_with (
                  at_builtin
                  refine wpList_push rfl _ _ rfl 120 rfl HR.out rfl (by omega) ?_
                  intro v' w1 o' hrow hst
                  have HW := Lib.hid hrow
                  have HT := Lib.hid hst
                  clear hrow hst HR)
                all_goals
                  go_roundw
                  case rel => exact ⟨k + 2, _, o', by omega, by omega, by simp; omega, by go_num, HW.out, HS.out.trans HT.out, HN.out⟩
                  case measure => simp [intOf]; omega
            · have t3 : ((c.toNat : Int) == 120) = false := beqF 120 hcx
              by_cases c110 : c = 110
              · subst c110
                have hN := hL.step (double_esc hbk hck (fun e => absurd e hcx))
                have HN := Lib.hid hN
                have HS := Lib.hid st
                have HR := Lib.hid hr
                clear hN hL hr st hbk hck
                go_wp2_with (
                  at_builtin
                  refine wpList_push rfl _ _ rfl 10 rfl HR.out rfl (by omega) ?_
                  intro v' w1 o' hrow hst
                  have HW := Lib.hid hrow
                  have HT := Lib.hid hst
                  clear hrow hst HR)
                all_goals
                  go_roundw
                  case rel => exact ⟨k + 2, _, o', by omega, by omega, by simp; omega, by go_num, HW.out, HS.out.trans HT.out, HN.out⟩
                  case measure => simp [intOf]; omega
              have u110 : ((c.toNat : Int) == 110) = false := beqF 110 c110
              by_cases c114 : c = 114
              · subst c114
                have hN := hL.step (double_esc hbk hck (fun e => absurd e hcx))
                have HN := Lib.hid hN
                have HS := Lib.hid st
                have HR := Lib.hid hr
                clear hN hL hr st hbk hck
                go_wp2_with (
                  at_builtin
                  refine wpList_push rfl _ _ rfl 13 rfl HR.out rfl (by omega) ?_
                  intro v' w1 o' hrow hst
                  have HW := Lib.hid hrow
                  have HT := Lib.hid hst
                  clear hrow hst HR)
                all_goals
                  go_roundw
                  case rel => exact ⟨k + 2, _, o', by omega, by omega, by simp; omega, by go_num, HW.out, HS.out.trans HT.out, HN.out⟩
                  case measure => simp [intOf]; omega
              have u114 : ((c.toNat : Int) == 114) = false := beqF 114 c114
              by_cases c116 : c = 116
              · subst c116
                have hN := hL.step (double_esc hbk hck (fun e => absurd e hcx))
                have HN := Lib.hid hN
                have HS := Lib.hid st
                have HR := Lib.hid hr
                clear hN hL hr st hbk hck
                go_wp2_with (
                  at_builtin
                  refine wpList_push rfl _ _ rfl 9 rfl HR.out rfl (by omega) ?_
                  intro v' w1 o' hrow hst
                  have HW := Lib.hid hrow
                  have HT := Lib.hid hst
                  clear hrow hst HR)
                all_goals
                  go_roundw
                  case rel => exact ⟨k + 2, _, o', by omega, by omega, by simp; omega, by go_num, HW.out, HS.out.trans HT.out, HN.out⟩
                  case measure => simp [intOf]; omega
              have u116 : ((c.toNat : Int) == 116) = false := beqF 116 c116
              by_cases c98 : c = 98
              · subst c98
                have hN := hL.step (double_esc hbk hck (fun e => absurd e hcx))
                have HN := Lib.hid hN
                have HS := Lib.hid st
                have HR := Lib.hid hr
                clear hN hL hr st hbk hck
                go_wp2_with (
                  at_builtin
                  refine wpList_push rfl _ _ rfl 8 rfl HR.out rfl (by omega) ?_
                  intro v' w1 o' hrow hst
                  have HW := Lib.hid hrow
                  have HT := Lib.hid hst
                  clear hrow hst HR)
                all_goals
                  go_roundw
                  case rel => exact ⟨k + 2, _, o', by omega, by omega, by simp; omega, by go_num, HW.out, HS.out.trans HT.out, HN.out⟩
                  case measure => simp [intOf]; omega
              have u98 : ((c.toNat : Int) == 98) = false := beqF 98 c98
              by_cases c97 : c = 97
              · subst c97
                have hN := hL.step (double_esc hbk hck (fun e => absurd e hcx))
                have HN := Lib.hid hN
                have HS := Lib.hid st
                have HR := Lib.hid hr
                clear hN hL hr st hbk hck
                go_wp2_with (
                  at_builtin
                  refine wpList_push rfl _ _ rfl 7 rfl HR.out rfl (by omega) ?_
                  intro v' w1 o' hrow hst
                  have HW := Lib.hid hrow
                  have HT := Lib.hid hst
                  clear hrow hst HR)
                all_goals
                  go_roundw
                  case rel => exact ⟨k + 2, _, o', by omega, by omega, by simp; omega, by go_num, HW.out, HS.out.trans HT.out, HN.out⟩
                  case measure => simp [intOf]; omega
              have u97 : ((c.toNat : Int) == 97) = false := beqF 97 c97
              have hN := hL.step (escB_same c110 c114 c116 c98 c97 ▸ double_esc hbk hck (fun e => absurd e hcx))
              have HN := Lib.hid hN
              have HS := Lib.hid st
              have HR := Lib.hid hr
              clear hN hL hr st hbk hck
              go_wp2_with (
                at_builtin
                refine wpList_push rfl _ _ rfl c rfl HR.out rfl (by omega) ?_
                intro v' w1 o' hrow hst
                have HW := Lib.hid hrow
                have HT := Lib.hid hst
                clear hrow hst HR)
              all_goals
                go_roundw
                case rel => exact ⟨k + 2, _, o', by omega, by omega, by simp; omega, by go_num, HW.out, HS.out.trans HT.out, HN.out⟩
                case measure => simp [intOf]; omega
          · have hge : k + 1 = s.length := by omega
            have heq : ((k : Int) + 1 == (s.length : Int)) = true := by simp; omega
            have hN := hL.step (double_go hbk h34 (fun _ => hge))
            have HN := Lib.hid hN
            have HS := Lib.hid st
            have HR := Lib.hid hr
            clear hN hL hr st hbk
            go_wp2_with (
              at_builtin
              refine wpList_push rfl _ _ rfl 92 rfl HR.out rfl (by omega) ?_
              intro v' w1 o' hrow hst
              have HW := Lib.hid hrow
              have HT := Lib.hid hst
              clear hrow hst HR)
            all_goals
              go_roundw
              case rel => exact ⟨k + 1, _, o', by omega, by omega, by simp; omega, by go_num, HW.out, HS.out.trans HT.out, HN.out⟩
              case measure => simp [intOf]; omega
        · have t2 : ((b.toNat : Int) == 92) = false := beqF 92 h92
          have hN := hL.step (double_go hbk h34 (fun e => absurd e h92))
          have HN := Lib.hid hN
          have HS := Lib.hid st
          have HR := Lib.hid hr
          clear hN hL hr st hbk
          go_wp2_with (
            at_builtin
            refine wpList_push rfl _ _ rfl b rfl HR.out rfl (by omega) ?_
            intro v' w1 o' hrow hst
            have HW := Lib.hid hrow
            have HT := Lib.hid hst
            clear hrow hst HR)
          all_goals
            go_roundw
            case rel => exact ⟨k + 1, _, o', by omega, by omega, by simp; omega, by go_num, HW.out, HS.out.trans HT.out, HN.out⟩
            case measure => simp [intOf]; omega
    · have D := fun v => PartDid.fail hL (k := k) (by rw [List.drop_eq_nil_of_le (by omega)]; rfl) st v
      have HD := Lib.hid D
      clear D hL hr st
      go_wp2_with fail
      go_ret2
      exact HD.out _
end Go.Proofs.Ytgdgnpjgemcjgaa
