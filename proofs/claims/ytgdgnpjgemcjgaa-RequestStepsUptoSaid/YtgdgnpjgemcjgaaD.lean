import Derived.Test.YtgdgnpjgemcjgaaC
import Derived.Deep.RegionLaw
namespace Go.Proofs.Ytgdgnpjgemcjgaa
open Go Go.RowKit
theorem idx_at {s : List UInt8} {k : Nat} {b : UInt8} (h : s[k]? = some b) (N : Int) (hN : N = k) (w : World) :
    (Instr.index 9 (.string ⟨s.toArray⟩) (.int .i64 N)).run Try.prog w = .ok (.int .u8 (b.toNat : Int)) w := by
  subst hN; exact idx_ok h w
theorem ofNat_lt (n : Nat) (h : n < 256) : (((UInt8.ofNat n).toNat : Nat) : Int) = n := by
  rw [UInt8.toNat_ofNat_of_lt' (by simpa using h)]
theorem wpList_push2 {ops : Array Oper} {rest : List Oper} {o : Oper} {a : Act} {Q : Exit → Act → World → Prop} {ow : Roles} {w : World} {r : List Nat} (hgd : o.guard = none) (s x : Operand)
    (ho : o.op = .call { callee := .builtin .append, args := #[s, x], argTypes := #[62, 62] })
    {v : Value} {l : List UInt8} (b : UInt8) (n : Int) (hnb : (b.toNat : Int) = n) (hv : a.eval s = v) (hrow : Row ow w r 5 1 v l.length (l.map bv)) (hx : a.eval x = .slice (some ⟨w.heap.size, 0, none⟩) 1 1)
    (hn : l.length ≤ 1099511627776)
    (h : ∀ v' w' ow', Row ow' w' r 5 1 v' (l ++ [b]).length ((l ++ [b]).map bv) → Stp r ow w ow' w' → wpList Try.prog ops Q rest (a.put o.dst v') w') : wpList Try.prog ops Q (o :: rest) a (w.alloc (.cells #[.int .u8 n] 5)) := by
  subst hnb
  exact wpList_push hgd s x ho b hv hrow hx hn h
theorem step_push2 {ops : Array Oper} {o : Oper} {a : Act} {K : Act → World → Prop} {Q : Exit → Act → World → Prop} {E : Prop} {ow : Roles} {w W : World} {r : List Nat} (hgd : o.guard = none) (s x : Operand)
    (ho : o.op = .call { callee := .builtin .append, args := #[s, x], argTypes := #[62, 62] })
    {v : Value} {l : List UInt8} (b : UInt8) (n : Int) (hnb : (b.toNat : Int) = n) (hv : a.eval s = v) (hrow : Row ow w r 5 1 v l.length (l.map bv)) (hx : a.eval x = .slice (some ⟨w.heap.size, 0, none⟩) 1 1)
    (hW : W = w.alloc (.cells #[.int .u8 n] 5)) (hn : l.length ≤ 1099511627776)
    (h : ∀ v' w' ow', Row ow' w' r 5 1 v' (l ++ [b]).length ((l ++ [b]).map bv) → Stp r ow w ow' w' → K (a.put o.dst v') w') : if Region.wanted o (yielded ops a.tmps) = true then Oper.wp Try.prog o a W K Q else E := by
  subst hnb; subst hW
  obtain ⟨i0, hi0, hz0, hz1, hz2⟩ := info_parts info5
  refine step_app (w.alloc (.cells #[.int .u8 (b.toNat : Int)] 5)) hgd s x 62 62 ho 5 i0 (.int .u8 0) 1 1 Try.underlying62 hi0 hz0 hz1 hz2 rfl hv (hrow.below ((Below.refl _ _).alloc (Nat.le_refl _) _)) (m := 1) (news := [bv b]) hx
    (Src.ofSlice _ Try.underlying62 ⟨w.heap.size, 0, none⟩ 1 1 _ rfl (World.news_of_block (heap_alloc_new w _)) (fun u hu => by simp [bv] at hu; subst hu; rfl)) (by unfold maxLen; omega) (by omega) ?_
  intro v' w' o' hr hs
  refine h v' w' o' ?_ ?_
  · simpa using hr
  · exact (Stp.ofBelow r ow ((Below.refl _ _).alloc (Nat.le_refl _) _)).trans hs
theorem hex_okS {c : UInt8} {x : Nat} (h : hexV c = some x) (w : World) : Calls Try.prog 54 #[.int .u8 (c.toNat : Int)] w fun e w' => e = .returned (.int .i64 (x : Int)) ∧ w' = w := by
  have := hex_ok c w
  unfold bv hexI at this
  simp only [h] at this
  exact this
theorem hex_okN {c : UInt8} (h : hexV c = none) (w : World) : Calls Try.prog 54 #[.int .u8 (c.toNat : Int)] w fun e w' => e = .returned (.int .i64 (-1)) ∧ w' = w := by
  have := hex_ok c w
  unfold bv hexI at this
  simp only [h] at this
  exact this
theorem rhex_okS {c : UInt8} {x : Nat} (h : hexV c = some x) (w : World) : Calls Try.prog 46 #[.int .u8 (c.toNat : Int)] w fun e w' => e = .returned (.int .i64 (x : Int)) ∧ w' = w := by
  have := rhex_ok c w
  unfold bv hexI at this
  simp only [h] at this
  exact this
theorem rhex_okN {c : UInt8} (h : hexV c = none) (w : World) : Calls Try.prog 46 #[.int .u8 (c.toNat : Int)] w fun e w' => e = .returned (.int .i64 (-1)) ∧ w' = w := by
  have := rhex_ok c w
  unfold bv hexI at this
  simp only [h] at this
  exact this

theorem double_end {s : List UInt8} {k : Nat} (h : s[k]? = some 34) : doubleL (s.drop k) = some ([], s.drop (k + 1)) := by
  rw [drop_at h]
  generalize s.drop (k + 1) = r
  unfold doubleL
  rw [if_pos rfl]
theorem double_go {s : List UInt8} {k : Nat} {b : UInt8} (h : s[k]? = some b) (h1 : b ≠ 34) (h2 : b = 92 → k + 1 = s.length) : doubleL (s.drop k) = (doubleL (s.drop (k + 1))).map (pre [b]) := by
  rw [drop_at h]
  cases hd : s.drop (k + 1) with
  | nil =>
    unfold doubleL
    rw [if_neg h1]
    simp
  | cons c r =>
    have : b ≠ 92 := fun e => by
      have := h2 e
      rw [List.drop_eq_nil_of_le (by omega)] at hd
      cases hd
    rw [doubleL.eq_def]
    simp only [if_neg h1, if_neg this]
    rfl
theorem double_hex {s : List UInt8} {k : Nat} {h1 h2 : UInt8} {x y : Nat} (h : s[k]? = some 92) (hc : s[k + 1]? = some 120) (hh1 : s[k + 2]? = some h1) (hh2 : s[k + 3]? = some h2) (hx : hexV h1 = some x) (hy : hexV h2 = some y) :
    doubleL (s.drop k) = (doubleL (s.drop (k + 4))).map (pre [UInt8.ofNat (16 * x + y)]) := by
  rw [drop_at h, drop_at hc, drop_at hh1, drop_at hh2, doubleL.eq_def]
  simp only [if_neg (show ¬ (92 : UInt8) = 34 by decide), if_true, hx, hy, decide_true]
  rfl
theorem double_esc {s : List UInt8} {k : Nat} {c : UInt8} (h : s[k]? = some 92) (hc : s[k + 1]? = some c) (hno : c = 120 → ∀ h1 h2, s[k + 2]? = some h1 → s[k + 3]? = some h2 → hexV h1 = none ∨ hexV h2 = none) :
    doubleL (s.drop k) = (doubleL (s.drop (k + 2))).map (pre [escB c]) := by
  rw [drop_at h, drop_at hc]
  have g2 : s[k + 2]? = (s.drop (k + 2))[0]? := by simp
  have g3 : s[k + 3]? = (s.drop (k + 2))[1]? := by simp [List.getElem?_drop]
  change doubleL (92 :: c :: s.drop (k + 2)) = _
  rw [g2, g3] at hno
  generalize s.drop (k + 2) = t at *
  rw [doubleL.eq_def]
  simp only [if_neg (show ¬ (92 : UInt8) = 34 by decide)]
  match t, hno with
  | [], _ => simp [doubleL]
  | [h1], _ => simp only [if_true]; rfl
  | h1 :: h2 :: r, hno =>
    simp only [if_true]
    split
    · rename_i x y e1 e2 e3
      have := hno (by simpa using e1) h1 h2 rfl rfl
      rw [e2, e3] at this
      rcases this with h | h <;> cases h
    · rfl
theorem escB_same {c : UInt8} (h1 : ¬ c = 110) (h2 : ¬ c = 114) (h3 : ¬ c = 116) (h4 : ¬ c = 98) (h5 : ¬ c = 97) : escB c = c := by simp [escB, h1, h2, h3, h4, h5]

set_option maxRecDepth 4000 in
set_option maxHeartbeats 4000000 in
theorem double_ok {o : Roles} {w : World} {r : List Nat} {v : Value} {b0 : List UInt8} {s : List UInt8} (i0 : Nat) (h : Row o w r 5 1 v b0.length (b0.map bv)) (hb : b0.length ≤ i0) (hi : i0 ≤ s.length) (hs : s.length ≤ 1099511627776) :
    Calls Try.prog 44 #[v, txt s, .int .i64 i0] w (PartDid doubleL o w r s i0 b0) := by
  have hsz : (⟨s.toArray⟩ : ByteArray).size = s.length := by simp [ByteArray.size]
  have H := Lib.hid h
  clear h
  unfold txt
  go_enter Try.func44, Try.ntmps44
  go_wp2_with fail
  go_loopw [0, 2] (fun v i wr => PartRel doubleL o w r s i0 b0 v i wr) (fun _ i _ => s.length - (intOf i).toNat)
  case atStart => exact ⟨i0, b0, o, hi, Nat.le_refl _, hb, rfl, H.out, Stp.refl _ _ _, .start _ _ _ _⟩
  case round =>
    obtain ⟨k, acc, o1, hk, hik, hak, rfl, hr, st, hL⟩ := hrel
    clear H
    by_cases hlt : k < s.length
    · obtain ⟨b, hbk⟩ : ∃ b, s[k]? = some b := ⟨_, List.getElem?_eq_getElem hlt⟩
      have hix := idx_ok hbk
      by_cases h34 : b = 34
      · have t1 : ((b.toNat : Int) == 34) = true := beqT 34 h34
        subst h34
        have D := fun N hN => PartDid.good hL (double_end hbk) hlt (by omega) (by omega) hr st N hN
        have HD := Lib.hid D
        clear D hL hr st hbk
        go_wp2_with fail
        go_ret2
        exact HD.out _ (by go_num)
      · have t1 : ((b.toNat : Int) == 34) = false := beqF 34 h34
        by_cases h92 : b = 92
        · have t2 : ((b.toNat : Int) == 92) = true := beqT 92 h92
          subst h92
          by_cases hl2 : k + 1 < s.length
          · obtain ⟨c, hck⟩ : ∃ c, s[k + 1]? = some c := ⟨_, List.getElem?_eq_getElem hl2⟩
            have hix2 : ∀ w, (Instr.index 9 (.string ⟨s.toArray⟩) (.int .i64 ((k : Int) + 1))).run Try.prog w = .ok (.int .u8 (c.toNat : Int)) w := idx_ok hck
            have hne : ((k : Int) + 1 == (s.length : Int)) = false := by simp; omega
            by_cases hcx : c = 120
            · subst hcx
              by_cases hl4 : k + 3 < s.length
              · obtain ⟨h1, hh1⟩ : ∃ c, s[k + 2]? = some c := ⟨_, List.getElem?_eq_getElem (by omega)⟩
                obtain ⟨h2, hh2⟩ : ∃ c, s[k + 3]? = some c := ⟨_, List.getElem?_eq_getElem (by omega)⟩
                have i1 := idx_at hh1 ((k : Int) + 1 + 1) (by omega)
                have i1' := idx_at hh1 ((k : Int) + 2) (by omega)
                have i2 := idx_at hh2 ((k : Int) + 1 + 2) (by omega)
                have i2' := idx_at hh2 ((k : Int) + 3) (by omega)
                cases hv1 : hexV h1 with
                | none =>
                  have X1 := hex_okN hv1
                  have hN := hL.step (double_esc hbk hck (fun _ a b ha hb => .inl (by rw [hh1] at ha; cases ha; exact hv1)))
                  have HN := Lib.hid hN
                  have HS := Lib.hid st
                  have HR := Lib.hid hr
                  clear hN hL hr st hbk hck hh1 hh2 hv1
                  go_wp2_with fail
                  refine (X1 _).mono ?_; rintro e w' ⟨rfl, rfl⟩
                  go_wp2_with (
                    at_builtin
                    refine wpList_push rfl _ _ rfl 120 rfl HR.out rfl (by omega) ?_
                    intro v' w1 o' hrow hst
                    have HW := Lib.hid hrow
                    have HT := Lib.hid hst
                    clear hrow hst HR)
                  go_roundw
                  case rel => exact ⟨k + 2, _, o', by omega, by omega, by simp; omega, by go_num, HW.out, HS.out.trans HT.out, HN.out⟩
                  case measure => simp [intOf]; omega
                | some x =>
                  have X1 := hex_okS hv1
                  have hx := hexV_lt hv1
                  cases hv2 : hexV h2 with
                  | none =>
                    have X2 := hex_okN hv2
                    have hN := hL.step (double_esc hbk hck (fun _ a b ha hb => .inr (by rw [hh2] at hb; cases hb; exact hv2)))
                    have HN := Lib.hid hN
                    have HS := Lib.hid st
                    have HR := Lib.hid hr
                    clear hN hL hr st hbk hck hh1 hh2 hv1 hv2
                    go_wp2_with fail
                    refine (X1 _).mono ?_; rintro e w' ⟨rfl, rfl⟩
                    go_wp2_with fail
                    refine (X2 _).mono ?_; rintro e w' ⟨rfl, rfl⟩
                    go_wp2_with (
                      at_builtin
                      refine wpList_push rfl _ _ rfl 120 rfl HR.out rfl (by omega) ?_
                      intro v' w1 o' hrow hst
                      have HW := Lib.hid hrow
                      have HT := Lib.hid hst
                      clear hrow hst HR)
                    go_roundw
                    case rel => exact ⟨k + 2, _, o', by omega, by omega, by simp; omega, by go_num, HW.out, HS.out.trans HT.out, HN.out⟩
                    case measure => simp [intOf]; omega
                  | some y =>
                    have X2 := hex_okS hv2
                    have hy := hexV_lt hv2
                    have hN := hL.step (double_hex hbk hck hh1 hh2 hv1 hv2)
                    have HN := Lib.hid hN
                    have HS := Lib.hid st
                    have HR := Lib.hid hr
                    clear hN hL hr st hbk hck hh1 hh2 hv1 hv2
                    go_wp2_with fail
                    refine (X1 _).mono ?_; rintro e w' ⟨rfl, rfl⟩
                    go_wp2_with fail
                    refine (X2 _).mono ?_; rintro e w' ⟨rfl, rfl⟩
                    go_wp2_with fail
                    have e0 : IntKind.i64.wrap ((k : Int) + 1 + 1) = (k : Int) + 1 + 1 := IntWalk.i64_in _ (by omega)
                    have e1 : IntKind.i64.wrap ((k : Int) + 2) = (k : Int) + 2 := IntWalk.i64_in _ (by omega)
                    have e2 : IntKind.i64.wrap ((k : Int) + 1 + 2) = (k : Int) + 1 + 2 := IntWalk.i64_in _ (by omega)
                    have e3 : IntKind.i64.wrap ((k : Int) + 3) = (k : Int) + 3 := IntWalk.i64_in _ (by omega)
                    have e4 : IntKind.i64.wrap ((x : Int) * 16) = (x : Int) * 16 := IntWalk.i64_in _ (by omega)
                    have e5 : IntKind.i64.wrap (16 * (x : Int)) = 16 * (x : Int) := IntWalk.i64_in _ (by omega)
                    have e6 : IntKind.i64.wrap ((x : Int) * 16 + y) = (x : Int) * 16 + y := IntWalk.i64_in _ (by omega)
                    have e7 : IntKind.i64.wrap (16 * (x : Int) + y) = 16 * (x : Int) + y := IntWalk.i64_in _ (by omega)
                    have e8 : IntKind.u8.wrap ((x : Int) * 16 + y) = (x : Int) * 16 + y := IntWalk.u8_in _ (by omega)
                    have e9 : IntKind.u8.wrap (16 * (x : Int) + y) = 16 * (x : Int) + y := IntWalk.u8_in _ (by omega)
                    go_region_law (first
                      | ((refine step_push2 rfl _ _ rfl (UInt8.ofNat (16 * x + y)) _ ?_ rfl HR.out.drew rfl rfl ?_ ?_)
                         · rw [ofNat_lt _ (by omega)]; go_num
                         · omega
                         intro v' w1 o' hrow hst
                         have HW := Lib.hid hrow
                         have HT := Lib.hid hst.from1
                         clear hrow hst HR)
                      | (go_simp; go_at_call 54; (with_reducible refine (X1 _).mono ?_); rintro e w' ⟨rfl, rfl⟩)
                      | (go_simp; go_at_call 54; (with_reducible refine (X2 _).mono ?_); rintro e w' ⟨rfl, rfl⟩))
                    all_goals
                      clear e0 e1 e2 e3 e4 e5 e6 e7 e8 e9
                      go_wp2_with fail
                      go_roundw
                      case rel => exact ⟨k + 4, _, o', by omega, by omega, by simp; omega, by go_num, HW.out, HS.out.trans HT.out, HN.out⟩
                      case measure => simp [intOf]; omega
              · have hl4' : s.length ≤ k + 3 := by omega
                have hN := hL.step (double_esc hbk hck (fun _ a b ha hb => absurd (List.getElem?_eq_some_iff.1 hb).1 (by omega)))
                have HN := Lib.hid hN
                have HS := Lib.hid st
                have HR := Lib.hid hr
                clear hN hL hr st hbk hck
                go_wp2_with (
                  at_builtin
                  refine wpList_push rfl _ _ rfl 120 rfl HR.out rfl (by omega) ?_
                  intro v' w1 o' hrow hst
                  have HW := Lib.hid hrow
                  have HT := Lib.hid hst
                  clear hrow hst HR)
                go_roundw
                case rel => exact ⟨k + 2, _, o', by omega, by omega, by simp; omega, by go_num, HW.out, HS.out.trans HT.out, HN.out⟩
                case measure => simp [intOf]; omega
            · have t3 : ((c.toNat : Int) == 120) = false := beqF 120 hcx
              by_cases c110 : c = 110
              · subst c110
                have hN := hL.step (double_esc hbk hck (fun e => absurd e hcx))
                have HN := Lib.hid hN
                have HS := Lib.hid st
                have HR := Lib.hid hr
                clear hN hL hr st hbk hck
                go_wp2_with (
                  at_builtin
                  refine wpList_push rfl _ _ rfl 10 rfl HR.out rfl (by omega) ?_
                  intro v' w1 o' hrow hst
                  have HW := Lib.hid hrow
                  have HT := Lib.hid hst
                  clear hrow hst HR)
                go_roundw
                case rel => exact ⟨k + 2, _, o', by omega, by omega, by simp; omega, by go_num, HW.out, HS.out.trans HT.out, HN.out⟩
                case measure => simp [intOf]; omega
              have u110 : ((c.toNat : Int) == 110) = false := beqF 110 c110
              by_cases c114 : c = 114
              · subst c114
                have hN := hL.step (double_esc hbk hck (fun e => absurd e hcx))
                have HN := Lib.hid hN
                have HS := Lib.hid st
                have HR := Lib.hid hr
                clear hN hL hr st hbk hck
                go_wp2_with (
                  at_builtin
                  refine wpList_push rfl _ _ rfl 13 rfl HR.out rfl (by omega) ?_
                  intro v' w1 o' hrow hst
                  have HW := Lib.hid hrow
                  have HT := Lib.hid hst
                  clear hrow hst HR)
                go_roundw
                case rel => exact ⟨k + 2, _, o', by omega, by omega, by simp; omega, by go_num, HW.out, HS.out.trans HT.out, HN.out⟩
                case measure => simp [intOf]; omega
              have u114 : ((c.toNat : Int) == 114) = false := beqF 114 c114
              by_cases c116 : c = 116
              · subst c116
                have hN := hL.step (double_esc hbk hck (fun e => absurd e hcx))
                have HN := Lib.hid hN
                have HS := Lib.hid st
                have HR := Lib.hid hr
                clear hN hL hr st hbk hck
                go_wp2_with (
                  at_builtin
                  refine wpList_push rfl _ _ rfl 9 rfl HR.out rfl (by omega) ?_
                  intro v' w1 o' hrow hst
                  have HW := Lib.hid hrow
                  have HT := Lib.hid hst
                  clear hrow hst HR)
                go_roundw
                case rel => exact ⟨k + 2, _, o', by omega, by omega, by simp; omega, by go_num, HW.out, HS.out.trans HT.out, HN.out⟩
                case measure => simp [intOf]; omega
              have u116 : ((c.toNat : Int) == 116) = false := beqF 116 c116
              by_cases c98 : c = 98
              · subst c98
                have hN := hL.step (double_esc hbk hck (fun e => absurd e hcx))
                have HN := Lib.hid hN
                have HS := Lib.hid st
                have HR := Lib.hid hr
                clear hN hL hr st hbk hck
                go_wp2_with (
                  at_builtin
                  refine wpList_push rfl _ _ rfl 8 rfl HR.out rfl (by omega) ?_
                  intro v' w1 o' hrow hst
                  have HW := Lib.hid hrow
                  have HT := Lib.hid hst
                  clear hrow hst HR)
                go_roundw
                case rel => exact ⟨k + 2, _, o', by omega, by omega, by simp; omega, by go_num, HW.out, HS.out.trans HT.out, HN.out⟩
                case measure => simp [intOf]; omega
              have u98 : ((c.toNat : Int) == 98) = false := beqF 98 c98
              by_cases c97 : c = 97
              · subst c97
                have hN := hL.step (double_esc hbk hck (fun e => absurd e hcx))
                have HN := Lib.hid hN
                have HS := Lib.hid st
                have HR := Lib.hid hr
                clear hN hL hr st hbk hck
                go_wp2_with (
                  at_builtin
                  refine wpList_push rfl _ _ rfl 7 rfl HR.out rfl (by omega) ?_
                  intro v' w1 o' hrow hst
                  have HW := Lib.hid hrow
                  have HT := Lib.hid hst
                  clear hrow hst HR)
                go_roundw
                case rel => exact ⟨k + 2, _, o', by omega, by omega, by simp; omega, by go_num, HW.out, HS.out.trans HT.out, HN.out⟩
                case measure => simp [intOf]; omega
              have u97 : ((c.toNat : Int) == 97) = false := beqF 97 c97
              have hN := hL.step (escB_same c110 c114 c116 c98 c97 ▸ double_esc hbk hck (fun e => absurd e hcx))
              have HN := Lib.hid hN
              have HS := Lib.hid st
              have HR := Lib.hid hr
              clear hN hL hr st hbk hck
              go_wp2_with (
                at_builtin
                refine wpList_push rfl _ _ rfl c rfl HR.out rfl (by omega) ?_
                intro v' w1 o' hrow hst
                have HW := Lib.hid hrow
                have HT := Lib.hid hst
                clear hrow hst HR)
              go_roundw
              case rel => exact ⟨k + 2, _, o', by omega, by omega, by simp; omega, by go_num, HW.out, HS.out.trans HT.out, HN.out⟩
              case measure => simp [intOf]; omega
          · have hge : k + 1 = s.length := by omega
            have heq : ((k : Int) + 1 == (s.length : Int)) = true := by simp; omega
            have hN := hL.step (double_go hbk h34 (fun _ => hge))
            have HN := Lib.hid hN
            have HS := Lib.hid st
            have HR := Lib.hid hr
            clear hN hL hr st hbk
            go_wp2_with (
              at_builtin
              refine wpList_push rfl _ _ rfl 92 rfl HR.out rfl (by omega) ?_
              intro v' w1 o' hrow hst
              have HW := Lib.hid hrow
              have HT := Lib.hid hst
              clear hrow hst HR)
            go_roundw
            case rel => exact ⟨k + 1, _, o', by omega, by omega, by simp; omega, by go_num, HW.out, HS.out.trans HT.out, HN.out⟩
            case measure => simp [intOf]; omega
        · have t2 : ((b.toNat : Int) == 92) = false := beqF 92 h92
          have hN := hL.step (double_go hbk h34 (fun e => absurd e h92))
          have HN := Lib.hid hN
          have HS := Lib.hid st
          have HR := Lib.hid hr
          clear hN hL hr st hbk
          go_wp2_with (
            at_builtin
            refine wpList_push rfl _ _ rfl b rfl HR.out rfl (by omega) ?_
            intro v' w1 o' hrow hst
            have HW := Lib.hid hrow
            have HT := Lib.hid hst
            clear hrow hst HR)
          go_roundw
          case rel => exact ⟨k + 1, _, o', by omega, by omega, by simp; omega, by go_num, HW.out, HS.out.trans HT.out, HN.out⟩
          case measure => simp [intOf]; omega
    · have D := fun v => PartDid.fail hL (k := k) (by rw [List.drop_eq_nil_of_le (by omega)]; rfl) st v
      have HD := Lib.hid D
      clear D hL hr st
      go_wp2_with fail
      go_ret2
      exact HD.out _
end Go.Proofs.Ytgdgnpjgemcjgaa
