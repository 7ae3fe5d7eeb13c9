import Derived.Test.YtgdgnpjgemcjgaaF
namespace Go.Proofs.Ytgdgnpjgemcjgaa
open Go Go.RowKit
/-- What reading a word answers. -/
def WordDid (o : Roles) (w : World) (r : List Nat) (s : List UInt8) (i0 : Nat) (e : Ending) (w' : World) : Prop :=
  (e = .returned (.tuple #[.string ⟨#[]⟩, .int .i64 (-1)]) ∧ wordL (s.drop i0) = none ∧ ∃ o', Stp r o w o' w') ∨
  ∃ part n o', e = .returned (.tuple #[.string ⟨part.toArray⟩, .int .i64 (n : Nat)]) ∧ n ≤ s.length ∧ i0 ≤ n ∧ part.length ≤ n ∧ wordL (s.drop i0) = some (part, s.drop n) ∧ Stp r o w o' w'
theorem WordDid.fail {o o' : Roles} {w wr : World} {r : List Nat} {s : List UInt8} {i0 : Nat} {b0 acc : List UInt8} {k : Nat} (h : LoopI wordL s i0 b0 acc k) (e : wordL (s.drop k) = none) (st : Stp r o w o' wr) : WordDid o w r s i0 (.returned (.tuple #[.string ⟨#[]⟩, .int .i64 (-1)])) wr :=
  .inl ⟨rfl, h.none e, o', st⟩
theorem WordDid.good {o o' : Roles} {w wr : World} {r : List Nat} {s : List UInt8} {i0 : Nat} {acc : List UInt8} {k : Nat} (h : LoopI wordL s i0 [] acc k) (he : endsWord (s.drop k) = true) (hn : k ≤ s.length) (hi : i0 ≤ k) (ha : acc.length ≤ k) (st : Stp r o w o' wr) :
    WordDid o w r s i0 (.returned (.tuple #[.string ⟨acc.toArray⟩, .int .i64 (k : Int)])) wr := by
  obtain ⟨part, rfl, h2⟩ := h.some (word_ends he)
  exact .inr ⟨acc, k, o', rfl, hn, hi, ha, h2, st⟩

set_option maxHeartbeats 2000000 in
theorem word_ok {o : Roles} {w : World} {r : List Nat} {s : List UInt8} (i0 : Nat) (hi : i0 ≤ s.length) (hs : s.length ≤ 1099511627776) :
    Calls Try.prog 34 #[.string ⟨s.toArray⟩, .int .i64 (i0 : Int)] w (WordDid o w r s i0) := by
  have hsz : (⟨s.toArray⟩ : ByteArray).size = s.length := by simp [ByteArray.size]
  have H := Lib.hid (Row.nil o w r 5 1)
  go_enter Try.func34, Try.ntmps34
  go_wp2_with fail
  go_loopw [6, 1] (fun v i wr => PartRel wordL o w r s i0 [] v i wr) (fun _ i _ => s.length - (intOf i).toNat)
  case atStart => exact ⟨i0, [], o, hi, Nat.le_refl _, Nat.zero_le _, rfl, H.out, Stp.refl _ _ _, .start _ _ _ _⟩
  case round =>
    obtain ⟨k, acc, o1, hk, hik, hak, rfl, hr, st, hL⟩ := hrel
    clear H
    by_cases hlt : k < s.length
    · obtain ⟨b, hbk⟩ : ∃ b, s[k]? = some b := ⟨_, List.getElem?_eq_getElem hlt⟩
      have hix := idx_ok hbk
      cases hbl : blankB b with
      | true =>
        have B := blank_v hbl
        have D := WordDid.good hL (ends_at hbk hbl) hk hik hak st
        have ht := row_text hr
        have HD := Lib.hid D
        clear D hL hr st hbk hbl
        go_wp2_with fail
        refine (B _).mono ?_; rintro e w' ⟨rfl, rfl⟩
        go_wp2_with fail
        go_ret2
        exact HD.out
      | false =>
        have B := blank_v hbl
        by_cases h34 : b = 34
        · have t1 : ((b.toNat : Int) == 34) = true := beqT 34 h34
          have HC := double_at (k + 1) hr (by omega) hlt hs ((k : Int) + 1) (by omega)
          clear hr
          have HL := Lib.hid hL
          have HS := Lib.hid st
          have HB := Lib.hid hbk
          clear hL st hbk hbl
          subst h34
          go_wp2_with fail
          refine (B _).mono ?_; rintro e w' ⟨rfl, rfl⟩
          go_wp2_with fail
          refine HC.mono ?_; rintro e w1 (⟨v, o2, rfl, hnone, st2⟩ | ⟨v, n, part, o2, rfl, hnl, hin, hlen, hsome, hr2, st2⟩)
          · have D := WordDid.fail HL.out (word_none HB.out (.inl ⟨rfl, hnone⟩)) (HS.out.trans st2)
            have HD := Lib.hid D
            clear D hnone st2 HC B
            go_wp2_with fail
            go_ret2
            exact HD.out
          · have hn0 : decide ((n : Int) < 0) = false := by simp
            have HR := Lib.hid hr2
            have HS2 := Lib.hid (HS.out.trans st2)
            have HQ := Lib.hid hsome
            clear hr2 st2 HC B HS hsome
            by_cases hn : n < s.length
            · obtain ⟨c, hc⟩ : ∃ c, s[n]? = some c := ⟨_, List.getElem?_eq_getElem hn⟩
              have hix2 := idx_ok hc
              cases hbc : blankB c with
              | true =>
                have B2 := blank_v hbc
                have hN := Lib.hid (HL.out.step (word_good HB.out (.inl ⟨rfl, HQ.out⟩) (ends_at hc hbc)))
                clear HL hbc hc
                go_wp2_with fail
                refine (B2 _).mono ?_; rintro e w' ⟨rfl, rfl⟩
                go_wp2_with fail
                go_roundw
                case rel => exact ⟨n, _, o2, hnl, by omega, hlen, rfl, HR.out, HS2.out, hN.out⟩
                case measure => simp [intOf]; omega
              | false =>
                have B2 := blank_v hbc
                have D := WordDid.fail HL.out (word_bad HB.out (.inl ⟨rfl, HQ.out⟩) hc hbc) HS2.out
                have HD := Lib.hid D
                clear D HL hbc hc
                go_wp2_with fail
                refine (B2 _).mono ?_; rintro e w' ⟨rfl, rfl⟩
                go_wp2_with fail
                go_ret2
                exact HD.out
            · have hN := Lib.hid (HL.out.step (word_good HB.out (.inl ⟨rfl, HQ.out⟩) (ends_len (by omega))))
              clear HL
              go_wp2_with fail
              go_roundw
              case rel => exact ⟨n, _, o2, hnl, by omega, hlen, rfl, HR.out, HS2.out, hN.out⟩
              case measure => simp [intOf]; omega
        · have t1 : ((b.toNat : Int) == 34) = false := beqF 34 h34
          have t1n : ((b.toNat : Int) != 34) = true := bneT 34 h34
          by_cases h39 : b = 39
          · have t2 : ((b.toNat : Int) == 39) = true := beqT 39 h39
            have HC := single_at (k + 1) hr (by omega) hlt hs ((k : Int) + 1) (by omega)
            clear hr
            have HL := Lib.hid hL
            have HS := Lib.hid st
            have HB := Lib.hid hbk
            clear hL st hbk hbl
            subst h39
            go_wp2_with fail
            refine (B _).mono ?_; rintro e w' ⟨rfl, rfl⟩
            go_wp2_with fail
            refine HC.mono ?_; rintro e w1 (⟨v, o2, rfl, hnone, st2⟩ | ⟨v, n, part, o2, rfl, hnl, hin, hlen, hsome, hr2, st2⟩)
            · have D := WordDid.fail HL.out (word_none HB.out (.inr ⟨rfl, hnone⟩)) (HS.out.trans st2)
              have HD := Lib.hid D
              clear D hnone st2 HC B
              go_wp2_with fail
              go_ret2
              exact HD.out
            · have hn0 : decide ((n : Int) < 0) = false := by simp
              have HR := Lib.hid hr2
              have HS2 := Lib.hid (HS.out.trans st2)
              have HQ := Lib.hid hsome
              clear hr2 st2 HC B HS hsome
              by_cases hn : n < s.length
              · obtain ⟨c, hc⟩ : ∃ c, s[n]? = some c := ⟨_, List.getElem?_eq_getElem hn⟩
                have hix2 := idx_ok hc
                cases hbc : blankB c with
                | true =>
                  have B2 := blank_v hbc
                  have hN := Lib.hid (HL.out.step (word_good HB.out (.inr ⟨rfl, HQ.out⟩) (ends_at hc hbc)))
                  clear HL hbc hc
                  go_wp2_with fail
                  refine (B2 _).mono ?_; rintro e w' ⟨rfl, rfl⟩
                  go_wp2_with fail
                  go_roundw
                  case rel => exact ⟨n, _, o2, hnl, by omega, hlen, rfl, HR.out, HS2.out, hN.out⟩
                  case measure => simp [intOf]; omega
                | false =>
                  have B2 := blank_v hbc
                  have D := WordDid.fail HL.out (word_bad HB.out (.inr ⟨rfl, HQ.out⟩) hc hbc) HS2.out
                  have HD := Lib.hid D
                  clear D HL hbc hc
                  go_wp2_with fail
                  refine (B2 _).mono ?_; rintro e w' ⟨rfl, rfl⟩
                  go_wp2_with fail
                  go_ret2
                  exact HD.out
              · have hN := Lib.hid (HL.out.step (word_good HB.out (.inr ⟨rfl, HQ.out⟩) (ends_len (by omega))))
                clear HL
                go_wp2_with fail
                go_roundw
                case rel => exact ⟨n, _, o2, hnl, by omega, hlen, rfl, HR.out, HS2.out, hN.out⟩
                case measure => simp [intOf]; omega
          · have t2 : ((b.toNat : Int) == 39) = false := beqF 39 h39
            have t2n : ((b.toNat : Int) != 39) = true := bneT 39 h39
            have hN := Lib.hid (hL.step (word_go hbk hbl h34 h39))
            have HS := Lib.hid st
            have HR := Lib.hid hr
            clear hL hr st hbk hbl
            go_wp2_with fail
            refine (B _).mono ?_; rintro e w' ⟨rfl, rfl⟩
            go_wp2_with (
              at_builtin
              refine wpList_push rfl _ _ rfl b rfl HR.out rfl (by omega) ?_
              intro v' w1 o' hrow hst
              have HW := Lib.hid hrow
              have HT := Lib.hid hst
              clear hrow hst HR)
            go_roundw
            case rel => exact ⟨k + 1, _, o', by omega, by omega, by simp; omega, by go_num, HW.out, HS.out.trans HT.out, hN.out⟩
            case measure => simp [intOf]; omega
    · have he : endsWord (s.drop k) = true := ends_len (by omega)
      have D := WordDid.good hL he hk hik hak st
      have ht := row_text hr
      have HD := Lib.hid D
      clear D hL hr st he
      go_wp2_with fail
      go_ret2
      exact HD.out
end Go.Proofs.Ytgdgnpjgemcjgaa
