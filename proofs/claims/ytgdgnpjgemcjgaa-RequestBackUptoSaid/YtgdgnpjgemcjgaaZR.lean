import Derived.Test.YtgdgnpjgemcjgaaZO
namespace Go.Proofs.Ytgdgnpjgemcjgaa
open Go Go.RowKit
/-! ### The document's own answer: a line, a count -/
abbrev cbad : Ending := .returned (.tuple #[.int .i64 0, .bool false])
def RCountDid (most : Nat) (s : List UInt8) (w : World) (e : Ending) (w' : World) : Prop :=
  w' = w ∧ ((e = cbad ∧ countR most s = none) ∨ ∃ n : Nat, n ≤ most ∧ e = .returned (.tuple #[.int .i64 n, .bool true]) ∧ countR most s = some n)
set_option maxRecDepth 10000 in
set_option maxHeartbeats 1000000 in
theorem rcount_ok (s : List UInt8) (most : Nat) (w : World) (hm : most ≤ 1048576) (hs : s.length ≤ 1099511627776) :
    Calls Try.prog 52 #[.string ⟨s.toArray⟩, .int .i64 most] w (RCountDid most s w) := by
  have hsz : (⟨s.toArray⟩ : ByteArray).size = s.length := by simp [ByteArray.size]
  by_cases hnil : s = []
  · have D : RCountDid most s w cbad w := ⟨rfl, .inl ⟨rfl, by rw [countR, if_pos (.inl hnil)]⟩⟩
    have HD := Lib.hid D
    clear D
    subst hnil
    go_enter Try.func52, Try.ntmps52
    go_wp2_with fail
    go_ret2
    exact HD.out
  · obtain ⟨b0, r0, rfl⟩ := List.exists_cons_of_ne_nil hnil
    have hix0 : ∀ w, (Instr.index 9 (.string ⟨(b0 :: r0).toArray⟩) (.int .i64 0)).run Try.prog w = .ok (.int .u8 (b0.toNat : Int)) w := idx_ok (k := 0) rfl
    have hlen1 : 1 ≤ (b0 :: r0).length := by simp
    have hne : (b0 :: r0).isEmpty = false := rfl
    by_cases hz : 1 < (b0 :: r0).length ∧ b0 = 48
    · have D : RCountDid most (b0 :: r0) w cbad w := ⟨rfl, .inl ⟨rfl, by rw [countR, if_pos (.inr ⟨hz.1, by rw [hz.2]; rfl⟩)]⟩⟩
      have HD := Lib.hid D
      obtain ⟨hz1, hz2⟩ := hz
      have t1 : ((b0.toNat : Int) == 48) = true := beqT 48 hz2
      clear D hz2
      generalize b0 :: r0 = s at *
      go_enter Try.func52, Try.ntmps52
      go_wp2_with fail
      go_ret2
      exact HD.out
    · have hcount : countR most (b0 :: r0) = digitsF most 0 (b0 :: r0) := by
        rw [countR, if_neg]
        rintro (h | ⟨h1, h2⟩)
        · cases h
        · exact hz ⟨h1, by simpa using h2⟩
      have hcase : (1 < (b0 :: r0).length ∧ ((b0.toNat : Int) == 48) = false) ∨ ¬ 1 < (b0 :: r0).length := by
        by_cases h1 : 1 < (b0 :: r0).length
        · exact .inl ⟨h1, beqF 48 (fun h => hz ⟨h1, h⟩)⟩
        · exact .inr h1
      clear hz
      have HC := Lib.hid hcount
      clear hcount
      generalize b0 :: r0 = s at *
      have hat : CountRel most s (.int .i64 0) (.int .i64 0) := ⟨0, 0, Nat.zero_le _, rfl, rfl, Nat.zero_le _, rfl⟩
      rcases hcase with ⟨hc1, hc2⟩ | hc1
      all_goals
        go_enter Try.func52, Try.ntmps52
        go_wp2_with fail
        go_loop [6, 7] (fun v i => CountRel most s v i) (fun _ i => s.length - (intOf i).toNat)
        case atStart => exact hat
        case round =>
          obtain ⟨k, n, hk, rfl, rfl, hn, hI⟩ := hrel
          clear hat hix0 hc1
          by_cases hlt : k < s.length
          · obtain ⟨c, hck⟩ : ∃ c, s[k]? = some c := ⟨_, List.getElem?_eq_getElem hlt⟩
            have hix := idx_ok hck
            rw [drop_at hck] at hI
            have hclt : (c.toNat : Int) < 256 := by have := c.toNat_lt; omega
            have hc0 : 0 ≤ (c.toNat : Int) := by omega
            by_cases hbad : c < 48 ∨ 57 < c
            · have D : RCountDid most s w cbad w := ⟨rfl, .inl ⟨rfl, by rw [HC.out, hI, digitsF_bad hbad]⟩⟩
              have HD := Lib.hid D
              have hbI : (c.toNat : Int) < 48 ∨ (¬ (c.toNat : Int) < 48 ∧ 57 < (c.toNat : Int)) := by
                simp only [UInt8.lt_iff_toNat_lt, UInt8.reduceToNat] at hbad; omega
              clear D hI hck hbad
              rcases hbI with h1 | ⟨h1, h2⟩
              · go_wp2_with fail
                go_ret2
                exact HD.out
              · go_wp2_with fail
                go_ret2
                exact HD.out
            · have h1 : 48 ≤ (c.toNat : Int) ∧ (c.toNat : Int) ≤ 57 := by
                simp only [UInt8.lt_iff_toNat_lt, UInt8.reduceToNat] at hbad; omega
              obtain ⟨h1, h2⟩ := h1
              have hw : IntKind.u8.wrap ((c.toNat : Int) - 48) = (c.toNat : Int) - 48 := IntWalk.u8_in _ (by omega)
              by_cases hbig : most < 10 * n + (c.toNat - 48)
              · have D : RCountDid most s w cbad w := ⟨rfl, .inl ⟨rfl, by rw [HC.out, hI, digitsF_big hbig]⟩⟩
                have HD := Lib.hid D
                have hbg : (most : Int) < 10 * (n : Int) + ((c.toNat : Int) - 48) := by omega
                clear D hI hck hbad hbig
                go_wp2_with fail
                go_ret2
                exact HD.out
              · have HI := Lib.hid (show CountI most s (k + 1) (10 * n + (c.toNat - 48)) from ⟨by omega, by rw [hI, digitsF_go hbad hbig]⟩)
                have hbg : ¬ (most : Int) < 10 * (n : Int) + ((c.toNat : Int) - 48) := by omega
                clear hI hck hbad hbig
                go_wp2_with fail
                go_round
                case rel => exact ⟨k + 1, _, by omega, by go_num, by congr 1; omega, HI.out⟩
                case measure => simp [intOf]; omega
          · have D : RCountDid most s w (.returned (.tuple #[.int .i64 n, .bool true])) w := ⟨rfl, .inr ⟨n, hn, rfl, by rw [HC.out, hI, List.drop_eq_nil_of_le (by omega)]; rfl⟩⟩
            have HD := Lib.hid D
            clear D hI
            go_wp2_with fail
            go_ret2
            exact HD.out

theorem trim_cut13 {s : List UInt8} {a i : Nat} (hi : a < i) (h : s[i - 1]? = some 13) : trim13 ((s.drop a).take (i - a)) = (s.drop a).take (i - 1 - a) := by
  have e : (s.drop a).take (i - a) = (s.drop a).take (i - 1 - a) ++ [13] := by
    have := take_more (s := s) (a := a) (i := i - 1) h (by omega)
    rw [show i - 1 + 1 - a = i - a by omega] at this
    exact this
  rw [e]
  unfold trim13
  simp
theorem trim_cutno {s : List UInt8} {a i : Nat} {b : UInt8} (hi : a < i) (h : s[i - 1]? = some b) (hb : b ≠ 13) : trim13 ((s.drop a).take (i - a)) = (s.drop a).take (i - a) := by
  have e : (s.drop a).take (i - a) = (s.drop a).take (i - 1 - a) ++ [b] := by
    have := take_more (s := s) (a := a) (i := i - 1) h (by omega)
    rw [show i - 1 + 1 - a = i - a by omega] at this
    exact this
  unfold trim13
  rw [if_neg]
  rw [e]
  simpa using hb
theorem trim_nil : trim13 [] = [] := rfl
def RLineDid (w : World) (s : List UInt8) (at_ L : Nat) (e : Ending) (w' : World) : Prop :=
  w' = w ∧ ((e = .returned (.tuple #[.string ⟨#[]⟩, .int .i64 0, .int .i64 0]) ∧ lineR L (s.drop at_) = .more) ∨ (e = .returned (.tuple #[.string ⟨#[]⟩, .int .i64 0, .int .i64 2]) ∧ lineR L (s.drop at_) = .bad) ∨
  ∃ t n, e = .returned (.tuple #[.string ⟨(trim13 t).toArray⟩, .int .i64 (n : Nat), .int .i64 1]) ∧ lineR L (s.drop at_) = .ok t (s.drop n) ∧ at_ + t.length + 1 = n ∧ n ≤ s.length)
def RLineRel (L : Nat) (s : List UInt8) (at_ : Nat) (v : Value) : Prop := ∃ i : Nat, v = .int .i64 (i : Int) ∧ LineI L s at_ i
theorem RLineDid.good {w : World} {at_ i L : Nat} {s : List UInt8} (hI : LineI L s at_ i) (hb : s[i]? = some 10) (N : Int) (hN : N = i + 1) :
    RLineDid w s at_ L (.returned (.tuple #[.string ⟨(trim13 ((s.drop at_).take (i - at_))).toArray⟩, .int .i64 N, .int .i64 1])) w := by
  have hi : i < s.length := (List.getElem?_eq_some_iff.1 hb).1
  have h1 := hI.1
  have hl : ((s.drop at_).take (i - at_)).length = i - at_ := by simp; omega
  have : N = ((i + 1 : Nat) : Int) := by omega
  subst this
  exact ⟨rfl, .inr (.inr ⟨_, i + 1, rfl, hI.done hb, by rw [hl]; omega, hi⟩)⟩
set_option maxHeartbeats 1000000 in
theorem rline_ok (s : List UInt8) (at_ L : Nat) (w : World) (ha : at_ ≤ s.length) (hs : s.length ≤ 1099511627776) :
    Calls Try.prog 50 #[.string ⟨s.toArray⟩, .int .i64 at_, .int .i64 L] w (RLineDid w s at_ L) := by
  have hsz : (⟨s.toArray⟩ : ByteArray).size = s.length := by simp [ByteArray.size]
  have hat : RLineRel L s at_ (.int .i64 at_) := ⟨at_, rfl, .start _ _ _ ha⟩
  go_enter Try.func50, Try.ntmps50
  go_wp2_with fail
  go_loop [9] (fun v => RLineRel L s at_ v) (fun i => s.length - (intOf i).toNat)
  case atStart => exact hat
  case round =>
    obtain ⟨i, rfl, hI⟩ := hrel
    clear hat
    have hai := hI.1
    have hil := hI.2.1
    have hiL := hI.2.2.1
    by_cases hlt : i < s.length
    · obtain ⟨c, hck⟩ : ∃ c, s[i]? = some c := ⟨_, List.getElem?_eq_getElem hlt⟩
      have hix := idx_ok hck
      by_cases h10 : c = 10
      · have t1 : ((c.toNat : Int) == 10) = true := beqT 10 h10
        subst h10
        have HD := Lib.hid (RLineDid.good (w := w) hI hck)
        by_cases hgt : at_ < i
        · obtain ⟨d, hd⟩ : ∃ d, s[i - 1]? = some d := ⟨_, List.getElem?_eq_getElem (by omega)⟩
          have hixd := idx_at hd ((i : Int) - 1) (by omega)
          by_cases h13 : d = 13
          · have t2 : ((d.toNat : Int) == 13) = true := beqT 13 h13
            subst h13
            have hcut := cut_run s (some (.int .i64 at_)) (some (.int .i64 ((i : Int) - 1))) at_ (i - 1) (by omega) (by omega) (.inl rfl) (.inl (by congr 2; omega))
            rw [trim_cut13 hgt hd] at HD
            generalize (s.drop at_).take (i - 1 - at_) = t at *
            clear hI hck hd
            go_wp2_with fail
            go_ret3
            exact HD.out _ (by go_num)
          · have t2 : ((d.toNat : Int) == 13) = false := beqF 13 h13
            have hcut := cut_run s (some (.int .i64 at_)) (some (.int .i64 i)) at_ i hai hil (.inl rfl) (.inl rfl)
            rw [trim_cutno hgt hd h13] at HD
            generalize (s.drop at_).take (i - at_) = t at *
            clear hI hck hd
            go_wp2_with fail
            go_ret3
            exact HD.out _ (by go_num)
        · have hcut := cut_run s (some (.int .i64 at_)) (some (.int .i64 i)) at_ i hai hil (.inl rfl) (.inl rfl)
          have e0 : (s.drop at_).take (i - at_) = [] := by rw [show i - at_ = 0 by omega]; rfl
          rw [e0, trim_nil] at HD
          rw [e0] at hcut
          clear hI hck e0
          go_wp2_with fail
          go_ret3
          exact HD.out _ (by go_num)
      · have t1 : ((c.toNat : Int) == 10) = false := beqF 10 h10
        by_cases hL : i - at_ = L
        · have hw2 : ((i : Int) - at_ == (L : Int)) = true := by simp; omega
          have HH := Lib.hid (show RLineDid w s at_ L _ w from ⟨rfl, .inr (.inl ⟨rfl, hI.bad hck h10 hL⟩)⟩)
          clear hI hck hL
          go_wp2_with fail
          go_ret3
          exact HH.out
        · have hw2 : ((i : Int) - at_ == (L : Int)) = false := by simp; omega
          have HI := Lib.hid (hI.go hck h10 hL)
          clear hI hck hL
          go_wp2_with fail
          go_round
          case rel => exact ⟨i + 1, by go_num, HI.out⟩
          case measure => simp [intOf]; omega
    · have HH := Lib.hid (show RLineDid w s at_ L _ w from ⟨rfl, .inl ⟨rfl, hI.more (by omega)⟩⟩)
      clear hI
      go_wp2_with fail
      go_ret3
      exact HH.out
def thingV (u : Value) (n x : Int) (f : List UInt8) : Value := .agg #[u, .int .i64 n, .int .i64 x, .string ⟨f.toArray⟩]
theorem wrong_ok (f : List UInt8) (w : World) : Calls Try.prog 51 #[.string ⟨f.toArray⟩] w fun e w' => e = .returned (thingV (.slice none 0 0) 0 2 f) ∧ Below w.heap.size w w' := by
  go_enter Try.func51, Try.ntmps51
  go_wp2
  exact bodyPost_ret (v := thingV (.slice none 0 0) 0 2 f) (by simp [results, Try.results51, go_sem, thingV]) rfl ⟨rfl, by repeat (first | exact Below.refl _ _ | exact (Below.refl _ _).alloc (Nat.le_refl _) _ | refine Below.setCell ?_ (by simp) _)⟩
end Go.Proofs.Ytgdgnpjgemcjgaa
