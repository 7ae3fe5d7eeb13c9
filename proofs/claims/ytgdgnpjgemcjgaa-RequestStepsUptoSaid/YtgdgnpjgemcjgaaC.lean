import Derived.Test.YtgdgnpjgemcjgaaB
namespace Go.Proofs.Ytgdgnpjgemcjgaa
open Go Go.RowKit
abbrev Part := List UInt8 → Option (List UInt8 × List UInt8)
def pre (x : List UInt8) (p : List UInt8 × List UInt8) : List UInt8 × List UInt8 := (x ++ p.1, p.2)
theorem drop_at {s : List UInt8} {k : Nat} {b : UInt8} (h : s[k]? = some b) : s.drop k = b :: s.drop (k + 1) := by
  obtain ⟨hk, e⟩ := List.getElem?_eq_some_iff.1 h
  rw [List.drop_eq_getElem_cons hk, e]

theorem single_end {s : List UInt8} {k : Nat} (h : s[k]? = some 39) : singleL (s.drop k) = some ([], s.drop (k + 1)) := by
  rw [drop_at h]
  cases s.drop (k + 1) <;> simp [singleL]
theorem single_esc {s : List UInt8} {k : Nat} (h : s[k]? = some 92) (h2 : s[k + 1]? = some 39) : singleL (s.drop k) = (singleL (s.drop (k + 2))).map (pre [39]) := by
  rw [drop_at h, drop_at h2, singleL]
  rw [if_neg (by decide)]
  simp only [and_self, if_true]
  rfl
theorem single_go {s : List UInt8} {k : Nat} {b : UInt8} (h : s[k]? = some b) (h1 : b ≠ 39) (h2 : b = 92 → s[k + 1]? ≠ some 39) : singleL (s.drop k) = (singleL (s.drop (k + 1))).map (pre [b]) := by
  rw [drop_at h]
  cases hd : s.drop (k + 1) with
  | nil => simp [singleL, h1]
  | cons c r =>
    have hc : s[k + 1]? = some c := by
      have := List.getElem?_drop (xs := s) (i := k + 1) (j := 0)
      rw [hd] at this
      simpa using this.symm
    have : ¬ (b = 92 ∧ c = 39) := fun ⟨h3, h4⟩ => h2 h3 (by rw [hc, h4])
    rw [singleL, if_neg h1]
    simp only [if_neg this]
    rfl

def LoopI (f : Part) (s : List UInt8) (i0 : Nat) (b0 acc : List UInt8) (k : Nat) : Prop := ∃ extra, acc = b0 ++ extra ∧ f (s.drop i0) = (f (s.drop k)).map (pre extra)
theorem LoopI.start (f : Part) (s : List UInt8) (i0 : Nat) (b0 : List UInt8) : LoopI f s i0 b0 b0 i0 := ⟨[], by simp, by cases f (s.drop i0) <;> simp [pre]⟩
theorem LoopI.step {f : Part} {s : List UInt8} {i0 : Nat} {b0 acc : List UInt8} {k k' : Nat} (h : LoopI f s i0 b0 acc k) {x : List UInt8} (e : f (s.drop k) = (f (s.drop k')).map (pre x)) : LoopI f s i0 b0 (acc ++ x) k' := by
  obtain ⟨extra, h1, h2⟩ := h
  refine ⟨extra ++ x, by rw [h1]; simp, ?_⟩
  rw [h2, e]
  cases f (s.drop k') <;> simp [pre]
theorem LoopI.none {f : Part} {s : List UInt8} {i0 : Nat} {b0 acc : List UInt8} {k : Nat} (h : LoopI f s i0 b0 acc k) (e : f (s.drop k) = none) : f (s.drop i0) = none := by
  obtain ⟨extra, h1, h2⟩ := h
  rw [h2, e]; rfl
theorem LoopI.some {f : Part} {s : List UInt8} {i0 : Nat} {b0 acc : List UInt8} {k n : Nat} (h : LoopI f s i0 b0 acc k) (e : f (s.drop k) = some ([], s.drop n)) : ∃ part, acc = b0 ++ part ∧ f (s.drop i0) = .some (part, s.drop n) := by
  obtain ⟨extra, h1, h2⟩ := h
  exact ⟨extra, h1, by rw [h2, e]; simp [pre]⟩

/-- Where a loop over a part is. -/
def PartRel (f : Part) (o : Roles) (w : World) (r : List Nat) (s : List UInt8) (i0 : Nat) (b0 : List UInt8) (v i : Value) (wr : World) : Prop :=
  ∃ k acc o', k ≤ s.length ∧ i0 ≤ k ∧ acc.length ≤ k ∧ i = .int .i64 (k : Int) ∧ Row o' wr r 5 1 v acc.length (acc.map bv) ∧ Stp r o w o' wr ∧ LoopI f s i0 b0 acc k
/-- What reading a part answers. -/
def PartDid (f : Part) (o : Roles) (w : World) (r : List Nat) (s : List UInt8) (i0 : Nat) (b0 : List UInt8) (e : Ending) (w' : World) : Prop :=
  (∃ v o', e = .returned (.tuple #[v, .int .i64 (-1)]) ∧ f (s.drop i0) = none ∧ Stp r o w o' w') ∨
  ∃ v n part o', e = .returned (.tuple #[v, .int .i64 (n : Nat)]) ∧ n ≤ s.length ∧ i0 ≤ n ∧ (b0 ++ part).length ≤ n ∧ f (s.drop i0) = some (part, s.drop n) ∧ Row o' w' r 5 1 v (b0 ++ part).length ((b0 ++ part).map bv) ∧ Stp r o w o' w'

theorem PartDid.fail {f : Part} {o o' : Roles} {w wr : World} {r : List Nat} {s : List UInt8} {i0 : Nat} {b0 acc : List UInt8} {k : Nat} (h : LoopI f s i0 b0 acc k) (e : f (s.drop k) = none) (st : Stp r o w o' wr) (v : Value) : PartDid f o w r s i0 b0 (.returned (.tuple #[v, .int .i64 (-1)])) wr :=
  .inl ⟨v, o', rfl, h.none e, st⟩
theorem PartDid.good {f : Part} {o o' : Roles} {w wr : World} {r : List Nat} {s : List UInt8} {i0 : Nat} {b0 acc : List UInt8} {k n : Nat} {v : Value} (h : LoopI f s i0 b0 acc k) (e : f (s.drop k) = some ([], s.drop n)) (hn : n ≤ s.length) (hi : i0 ≤ n) (ha : acc.length ≤ n) (hr : Row o' wr r 5 1 v acc.length (acc.map bv)) (st : Stp r o w o' wr) (N : Int) (hN : N = n) :
    PartDid f o w r s i0 b0 (.returned (.tuple #[v, .int .i64 N])) wr := by
  obtain ⟨part, rfl, h2⟩ := h.some e
  subst hN
  exact .inr ⟨v, n, part, o', rfl, hn, hi, ha, h2, hr, st⟩

set_option maxHeartbeats 1000000 in
theorem single_ok {o : Roles} {w : World} {r : List Nat} {v : Value} {b0 : List UInt8} {s : List UInt8} (i0 : Nat) (h : Row o w r 5 1 v b0.length (b0.map bv)) (hb : b0.length ≤ i0) (hi : i0 ≤ s.length) (hs : s.length ≤ 1099511627776) :
    Calls Try.prog 45 #[v, txt s, .int .i64 i0] w (PartDid singleL o w r s i0 b0) := by
  have hsz : (⟨s.toArray⟩ : ByteArray).size = s.length := by simp [ByteArray.size]
  have H := Lib.hid h
  clear h
  unfold txt
  go_enter Try.func45, Try.ntmps45
  go_wp2_with fail
  go_loopw [0, 2] (fun v i wr => PartRel singleL o w r s i0 b0 v i wr) (fun _ i _ => s.length - (intOf i).toNat)
  case atStart => exact ⟨i0, b0, o, hi, Nat.le_refl _, hb, rfl, H.out, Stp.refl _ _ _, .start _ _ _ _⟩
  case round =>
    obtain ⟨k, acc, o1, hk, hik, hak, rfl, hr, st, hL⟩ := hrel
    clear H
    by_cases hlt : k < s.length
    · obtain ⟨b, hbk⟩ : ∃ b, s[k]? = some b := ⟨_, List.getElem?_eq_getElem hlt⟩
      have hix := idx_ok hbk
      by_cases h39 : b = 39
      · have t1 : ((b.toNat : Int) == 39) = true := beqT 39 h39
        subst h39
        have D := fun N hN => PartDid.good hL (single_end hbk) hlt (by omega) (by omega) hr st N hN
        have HD := Lib.hid D
        clear D hL hr st hbk
        go_wp2_with fail
        go_ret2
        exact HD.out _ (by go_num)
      · have t1 : ((b.toNat : Int) == 39) = false := beqF 39 h39
        by_cases h92 : b = 92
        · have t2 : ((b.toNat : Int) == 92) = true := beqT 92 h92
          by_cases hl2 : k + 1 < s.length
          · obtain ⟨c, hck⟩ : ∃ c, s[k + 1]? = some c := ⟨_, List.getElem?_eq_getElem hl2⟩
            have hix2 : ∀ w, (Instr.index 9 (.string ⟨s.toArray⟩) (.int .i64 ((k : Int) + 1))).run Try.prog w = .ok (.int .u8 (c.toNat : Int)) w := idx_ok hck
            by_cases hc39 : c = 39
            · have t3 : ((c.toNat : Int) == 39) = true := beqT 39 hc39
              subst hc39; subst h92
              have hN := hL.step (single_esc hbk hck)
              have HN := Lib.hid hN
              have HS := Lib.hid st
              have HR := Lib.hid hr
              clear hN hL hr st hbk hck
              go_wp2_with (
                at_builtin
                refine wpList_push rfl _ _ rfl 39 rfl HR.out rfl (by omega) ?_
                intro v' w1 o' hrow hst
                have HW := Lib.hid hrow
                have HT := Lib.hid hst
                clear hrow hst HR)
              go_roundw
              case rel => exact ⟨k + 2, _, o', by omega, by omega, by simp; omega, by go_num, HW.out, HS.out.trans HT.out, HN.out⟩
              case measure => simp [intOf]; omega
            · have t3 : ((c.toNat : Int) == 39) = false := beqF 39 hc39
              subst h92
              have hN := hL.step (single_go hbk h39 (fun _ => by rw [hck]; simpa using hc39))
              have HN := Lib.hid hN
              have HS := Lib.hid st
              have HR := Lib.hid hr
              clear hN hL hr st hbk hck
              go_wp2_with (
                at_builtin
                refine wpList_push rfl _ _ rfl 92 rfl HR.out rfl (by omega) ?_
                intro v' w1 o' hrow hst
                have HW := Lib.hid hrow
                have HT := Lib.hid hst
                clear hrow hst HR)
              go_roundw
              case rel => exact ⟨k + 1, _, o', by omega, by omega, by simp; omega, by go_num, HW.out, HS.out.trans HT.out, HN.out⟩
              case measure => simp [intOf]; omega
          · have hge : s.length ≤ k + 1 := by omega
            subst h92
            have hN := hL.step (single_go hbk h39 (fun _ => by rw [List.getElem?_eq_none (by omega)]; simp))
            have HN := Lib.hid hN
            have HS := Lib.hid st
            have HR := Lib.hid hr
            clear hN hL hr st hbk
            go_wp2_with (
              at_builtin
              refine wpList_push rfl _ _ rfl 92 rfl HR.out rfl (by omega) ?_
              intro v' w1 o' hrow hst
              have HW := Lib.hid hrow
              have HT := Lib.hid hst
              clear hrow hst HR)
            go_roundw
            case rel => exact ⟨k + 1, _, o', by omega, by omega, by simp; omega, by go_num, HW.out, HS.out.trans HT.out, HN.out⟩
            case measure => simp [intOf]; omega
        · have t2 : ((b.toNat : Int) == 92) = false := beqF 92 h92
          have hN := hL.step (single_go hbk h39 (fun e => absurd e h92))
          have HN := Lib.hid hN
          have HS := Lib.hid st
          have HR := Lib.hid hr
          clear hN hL hr st hbk
          go_wp2_with (
            at_builtin
            refine wpList_push rfl _ _ rfl b rfl HR.out rfl (by omega) ?_
            intro v' w1 o' hrow hst
            have HW := Lib.hid hrow
            have HT := Lib.hid hst
            clear hrow hst HR)
          go_roundw
          case rel => exact ⟨k + 1, _, o', by omega, by omega, by simp; omega, by go_num, HW.out, HS.out.trans HT.out, HN.out⟩
          case measure => simp [intOf]; omega
    · have D := fun v => PartDid.fail hL (k := k) (by rw [List.drop_eq_nil_of_le (by omega)]; rfl) st v
      have HD := Lib.hid D
      clear D hL hr st
      go_wp2_with fail
      go_ret2
      exact HD.out _

set_option maxHeartbeats 1000000 in
theorem rsingle_ok {o : Roles} {w : World} {r : List Nat} {s : List UInt8} (i0 : Nat) (hi : i0 ≤ s.length) (hs : s.length ≤ 1099511627776) :
    Calls Try.prog 37 #[txt s, .int .i64 i0] w (PartDid singleL o w r s i0 []) := by
  have hsz : (⟨s.toArray⟩ : ByteArray).size = s.length := by simp [ByteArray.size]
  have H := Lib.hid (Row.nil o w r 5 1)
  have hb : (([] : List UInt8)).length ≤ i0 := Nat.zero_le _
  unfold txt
  go_enter Try.func37, Try.ntmps37
  go_wp2_with fail
  go_loopw [6, 1] (fun v i wr => PartRel singleL o w r s i0 [] v i wr) (fun _ i _ => s.length - (intOf i).toNat)
  case atStart => exact ⟨i0, [], o, hi, Nat.le_refl _, hb, rfl, H.out, Stp.refl _ _ _, .start _ _ _ _⟩
  case round =>
    obtain ⟨k, acc, o1, hk, hik, hak, rfl, hr, st, hL⟩ := hrel
    clear H
    by_cases hlt : k < s.length
    · obtain ⟨b, hbk⟩ : ∃ b, s[k]? = some b := ⟨_, List.getElem?_eq_getElem hlt⟩
      have hix := idx_ok hbk
      by_cases h39 : b = 39
      · have t1 : ((b.toNat : Int) == 39) = true := beqT 39 h39
        subst h39
        have D := fun N hN => PartDid.good hL (single_end hbk) hlt (by omega) (by omega) hr st N hN
        have HD := Lib.hid D
        clear D hL hr st hbk
        go_wp2_with fail
        go_ret2
        exact HD.out _ (by go_num)
      · have t1 : ((b.toNat : Int) == 39) = false := beqF 39 h39
        by_cases h92 : b = 92
        · have t2 : ((b.toNat : Int) == 92) = true := beqT 92 h92
          by_cases hl2 : k + 1 < s.length
          · obtain ⟨c, hck⟩ : ∃ c, s[k + 1]? = some c := ⟨_, List.getElem?_eq_getElem hl2⟩
            have hix2 : ∀ w, (Instr.index 9 (.string ⟨s.toArray⟩) (.int .i64 ((k : Int) + 1))).run Try.prog w = .ok (.int .u8 (c.toNat : Int)) w := idx_ok hck
            by_cases hc39 : c = 39
            · have t3 : ((c.toNat : Int) == 39) = true := beqT 39 hc39
              subst hc39; subst h92
              have hN := hL.step (single_esc hbk hck)
              have HN := Lib.hid hN
              have HS := Lib.hid st
              have HR := Lib.hid hr
              clear hN hL hr st hbk hck
              go_wp2_with (
                at_builtin
                refine wpList_push rfl _ _ rfl 39 rfl HR.out rfl (by omega) ?_
                intro v' w1 o' hrow hst
                have HW := Lib.hid hrow
                have HT := Lib.hid hst
                clear hrow hst HR)
              go_roundw
              case rel => exact ⟨k + 2, _, o', by omega, by omega, by simp; omega, by go_num, HW.out, HS.out.trans HT.out, HN.out⟩
              case measure => simp [intOf]; omega
            · have t3 : ((c.toNat : Int) == 39) = false := beqF 39 hc39
              subst h92
              have hN := hL.step (single_go hbk h39 (fun _ => by rw [hck]; simpa using hc39))
              have HN := Lib.hid hN
              have HS := Lib.hid st
              have HR := Lib.hid hr
              clear hN hL hr st hbk hck
              go_wp2_with (
                at_builtin
                refine wpList_push rfl _ _ rfl 92 rfl HR.out rfl (by omega) ?_
                intro v' w1 o' hrow hst
                have HW := Lib.hid hrow
                have HT := Lib.hid hst
                clear hrow hst HR)
              go_roundw
              case rel => exact ⟨k + 1, _, o', by omega, by omega, by simp; omega, by go_num, HW.out, HS.out.trans HT.out, HN.out⟩
              case measure => simp [intOf]; omega
          · have hge : s.length ≤ k + 1 := by omega
            subst h92
            have hN := hL.step (single_go hbk h39 (fun _ => by rw [List.getElem?_eq_none (by omega)]; simp))
            have HN := Lib.hid hN
            have HS := Lib.hid st
            have HR := Lib.hid hr
            clear hN hL hr st hbk
            go_wp2_with (
              at_builtin
              refine wpList_push rfl _ _ rfl 92 rfl HR.out rfl (by omega) ?_
              intro v' w1 o' hrow hst
              have HW := Lib.hid hrow
              have HT := Lib.hid hst
              clear hrow hst HR)
            go_roundw
            case rel => exact ⟨k + 1, _, o', by omega, by omega, by simp; omega, by go_num, HW.out, HS.out.trans HT.out, HN.out⟩
            case measure => simp [intOf]; omega
        · have t2 : ((b.toNat : Int) == 92) = false := beqF 92 h92
          have hN := hL.step (single_go hbk h39 (fun e => absurd e h92))
          have HN := Lib.hid hN
          have HS := Lib.hid st
          have HR := Lib.hid hr
          clear hN hL hr st hbk
          go_wp2_with (
            at_builtin
            refine wpList_push rfl _ _ rfl b rfl HR.out rfl (by omega) ?_
            intro v' w1 o' hrow hst
            have HW := Lib.hid hrow
            have HT := Lib.hid hst
            clear hrow hst HR)
          go_roundw
          case rel => exact ⟨k + 1, _, o', by omega, by omega, by simp; omega, by go_num, HW.out, HS.out.trans HT.out, HN.out⟩
          case measure => simp [intOf]; omega
    · have D := fun v => PartDid.fail hL (k := k) (by rw [List.drop_eq_nil_of_le (by omega)]; rfl) st v
      have HD := Lib.hid D
      clear D hL hr st
      go_wp2_with fail
      go_ret2
      exact HD.out _
end Go.Proofs.Ytgdgnpjgemcjgaa
