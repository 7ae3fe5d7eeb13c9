import Derived.Test.YtgdgnpjgemcjgaaI
import Derived.Laws.Strings2
namespace Go.Proofs.Ytgdgnpjgemcjgaa
open Go Go.RowKit
/-- A part of a text. -/
theorem cut_run (s : List UInt8) (lo hi : Option Value) (i j : Nat) (hij : i ≤ j) (hj : j ≤ s.length) (hlo : lo = some (.int .i64 i) ∨ lo = none ∧ i = 0) (hhi : hi = some (.int .i64 j) ∨ hi = none ∧ j = s.length) (w : World) :
    (Instr.slice 9 (.string ⟨s.toArray⟩) lo hi none).run Try.prog w = .ok (.string ⟨((s.drop i).take (j - i)).toArray⟩) w := by
  have hsz : (⟨s.toArray⟩ : ByteArray).size = s.length := by simp [ByteArray.size]
  rw [← ByteArray.extract_mk]
  have hfull : (⟨s.toArray⟩ : ByteArray) = (⟨s.toArray⟩ : ByteArray).extract 0 s.length := by rw [ByteArray.extract_mk]; simp
  rcases hlo with rfl | ⟨rfl, rfl⟩ <;> rcases hhi with rfl | ⟨rfl, rfl⟩ <;>
    simp [Instr.slice, run_underlying Try.underlying9, Instr.sliceBounds, Instr.sliceBound, asIntOf, hsz] <;>
    first
    | rw [if_pos (by omega), if_pos (by omega)]
    | exact hfull
    | (intro h; omega)
def stopV (word : List UInt8) : Value := .iface 82 (.agg #[.string ⟨word.toArray⟩])
abbrev stops (word : List UInt8) : Ending := .panicked [{ v := stopV word, recovered := false }]
theorem need_ok (b : Nat) (s : List UInt8) (w : World) (hc : w.cell? ⟨b, 0, none⟩ = some (.string ⟨s.toArray⟩)) (I : Int) (hI : I < s.length) :
    Calls Try.prog 56 #[.pointer (some ⟨b, 0, none⟩), .int .i64 I] w fun e w' => e = .returned (.tuple #[]) ∧ w' = w := by
  have hsz : (⟨s.toArray⟩ : ByteArray).size = s.length := by simp [ByteArray.size]
  have hd : decide ((s.length : Int) ≤ I) = false := by simpa using hI
  go_enter Try.func56, Try.ntmps56
  go_wp2
  go_end0
  exact ⟨rfl, rfl⟩
theorem need_no (b : Nat) (s : List UInt8) (w : World) (hc : w.cell? ⟨b, 0, none⟩ = some (.string ⟨s.toArray⟩)) (I : Int) (hI : s.length ≤ I) :
    Calls Try.prog 56 #[.pointer (some ⟨b, 0, none⟩), .int .i64 I] w fun e w' => e = stops [] ∧ w' = w := by
  have hsz : (⟨s.toArray⟩ : ByteArray).size = s.length := by simp [ByteArray.size]
  have hd : decide ((s.length : Int) ≤ I) = true := by simpa using hI
  go_enter Try.func56, Try.ntmps56
  go_wp2
  exact ⟨rfl, rfl, rfl⟩

/-! ### A line, plain -/
def LR.pre (x : List UInt8) : LR → LR
  | .ok t r => .ok (x ++ t) r
  | e => e
theorem LR.pre_pre (x y : List UInt8) (l : LR) : (l.pre y).pre x = l.pre (x ++ y) := by cases l <;> simp [LR.pre]
theorem LR.cons_pre (b : UInt8) (l : LR) : l.cons b = l.pre [b] := by cases l <;> rfl
theorem LR.pre_nil (l : LR) : l.pre [] = l := by cases l <;> rfl
/-- The loop over a line stands at i. -/
def LineI (L : Nat) (s : List UInt8) (at_ i : Nat) : Prop := at_ ≤ i ∧ i ≤ s.length ∧ i - at_ ≤ L ∧ lineR L (s.drop at_) = (lineR (L - (i - at_)) (s.drop i)).pre ((s.drop at_).take (i - at_))
theorem LineI.start (L : Nat) (s : List UInt8) (i : Nat) (hi : i ≤ s.length) : LineI L s i i := ⟨Nat.le_refl _, hi, by omega, by simp [LR.pre_nil]⟩
theorem take_more {s : List UInt8} {a i : Nat} {b : UInt8} (h : s[i]? = some b) (ha : a ≤ i) : (s.drop a).take (i + 1 - a) = (s.drop a).take (i - a) ++ [b] := by
  rw [show i + 1 - a = i - a + 1 by omega, List.take_add_one, List.getElem?_drop, show a + (i - a) = i by omega, h]; rfl
theorem LineI.go {L : Nat} {s : List UInt8} {a i : Nat} {b : UInt8} (h : LineI L s a i) (hb : s[i]? = some b) (hn : b ≠ 10) (hL : i - a ≠ L) : LineI L s a (i + 1) := by
  obtain ⟨h1, h2, h3, h4⟩ := h
  have hi : i < s.length := (List.getElem?_eq_some_iff.1 hb).1
  refine ⟨by omega, hi, by omega, ?_⟩
  rw [h4, drop_at hb, take_more hb h1]
  obtain ⟨k, hk⟩ : ∃ k, L - (i - a) = k + 1 := ⟨L - (i - a) - 1, by omega⟩
  rw [hk, lineR, if_neg hn]
  rw [LR.cons_pre, LR.pre_pre, show L - (i + 1 - a) = k by omega]
theorem LineI.more {L : Nat} {s : List UInt8} {a i : Nat} (h : LineI L s a i) (hi : s.length ≤ i) : lineR L (s.drop a) = .more := by
  rw [h.2.2.2, List.drop_eq_nil_of_le hi]
  cases L - (i - a) <;> rfl
theorem LineI.bad {L : Nat} {s : List UInt8} {a i : Nat} {b : UInt8} (h : LineI L s a i) (hb : s[i]? = some b) (hn : b ≠ 10) (hL : i - a = L) : lineR L (s.drop a) = .bad := by
  rw [h.2.2.2, drop_at hb, show L - (i - a) = 0 by omega, lineR, if_neg hn]; rfl
theorem LineI.done {L : Nat} {s : List UInt8} {a i : Nat} (h : LineI L s a i) (hb : s[i]? = some 10) : lineR L (s.drop a) = .ok ((s.drop a).take (i - a)) (s.drop (i + 1)) := by
  rw [h.2.2.2, drop_at hb]
  cases hk : L - (i - a) <;> simp [lineR, LR.pre]

/-! ### TrimSuffix at a 13 -/
theorem last_at (t : List UInt8) (h : t ≠ []) : ∃ i : Nat, ∃ b, t.length = i + 1 ∧ t.getLast? = some b ∧ t.drop i = [b] ∧ t.dropLast = t.take i := by
  refine ⟨t.length - 1, t.getLast h, ?_, List.getLast?_eq_some_getLast h, ?_, ?_⟩
  · have := List.length_pos_iff.2 h; omega
  · have hl := List.length_pos_iff.2 h
    rw [List.drop_eq_getElem_cons (by omega), List.drop_eq_nil_of_le (by omega), List.getLast_eq_getElem]
  · rw [List.dropLast_eq_take]
theorem trimS_ok (t : List UInt8) (ht : t.length ≤ 1099511627776) (w : World) :
    Calls Try.prog 60 #[.string ⟨t.toArray⟩, .string ⟨#[13]⟩] w fun e w' => e = .returned (.string ⟨(trim13 t).toArray⟩) ∧ w' = w := by
  have hsz : (⟨t.toArray⟩ : ByteArray).size = t.length := by simp [ByteArray.size]
  have hsz2 : (⟨#[13]⟩ : ByteArray).size = 1 := rfl
  have hc := cut_run t
  by_cases h : t = []
  · subst h
    go_enter Try.func60, Try.ntmps60
    go_wp2
    go_ret
    exact ⟨rfl, rfl⟩
  · obtain ⟨i, b, h1, h2, h3, h4⟩ := last_at t h
    have hlen : 1 ≤ t.length := by omega
    have hc1 := hc (some (.int .i64 ((t.length : Int) - 1))) none i t.length (by omega) (Nat.le_refl _) (.inl (by rw [h1]; simp)) (.inr ⟨rfl, rfl⟩)
    have hc2 := hc none (some (.int .i64 ((t.length : Int) - 1))) 0 i (by omega) (by omega) (.inr ⟨rfl, rfl⟩) (.inl (by rw [h1]; simp))
    rw [h3, show t.length - i = 1 by omega, show (List.take 1 [b]) = [b] from rfl] at hc1
    rw [List.drop_zero, Nat.sub_zero, ← h4] at hc2
    unfold trim13
    rw [h2]
    by_cases hb : b = 13
    · subst hb
      rw [if_pos rfl]
      clear hc h h1 h2 h3 h4
      go_enter Try.func60, Try.ntmps60
      go_wp2
      go_ret
      exact ⟨rfl, rfl⟩
    · rw [if_neg (by simpa using hb)]
      have hbb : (b == 13) = false := by simpa using hb
      clear hc h h1 h2 h3 h4
      go_enter Try.func60, Try.ntmps60
      go_wp2
      go_ret
      exact ⟨rfl, rfl⟩
end Go.Proofs.Ytgdgnpjgemcjgaa
