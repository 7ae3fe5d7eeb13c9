import Derived.Test.YtlgboamedjoidaaImpl
namespace Go.Proofs.Ytlgboamedjoidaa
open Go Go.RowKit
/-! ### The queue -/
theorem ret_int {k : IntKind} {a b : Int} (h : a = b) : Ending.returned (.int k a) = .returned (.int k b) := by rw [h]
theorem ret_str {a b : List UInt8} (h : a = b) : Ending.returned (.string ⟨a.toArray⟩) = .returned (.string ⟨b.toArray⟩) := by rw [h]
set_option maxHeartbeats 400000 in
theorem left_ok (b off : Nat) (w : World) (v : Value) (a : Option Addr) (n cap : Nat) (g d : Nat) (h1 : w.cell? ⟨b, off, none⟩ = some v) (hv : v = .slice a n cap) (h2 : w.cell? ⟨b, off + 1, none⟩ = some (.int .i64 g)) (hn : n ≤ 1099511627776) (hg : g + d = n) :
    Calls Try.prog 42 #[.pointer (some ⟨b, off, none⟩)] w fun e w' => e = .returned (.int .i64 d) ∧ ∃ k, w' = w.drewN k := by
  subst hv
  have hg' : g + d ≤ n ∧ n ≤ g + d := by omega
  clear hg
  go_enter Try.func42, Try.ntmps42
  go_wp2
  go_quiet (fail)
  go_wp2
  go_ret
  exact ⟨ret_int (by omega), nq, rfl⟩

theorem fold_push (l : List UInt8) : ∀ s : ByteArray, (l.map fun b : UInt8 => (b.toNat : Int)).foldl (fun r n => r.push (UInt8.ofNat n.toNat)) s = ⟨s.data ++ l.toArray⟩ := by
  induction l with
  | nil => intro s; simp
  | cons b l ih =>
    intro s
    rw [List.map_cons, List.foldl_cons, ih]
    have e : UInt8.ofNat ((b.toNat : Int)).toNat = b := by simp
    rw [e]
    congr 1
    apply Array.ext'
    simp [ByteArray.push]
theorem run_bytes_text (w : World) (a : Addr) (cap : Nat) (l : List UInt8) (h : ∀ j v, (l.map bv)[j]? = some v → w.cell? (a.add j) = some v) (n : Nat) (hn : n = l.length) :
    (convert 57 9 (.slice (some a) n cap)).run Try.prog w = .ok (.string ⟨l.toArray⟩) w := by
  subst hn
  rw [run_convert_bytes_string w 57 9 5 _ _ _ Try.underlying57 Try.underlying5 Try.underlying9]
  have hl := run_loadCells_list (P := Try.prog) w a (l.map bv) h
  rw [List.length_map] at hl
  have e : l.map bv = (l.map fun b : UInt8 => (b.toNat : Int)).map (Value.int .u8) := by rw [List.map_map]; rfl
  rw [run_bytesToString w a l.length cap (l.map fun b : UInt8 => (b.toNat : Int)) (by rw [← e]; exact hl), fold_push]
  simp

theorem info5 : (Try.prog.info? 5).map (fun i => (i.zero, i.size, i.bytes)) = some (some (.int .u8 0), 1, 1) := by kernel_rfl
/-- A piece of a row of bytes, and its text. -/
theorem row_cut {o : Roles} {w : World} {r : List Nat} {v : Value} {l : List UInt8} (h : Row o w r 5 1 v l.length (l.map bv)) (i j : Nat) (hij : i ≤ j) (hj : j ≤ l.length) (I J : Int) (hI : I = i) (hJ : J = j) :
    ∃ sv, (∀ n, (Instr.slice 57 v (some (.int .i64 I)) (some (.int .i64 J)) none).run Try.prog (w.drewN n) = .ok sv (w.drewN n)) ∧
      ∀ n, (convert 57 9 sv).run Try.prog (w.drewN n) = .ok (.string ⟨((l.drop i).take (j - i)).toArray⟩) (w.drewN n) := by
  subst hI; subst hJ
  obtain ⟨i0, hi0, hz0, hz1, hz2⟩ := info_parts info5
  rcases h.form with ⟨rfl, h2, _⟩ | ⟨g, cap, cur, rfl, hb, h3, h4, h5, h6⟩
  · obtain rfl : j = 0 := by omega
    obtain rfl : i = 0 := by omega
    refine ⟨.slice none 0 0, fun n => ?_, fun n => ?_⟩
    · simp [Instr.slice, run_underlying Try.underlying57, Instr.sliceBounds, Instr.sliceBound, asIntOf, sizeOf, typeInfo, hi0]
    · rw [run_convert_bytes_string _ 57 9 5 _ _ _ Try.underlying57 Try.underlying5 Try.underlying9]
      simp [Conv.bytesToString]
      rfl
  · refine ⟨.slice (if cap = i then some ⟨g, 0, none⟩ else some ((⟨g, 0, none⟩ : Addr).add i)) (j - i) (cap - i), fun n => ?_, fun n => ?_⟩
    · simp [Instr.slice, run_underlying Try.underlying57, Instr.sliceBounds, Instr.sliceBound, asIntOf, sizeOf, typeInfo, hi0, hz1]
      rw [if_pos (by omega), if_pos hij]
    · have hlen : ((l.drop i).take (j - i)).length = j - i := by simp; omega
      have hcell : ∀ q u, (((l.drop i).take (j - i)).map bv)[q]? = some u → (w.drewN n).cell? ⟨g, i + q, none⟩ = some u := by
        intro q u hq
        rw [World.cell?_drewN, hb.cell]
        have hq' : q < j - i := by
          have := (List.getElem?_eq_some_iff.1 hq).1
          rw [List.length_map, hlen] at this; exact this
        have e := congrArg (fun x => x[i + q]?) h6
        simp only [List.getElem?_take] at e
        rw [if_pos (by omega)] at e
        rw [← Array.getElem?_toList, e, ← hq]
        simp only [List.getElem?_map, List.getElem?_take, if_pos hq', List.getElem?_drop]
      by_cases hci : cap = i
      · have : j - i = 0 := by omega
        rw [if_pos hci]
        refine run_bytes_text _ _ _ _ (fun q u hq => ?_) _ hlen.symm
        have := (List.getElem?_eq_some_iff.1 hq).1
        rw [List.length_map, hlen] at this; omega
      · rw [if_neg hci]
        refine run_bytes_text _ _ _ _ (fun q u hq => ?_) _ hlen.symm
        have e : ((⟨g, 0, none⟩ : Addr).add i).add q = ⟨g, i + q, none⟩ := by
          unfold Addr.add; split <;> split <;> simp_all
        rw [e]; exact hcell q u hq

set_option maxHeartbeats 400000 in
theorem take_ok {o : Roles} {w : World} {r : List Nat} (b off : Nat) {v : Value} {l : List UInt8} {g : Nat} (h : Row o w r 5 1 v l.length (l.map bv)) (h1 : w.cell? ⟨b, off, none⟩ = some v) (h2 : w.cell? ⟨b, off + 1, none⟩ = some (.int .i64 g)) (hn : l.length ≤ 1099511627776) (hg : g ≤ l.length) 
    (hfr : w.frozen? ⟨b, off + 1, none⟩ = false) (m : Int) (k : Nat) (hk : (k : Int) = min (max m 0) (l.length - g)) (mw : -9223372036854775808 ≤ m ∧ m ≤ 9223372036854775807) :
    Calls Try.prog 48 #[.pointer (some ⟨b, off, none⟩), .int .i64 m] w fun e w' => e = .returned (.string ⟨((l.drop g).take k).toArray⟩) ∧ ∃ q, w' = (w.setCell ⟨b, off + 1, none⟩ (.int .i64 ((g + k : Nat) : Int))).drewN q := by
  obtain ⟨a, cap, hv, _⟩ := h.slice
  obtain ⟨d, hd⟩ : ∃ d, g + d = l.length := ⟨l.length - g, by omega⟩
  have H := left_ok b off w v a _ cap g d h1 hv h2 hn hd
  have hkd : k ≤ d := by omega
  have hd' : g + d ≤ 1099511627776 := by omega
  have hcases : (m < 0 ∧ k = 0) ∨ (m = 0 ∧ k = 0) ∨ (0 < m ∧ m = k) ∨ ((d : Int) < m ∧ k = d) := by omega
  obtain ⟨sv, hs, hc⟩ := row_cut h g (g + k) (by omega) (by omega) (g : Int) (g + k : Int) rfl (by simp)
  rw [show g + k - g = k by omega] at hc
  generalize ((l.drop g).take k) = T at *
  clear h hv hk hd hn hg
  have hw0 : IntKind.i64.wrap (g : Int) = g := IntWalk.i64_in _ (by omega)
  have hw1 : IntKind.i64.wrap ((g : Int) + k) = g + k := IntWalk.i64_in _ (by omega)
  have hw0' := Lib.hid hw0; clear hw0
  have hw1' := Lib.hid hw1; clear hw1
  rcases hcases with ⟨hm, rfl⟩ | ⟨rfl, rfl⟩ | ⟨hm, rfl⟩ | ⟨hm, rfl⟩
  · simp at hs
    go_enter Try.func48, Try.ntmps48
    go_wp2_with (go_at_call 42; refine H.mono ?_; rintro e w' ⟨rfl, q, rfl⟩)
    have hw := hw0'.out
    go_quiet (fail)
    clear hw
    go_wp2
    go_ret
    exact ⟨rfl, _, rfl⟩
  · simp at hs
    go_enter Try.func48, Try.ntmps48
    go_wp2_with (go_at_call 42; refine H.mono ?_; rintro e w' ⟨rfl, q, rfl⟩)
    have hw := hw0'.out
    go_quiet (fail)
    clear hw
    go_wp2
    go_ret
    exact ⟨rfl, _, rfl⟩
  · go_enter Try.func48, Try.ntmps48
    go_wp2_with (go_at_call 42; refine H.mono ?_; rintro e w' ⟨rfl, q, rfl⟩)
    have hw := hw1'.out
    go_quiet (fail)
    clear hw
    go_wp2
    go_ret
    exact ⟨rfl, _, rfl⟩
  · go_enter Try.func48, Try.ntmps48
    go_wp2_with (go_at_call 42; refine H.mono ?_; rintro e w' ⟨rfl, q, rfl⟩)
    have hw := hw1'.out
    go_quiet (fail)
    clear hw
    go_wp2
    go_ret
    exact ⟨rfl, _, rfl⟩

theorem row_pre {o : Roles} {w : World} {r : List Nat} {v : Value} {l : List UInt8} (h : Row o w r 5 1 v l.length (l.map bv)) (j : Nat) (hj : j ≤ l.length) (J : Int) (hJ : J = j) :
    ∃ sv, (∀ n, (Instr.slice 57 v none (some (.int .i64 J)) none).run Try.prog (w.drewN n) = .ok sv (w.drewN n)) ∧
      ∀ n, (convert 57 9 sv).run Try.prog (w.drewN n) = .ok (.string ⟨(l.take j).toArray⟩) (w.drewN n) := by
  obtain ⟨sv, h1, h2⟩ := row_cut h 0 j (Nat.zero_le _) hj 0 J rfl hJ
  refine ⟨sv, fun n => ?_, by simpa using h2⟩
  rw [← h1 n]
  simp [Instr.slice, Instr.sliceBounds, Instr.sliceBound, asIntOf]
theorem row_text {o : Roles} {w : World} {r : List Nat} {v : Value} {l : List UInt8} (h : Row o w r 5 1 v l.length (l.map bv)) (n : Nat) :
    (convert 57 9 v).run Try.prog (w.drewN n) = .ok (.string ⟨l.toArray⟩) (w.drewN n) := by
  rcases h.form with ⟨rfl, h2, _⟩ | ⟨g, cap, cur, rfl, hb, h3, h4, h5, h6⟩
  · obtain rfl := List.eq_nil_of_length_eq_zero h2
    rw [run_convert_bytes_string _ 57 9 5 _ _ _ Try.underlying57 Try.underlying5 Try.underlying9]
    simp [Conv.bytesToString]
    rfl
  · refine run_bytes_text _ _ _ _ (fun q u hq => ?_) _ rfl
    have e : (⟨g, 0, none⟩ : Addr).add q = ⟨g, q, none⟩ := by unfold Addr.add; split <;> simp_all
    rw [e, World.cell?_drewN, hb.cell, ← Array.getElem?_toList, ← hq, ← h6, List.getElem?_take, if_pos (by have := (List.getElem?_eq_some_iff.1 hq).1; simpa using this)]

set_option maxHeartbeats 400000 in
theorem past_ok {o : Roles} {w : World} {r : List Nat} (b off : Nat) {v : Value} {l : List UInt8} {g : Nat} (h : Row o w r 5 1 v l.length (l.map bv)) (h1 : w.cell? ⟨b, off, none⟩ = some v) (h2 : w.cell? ⟨b, off + 1, none⟩ = some (.int .i64 g)) (hg : g ≤ l.length) :
    Calls Try.prog 43 #[.pointer (some ⟨b, off, none⟩)] w fun e w' => e = .returned (.string ⟨(l.take g).toArray⟩) ∧ ∃ q, w' = w.drewN q := by
  obtain ⟨sv, hs, hc⟩ := row_pre h g hg (g : Int) rfl
  generalize l.take g = T at *
  clear h hg
  go_enter Try.func43, Try.ntmps43
  go_wp2
  go_quiet (fail)
  go_wp2
  go_ret
  exact ⟨rfl, _, rfl⟩

set_option maxHeartbeats 400000 in
theorem room_ok (b off : Nat) (w : World) (v : Value) (a : Option Addr) (n cap : Nat) (g win : Nat) (h1 : w.cell? ⟨b, off, none⟩ = some v) (hv : v = .slice a n cap) (h2 : w.cell? ⟨b, off + 1, none⟩ = some (.int .i64 g)) (h3 : w.cell? ⟨b, off + 2, none⟩ = some (.int .i64 win)) (hn : n ≤ 1099511627776) (hg : g ≤ n) (hw : win ≤ 1048576) :
    Calls Try.prog 45 #[.pointer (some ⟨b, off, none⟩)] w fun e w' => e = .returned (.int .i64 (win - (n - g : Nat))) ∧ ∃ k, w' = w.drewN k := by
  obtain ⟨d, hd⟩ : ∃ d, g + d = n := ⟨n - g, by omega⟩
  have H := fun q => left_ok b off (w.drewN q) v a n cap g d h1 hv h2 hn hd
  have hdn : d ≤ 1099511627776 := by omega
  have hw1 : IntKind.i64.wrap ((win : Int) - d) = win - d := IntWalk.i64_in _ (by omega)
  rw [show n - g = d by omega]
  clear h1 hv h2 hn hd hg hdn
  go_enter Try.func45, Try.ntmps45
  go_wp2
  go_quiet ((go_at_call 42; exact Calls.quiet_of (H _)))
  go_wp2
  go_ret
  exact ⟨rfl, _, rfl⟩

theorem byteCells_map (l : List UInt8) : byteCells ⟨l.toArray⟩ = l.map bv := by simp [byteCells, bv]

set_option maxHeartbeats 400000 in
/-- put: bytes come behind. -/
theorem put_ok {o : Roles} {w : World} {r : List Nat} (b off : Nat) {v : Value} {l s : List UInt8} (h : Row o w r 5 1 v l.length (l.map bv)) (h1 : w.cell? ⟨b, off, none⟩ = some v) (hfr : w.frozen? ⟨b, off, none⟩ = false) (hr : ¬ r <+: o b) (hn : l.length + s.length ≤ 1099511627776) :
    Calls Try.prog 47 #[.pointer (some ⟨b, off, none⟩), .string ⟨s.toArray⟩] w fun e w' => e = .returned (.tuple #[]) ∧ ∃ v' w1 o', w' = w1.setCell ⟨b, off, none⟩ v' ∧ Stp r o w o' w1 ∧ Row o' w1 r 5 1 v' (l ++ s).length ((l ++ s).map bv) := by
  obtain ⟨i0, hi0, hz0, hz1, hz2⟩ := info_parts info5
  have hlt : b < w.heap.size := World.block_lt_of_cell? w _ h1
  have hsrc : Src Try.prog 1 9 (.string ⟨s.toArray⟩) s.length (s.map bv) w := by
    have := Src.ofString (P := Try.prog) w (tx := 9) Try.underlying9 ⟨s.toArray⟩
    rw [byteCells_map] at this
    exact this
  go_enter Try.func47, Try.ntmps47
  go_wp2_with (
    at_builtin
    refine wpList_app w rfl (.tmp 8) (.tmp 9) 57 9 rfl 5 i0 (.int .u8 0) 1 1 Try.underlying57 hi0 hz0 hz1 hz2 rfl rfl h rfl hsrc (by unfold maxLen; omega) (by omega) ?_
    intro v' w1 o' hrow hst
    have hb1 := hst.block b hlt hr
    have hc1 : w1.cell? ⟨b, off, none⟩ = some v := by rw [World.cell?_of_block (w := w) hb1]; exact h1
    have hf1 : w1.frozen? ⟨b, off, none⟩ = false := by rw [World.frozen?_of_block (w := w) hb1]; exact hfr
    obtain ⟨a', cap', hv', _⟩ := hrow.slice
    subst hv'
    have Hst := Lib.hid hst
    have Hrow := Lib.hid hrow
    clear hb1 hsrc h1 hfr hst hrow)
  go_end0
  exact ⟨rfl, _, _, _, rfl, Hst.out, by rw [List.map_append, List.length_append]; exact Hrow.out⟩
end Go.Proofs.Ytlgboamedjoidaa
