import Derived.Test.YthojmgjgmbnopaaGreatDoorAw
import Derived.Test.YthojmgjgmbnopaaGreatDoorNr
namespace Go.Proofs.YthojmgjgmbnopaaGreatDoor
open Go Go.RowKit
/-! The document's Add; a counter and the runs that change it. -/
set_option maxRecDepth 10000 in
theorem radd_ok (w : World) {a b : Int} (ha : -9223372036854775808 ≤ a ∧ a ≤ 9223372036854775807) (hb : -9223372036854775808 ≤ b ∧ b ≤ 9223372036854775807) : Calls Tryz.prog 22 #[.int .i64 a, .int .i64 b] w (SumDid w (a + b)) := by
  unfold SumDid
  by_cases hp : 0 < b
  · have e1 : IntKind.i64.wrap (9223372036854775807 - b) = 9223372036854775807 - b := by rw [IntKind.wrap_i64]; omega
    have hn : ¬ b < 0 := by omega
    by_cases ho : 9223372036854775807 - b < a
    · have er : inR (a + b) = false := by unfold inR; simp; omega
      rw [er]
      go_enter Tryz.func22, Tryz.ntmps22
      go_wp2_with fail
      go_ret2
      exact ⟨rfl, rfl⟩
    · have er : inR (a + b) = true := by unfold inR; simp; omega
      have e2 : IntKind.i64.wrap (a + b) = a + b := by rw [IntKind.wrap_i64]; omega
      rw [er]
      go_enter Tryz.func22, Tryz.ntmps22
      go_wp2_with fail
      go_ret2
      exact ⟨rfl, rfl⟩
  · by_cases hn : b < 0
    · have e1 : IntKind.i64.wrap (-9223372036854775808 - b) = -9223372036854775808 - b := by rw [IntKind.wrap_i64]; omega
      by_cases ho : a < -9223372036854775808 - b
      · have er : inR (a + b) = false := by unfold inR; simp; omega
        rw [er]
        go_enter Tryz.func22, Tryz.ntmps22
        go_wp2_with fail
        go_ret2
        exact ⟨rfl, rfl⟩
      · have er : inR (a + b) = true := by unfold inR; simp; omega
        have e2 : IntKind.i64.wrap (a + b) = a + b := by rw [IntKind.wrap_i64]; omega
        rw [er]
        go_enter Tryz.func22, Tryz.ntmps22
        go_wp2_with fail
        go_ret2
        exact ⟨rfl, rfl⟩
    · obtain rfl : b = 0 := by omega
      have er : inR (a + 0) = true := by unfold inR; simp; omega
      have e2 : IntKind.i64.wrap (a + 0) = a + 0 := by rw [IntKind.wrap_i64]; omega
      have e3 : IntKind.i64.wrap a = a := by rw [IntKind.wrap_i64]; omega
      rw [er]
      go_enter Tryz.func22, Tryz.ntmps22
      go_wp2_with fail
      go_ret2
      exact ⟨by simp, rfl⟩
abbrev nB : Tx := [110]
abbrev InR (n : Int) : Prop := -9223372036854775808 ≤ n ∧ n ≤ 9223372036854775807
theorem inR_true {n : Int} (h : inR n = true) : InR n := by unfold inR at h; simpa using h
def NumAt (S : SP) (n : Int) : Prop := ∃ j, S nB = some ⟨textV (Lib.itoa n), 9, j⟩
theorem NumAt.at {S : SP} {n : Int} (h : NumAt S n) : ∃ H, S.at 5 nB = some H ∧ H.v = textV (Lib.itoa n) ∧ H.due = 9 := by
  obtain ⟨j, h⟩ := h
  exact ⟨_, by rw [SP.at_over h, if_neg (by show ¬ ((9 : Int) != 0 && decide ((9 : Int) ≤ 5)) = true; decide)], rfl, rfl⟩
theorem NumAt.inc {S : SP} {n : Int} (h : NumAt S n) (c : Cnt) {s : Int} (hs : inR s = true) : NumAt (S.incS c 5 nB s) s := by
  obtain ⟨H, e, _, ed⟩ := h.at
  refine ⟨c.num + 1, ?_⟩
  unfold SP.incS
  rw [if_pos hs]
  unfold SP.keepT SP.put
  rw [if_pos rfl, e]
  simp only [Option.getD_some, ed]
theorem incS_near (c : Cnt) (s : Int) : c.near (c.incS s) := by
  unfold Cnt.incS Cnt.near
  split
  · unfold Cnt.next; exact ⟨by simp, by simp⟩
  · exact ⟨by omega, by omega⟩
section
variable {o : Roles} {w w0 : World} {p m : Nat} {c : Cnt} {S : SP}
abbrev byB (dec : Bool) : Tx := if dec then decrbyB else incrbyB
theorem run_by (H : At w0 o w p S c m) (hT : Tbl w0) {n x : Int} (hS : NumAt S n) (hn : InR n) (hx : InR x) (dec : Bool) (hd : dec = true → x ≠ -9223372036854775808) (hm : m ≤ 1000000000) {s : Int} (hs : s = n + (if dec then -x else x)) {K : SP → Prop} (hK : K (S.incS c 5 nB s)) :
    Calls Tryz.prog 23 #[.pointer (some ⟨p, 0, none⟩), .int .i64 5, .slice (some ⟨w.heap.size, 0, none⟩) 3 3] (w.alloc (.cells ([byB dec, nB, Lib.itoa x].map txt).toArray 9)) (RunT w0 (o.put w.heap.size [9]) (w.alloc (.cells ([byB dec, nB, Lib.itoa x].map txt).toArray 9)) p m (incF s).rp K) := by
  obtain ⟨HH, e, ev, ed⟩ := hS.at
  have hnum := H.num
  have hfew := H.few
  have hA := H.lit (.cells ([byB dec, nB, Lib.itoa x].map txt).toArray 9)
  refine at_trun (now := 5) (args := [nB, Lib.itoa x]) (nm := byB dec) (low := byB dec) (K := K) hA (by decide) (lit_apart o w [byB dec, nB, Lib.itoa x] (by simp)) (by cases dec <;> decide) (by cases dec <;> decide) (by simp) (by simp) (fits_three (by cases dec <;> simp [byB])) (F := 102) (by cases dec; exact goes_incrby; exact goes_decrby)
    (serves_incrby (by decide) (hT.below hA.since) dec (n := x) (parseN_itoa hx) (by have := itoa_len hx; omega) hd (V := textV (Lib.itoa n)) (by rw [e]; exact ev) (by rw [e]; rfl) rfl (parseN_itoa hn) (by omega) (by omega) hs ⟨hK, incS_near _ _⟩)
theorem run_by_in (H : At w0 o w p S c m) (hT : Tbl w0) {n x : Int} (hS : NumAt S n) (hn : InR n) (hx : InR x) (dec : Bool) (hd : dec = true → x ≠ -9223372036854775808) (hm : m ≤ 1000000000) {s : Int} (hs : s = n + (if dec then -x else x)) (hb : inR s = true) :
    Calls Tryz.prog 23 #[.pointer (some ⟨p, 0, none⟩), .int .i64 5, .slice (some ⟨w.heap.size, 0, none⟩) 3 3] (w.alloc (.cells ([byB dec, nB, Lib.itoa x].map txt).toArray 9)) (RunT w0 (o.put w.heap.size [9]) (w.alloc (.cells ([byB dec, nB, Lib.itoa x].map txt).toArray 9)) p m (Rf.rp ⟨3, [], s⟩) (fun S' => NumAt S' s)) := by
  have h := run_by H hT hS hn hx dec hd hm hs (K := fun S' => NumAt S' s) (hS.inc c hb)
  unfold incF at h
  rw [if_pos hb] at h
  exact h
theorem run_by_out (H : At w0 o w p S c m) (hT : Tbl w0) {n x : Int} (hS : NumAt S n) (hn : InR n) (hx : InR x) (hm : m ≤ 1000000000) (hb : inR (n + x) = false) :
    Calls Tryz.prog 23 #[.pointer (some ⟨p, 0, none⟩), .int .i64 5, .slice (some ⟨w.heap.size, 0, none⟩) 3 3] (w.alloc (.cells ([incrbyB, nB, Lib.itoa x].map txt).toArray 9)) (RunT w0 (o.put w.heap.size [9]) (w.alloc (.cells ([incrbyB, nB, Lib.itoa x].map txt).toArray 9)) p m (Rf.rp ⟨2, overErr, 0⟩) (fun S' => NumAt S' n)) := by
  have h := run_by H hT hS hn hx false (by simp) hm rfl (K := fun S' => NumAt S' n) (by unfold SP.incS; rw [if_neg (by simp [hb])]; exact hS)
  unfold incF at h
  rw [if_neg (by simp [hb])] at h
  exact h
end
end Go.Proofs.YthojmgjgmbnopaaGreatDoor
