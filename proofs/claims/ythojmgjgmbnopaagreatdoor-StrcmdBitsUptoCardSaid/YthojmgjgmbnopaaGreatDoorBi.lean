import Derived.Test.YthojmgjgmbnopaaGreatDoorBd
import Derived.Test.YthojmgjgmbnopaaGreatDoorAw
namespace Go.Proofs.YthojmgjgmbnopaaGreatDoor
open Go Go.RowKit
/-! The runs of SETBIT, GETBIT, BITCOUNT, BITPOS in a law. -/
abbrev bB : Tx := [98]
abbrev setbitB : Tx := [115, 101, 116, 98, 105, 116]
abbrev getbitB : Tx := [103, 101, 116, 98, 105, 116]
abbrev bitcountB : Tx := [98, 105, 116, 99, 111, 117, 110, 116]
abbrev bitposB : Tx := [98, 105, 116, 112, 111, 115]
def BitsAt (S : SP) (T : Tx) : Prop := (S bB = none ∧ T = []) ∨ ∃ n, S bB = some ⟨textV T, 0, n⟩
theorem BitsAt.at {S : SP} {T : Tx} (h : BitsAt S T) : ∃ V ok, ((S.at 0 bB).getD hd0).v = V ∧ (S.at 0 bB).isSome = ok ∧ (ok && V.kind != 1) = false ∧ V.text = T ∧ ((S.at 0 bB).getD hd0).due = 0 := by
  rcases h with ⟨h, rfl⟩ | ⟨n, h⟩
  · refine ⟨_, _, rfl, rfl, ?_, ?_, ?_⟩ <;> rw [SP.at_none h] <;> rfl
  · refine ⟨_, _, rfl, rfl, ?_, ?_, ?_⟩ <;> rw [SP.at_over h, if_neg (by show ¬ ((0 : Int) != 0 && decide ((0 : Int) ≤ 0)) = true; decide)] <;> rfl
theorem BitsAt.keep {S : SP} {T : Tx} (h : BitsAt S T) (T' : Tx) (n : Nat) : BitsAt (S.keepT 0 bB T' n) T' := by
  obtain ⟨V, ok, _, _, _, _, e⟩ := h.at
  exact .inr ⟨n, by unfold SP.keepT SP.put; rw [if_pos rfl, e]⟩
theorem goes_setbit : Goes setbitB 113 := by unfold Goes; kernel_rfl
theorem goes_getbit : Goes getbitB 104 := by unfold Goes; kernel_rfl
theorem goes_bitcount : Goes bitcountB 99 := by unfold Goes; kernel_rfl
theorem goes_bitpos : Goes bitposB 101 := by unfold Goes; kernel_rfl
section
variable {o : Roles} {w w0 : World} {p m : Nat} {c : Cnt} {S : SP} {T : Tx}
theorem next_near (c : Cnt) : c.near c.next := by unfold Cnt.near Cnt.next; exact ⟨by simp, by simp⟩
theorem run_setbit (H : At w0 o w p S c m) (hT : Tbl w0) (hS : BitsAt S T) (hl : T.length ≤ 1048576) {j : Nat} (hj : j < 8388608) (hm : m ≤ 1000000000) :
    Calls Tryz.prog 23 #[.pointer (some ⟨p, 0, none⟩), .int .i64 0, .slice (some ⟨w.heap.size, 0, none⟩) 4 4] (w.alloc (.cells ([setbitB, bB, Lib.itoa j, [49]].map txt).toArray 9)) (RunT w0 (o.put w.heap.size [9]) (w.alloc (.cells ([setbitB, bB, Lib.itoa j, [49]].map txt).toArray 9)) p m (Rf.rp ⟨3, [], (bitT T j : Int)⟩) (fun S' => BitsAt S' (setT T j))) := by
  obtain ⟨V, ok, e1, e2, e3, e4, _⟩ := hS.at
  subst e4
  have hnum := H.num
  have hfew := H.few
  have hA := H.lit (.cells ([setbitB, bB, Lib.itoa j, [49]].map txt).toArray 9)
  have hjr : -9223372036854775808 ≤ (j : Int) ∧ (j : Int) ≤ 9223372036854775807 := by omega
  exact at_trun (now := 0) (args := [bB, Lib.itoa j, [49]]) (nm := setbitB) (low := setbitB) (K := fun S' => BitsAt S' (setT V.text j)) hA (by decide) (lit_apart o w [setbitB, bB, Lib.itoa j, [49]] (by simp)) (by decide) (by decide) (by simp) (by simp) ⟨⟨setbitB, 4, true, false, 1, 1, 1⟩, by kernel_rfl, .inl ⟨by decide, rfl⟩, by decide⟩ goes_setbit
    (fun _ _ _ _ _ h2 hm1 hB hcb hv => (tsetbit_ok h2 (by decide) hm1 ((hT.below hA.since).below hB) hcb hv e1 e2 e3 hj (parseN_itoa hjr) (by have := itoa_len hjr; omega) hl (by omega) (by omega)).mono fun _ _ h => h.repL ⟨hS.keep _ _, next_near _⟩)
theorem run_setbit_out (H : At w0 o w p S c m) (hT : Tbl w0) (hS : BitsAt S T) {j : Int} (hr : -9223372036854775808 ≤ j ∧ j ≤ 9223372036854775807) (hj : j < 0 ∨ 8388608 ≤ j) :
    Calls Tryz.prog 23 #[.pointer (some ⟨p, 0, none⟩), .int .i64 0, .slice (some ⟨w.heap.size, 0, none⟩) 4 4] (w.alloc (.cells ([setbitB, bB, Lib.itoa j, [49]].map txt).toArray 9)) (RunT w0 (o.put w.heap.size [9]) (w.alloc (.cells ([setbitB, bB, Lib.itoa j, [49]].map txt).toArray 9)) p m (Rf.rp ⟨2, offErr, 0⟩) (fun S' => BitsAt S' T)) := by
  have hA := H.lit (.cells ([setbitB, bB, Lib.itoa j, [49]].map txt).toArray 9)
  exact at_trun (now := 0) (args := [bB, Lib.itoa j, [49]]) (nm := setbitB) (low := setbitB) (K := fun S' => BitsAt S' T) hA (by decide) (lit_apart o w [setbitB, bB, Lib.itoa j, [49]] (by simp)) (by decide) (by decide) (by simp) (by simp) ⟨⟨setbitB, 4, true, false, 1, 1, 1⟩, by kernel_rfl, .inl ⟨by decide, rfl⟩, by decide⟩ goes_setbit
    (fun _ _ _ _ _ h2 hm1 hB hcb hv => (tsetbit_out h2 (by decide) ((hT.below hA.since).below hB) hcb (hv.imp fun _ hb => hb.1) hj (parseN_itoa hr) (by have := itoa_len hr; omega)).mono fun _ _ h => h.repL ⟨hS, Cnt.near_refl _⟩)
theorem run_getbit (H : At w0 o w p S c m) (hT : Tbl w0) (hS : BitsAt S T) {j : Nat} (hj : j < 8388608) :
    Calls Tryz.prog 23 #[.pointer (some ⟨p, 0, none⟩), .int .i64 0, .slice (some ⟨w.heap.size, 0, none⟩) 3 3] (w.alloc (.cells ([getbitB, bB, Lib.itoa j].map txt).toArray 9)) (RunT w0 (o.put w.heap.size [9]) (w.alloc (.cells ([getbitB, bB, Lib.itoa j].map txt).toArray 9)) p m (Rf.rp ⟨3, [], (bitT T j : Int)⟩) (fun S' => BitsAt S' T)) := by
  obtain ⟨V, ok, e1, e2, e3, e4, _⟩ := hS.at
  subst e4
  have hA := H.lit (.cells ([getbitB, bB, Lib.itoa j].map txt).toArray 9)
  have hjr : -9223372036854775808 ≤ (j : Int) ∧ (j : Int) ≤ 9223372036854775807 := by omega
  exact at_trun (now := 0) (args := [bB, Lib.itoa j]) (nm := getbitB) (low := getbitB) (K := fun S' => BitsAt S' V.text) hA (by decide) (lit_apart o w [getbitB, bB, Lib.itoa j] (by simp)) (by decide) (by decide) (by simp) (by simp) ⟨⟨getbitB, 3, false, false, 1, 1, 1⟩, by kernel_rfl, .inl ⟨by decide, rfl⟩, by decide⟩ goes_getbit
    (fun _ _ _ _ _ h2 hm1 hB hcb hv => (tgetbit_ok h2 (by decide) ((hT.below hA.since).below hB) hcb (hv.imp fun _ hb => hb.1) e1 e2 e3 hj (parseN_itoa hjr) (by have := itoa_len hjr; omega)).mono fun _ _ h => h.repL ⟨hS, Cnt.near_refl _⟩)
theorem run_bitcount (H : At w0 o w p S c m) (hS : BitsAt S T) (hl : T.length ≤ 1048576) :
    Calls Tryz.prog 23 #[.pointer (some ⟨p, 0, none⟩), .int .i64 0, .slice (some ⟨w.heap.size, 0, none⟩) 2 2] (w.alloc (.cells ([bitcountB, bB].map txt).toArray 9)) (RunT w0 (o.put w.heap.size [9]) (w.alloc (.cells ([bitcountB, bB].map txt).toArray 9)) p m (Rf.rp ⟨3, [], (countT T : Int)⟩) (fun S' => BitsAt S' T)) := by
  obtain ⟨V, ok, e1, e2, e3, e4, _⟩ := hS.at
  subst e4
  have hA := H.lit (.cells ([bitcountB, bB].map txt).toArray 9)
  exact at_trun (now := 0) (args := [bB]) (nm := bitcountB) (low := bitcountB) (K := fun S' => BitsAt S' V.text) hA (by decide) (lit_apart o w [bitcountB, bB] (by simp)) (by decide) (by decide) (by simp) (by simp) ⟨⟨bitcountB, -2, false, false, 1, 1, 1⟩, by kernel_rfl, .inr ⟨by decide, by decide⟩, by decide⟩ goes_bitcount
    (fun _ _ _ _ _ h2 hm1 hB hcb hv => (tbitcount_ok h2 (by decide) hcb (hv.imp fun _ hb => hb.1) e1 e2 e3 hl).mono fun _ _ h => h.repL ⟨hS, Cnt.near_refl _⟩)
theorem run_bitpos (H : At w0 o w p S c m) (hS : BitsAt S T) (hl : T.length ≤ 1048576) :
    Calls Tryz.prog 23 #[.pointer (some ⟨p, 0, none⟩), .int .i64 0, .slice (some ⟨w.heap.size, 0, none⟩) 3 3] (w.alloc (.cells ([bitposB, bB, [49]].map txt).toArray 9)) (RunT w0 (o.put w.heap.size [9]) (w.alloc (.cells ([bitposB, bB, [49]].map txt).toArray 9)) p m (Rf.rp ⟨3, [], firstT 0 T⟩) (fun S' => BitsAt S' T)) := by
  obtain ⟨V, ok, e1, e2, e3, e4, _⟩ := hS.at
  subst e4
  have hA := H.lit (.cells ([bitposB, bB, [49]].map txt).toArray 9)
  exact at_trun (now := 0) (args := [bB, [49]]) (nm := bitposB) (low := bitposB) (K := fun S' => BitsAt S' V.text) hA (by decide) (lit_apart o w [bitposB, bB, [49]] (by simp)) (by decide) (by decide) (by simp) (by simp) ⟨⟨bitposB, -3, false, false, 1, 1, 1⟩, by kernel_rfl, .inr ⟨by decide, by decide⟩, by decide⟩ goes_bitpos
    (fun _ _ _ _ _ h2 hm1 hB hcb hv => (tbitpos_ok h2 (by decide) hcb (hv.imp fun _ hb => hb.1) e1 e2 e3 hl).mono fun _ _ h => h.repL ⟨hS, Cnt.near_refl _⟩)
end
end Go.Proofs.YthojmgjgmbnopaaGreatDoor
