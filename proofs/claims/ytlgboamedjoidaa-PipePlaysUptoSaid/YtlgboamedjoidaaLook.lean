import Derived.Test.YtlgboamedjoidaaRefF
namespace Go.Proofs.Ytlgboamedjoidaa
open Go Go.RowKit

set_option maxRecDepth 100000 in
set_option maxHeartbeats 2000000 in
theorem look_core (w : World) (p q : Nat) (c un wa RM : Int) (cl en cu : Bool) (E : Int) (SN TK : List UInt8) (len cap : Nat) (a : Option Addr)
    (L1 : ∀ w2, Below w.heap.size w w2 → Calls Try.prog 15 #[ptr p, .int .i64 c] w2 fun e w' => e = .returned (.tuple #[lineV un wa cl en cu, .int .i64 E]) ∧ Below w2.heap.size w2 w')
    (L2 : ∀ w2, Below w.heap.size w w2 → Calls Try.prog 37 #[ptr q, .int .i64 c] w2 fun e w' => e = .returned (.tuple #[lineV un wa cl en cu, .int .i64 E]) ∧ Below w2.heap.size w2 w')
    (C1 : ∀ w2, Below w.heap.size w w2 → Calls Try.prog 9 #[ptr p] w2 fun e w' => e = .returned (.int .i64 len) ∧ ∃ k, w' = w2.drewN k)
    (C2 : w.cell? ⟨q, 1, none⟩ = some (.slice a len cap))
    (R1 : ∀ w2, Below w.heap.size w w2 → Calls Try.prog 20 #[ptr p, .int .i64 c] w2 fun e w' => e = .returned (.int .i64 RM) ∧ ∃ k, w' = w2.drewN k)
    (R2 : ∀ w2, Below w.heap.size w w2 → Calls Try.prog 38 #[ptr q, .int .i64 c] w2 fun e w' => e = .returned (.int .i64 RM) ∧ ∃ k, w' = w2.drewN k)
    (S1 : ∀ w2, Below w.heap.size w w2 → Calls Try.prog 17 #[ptr p, .int .i64 c] w2 fun e w' => e = .returned (txt SN) ∧ ∃ k, w' = w2.drewN k)
    (S2 : ∀ w2, Below w.heap.size w w2 → Calls Try.prog 39 #[ptr q, .int .i64 c] w2 fun e w' => e = .returned (txt SN) ∧ ∃ k, w' = w2.drewN k)
    (T1 : ∀ w2, Below w.heap.size w w2 → Calls Try.prog 18 #[ptr p, .int .i64 c] w2 fun e w' => e = .returned (txt TK) ∧ ∃ k, w' = w2.drewN k)
    (T2 : ∀ w2, Below w.heap.size w w2 → Calls Try.prog 40 #[ptr q, .int .i64 c] w2 fun e w' => e = .returned (txt TK) ∧ ∃ k, w' = w2.drewN k) :
    Calls Try.prog 13 #[ptr p, ptr q, .int .i64 c] w fun e w' => e = .returned (.bool true) ∧ Below w.heap.size w w' := by
  have hq1 : ((⟨SN.toArray⟩ : ByteArray).toList == (⟨SN.toArray⟩ : ByteArray).toList) = true := by simp
  have hq2 : ((⟨TK.toArray⟩ : ByteArray).toList == (⟨TK.toArray⟩ : ByteArray).toList) = true := by simp
  have hqlt : q < w.heap.size := World.block_lt_of_cell? w _ C2
  unfold ptr txt lineV at *
  have hL1 := L1 w (Below.refl _ _)
  have HL2 := Lib.hid L2
  have HC1 := Lib.hid C1
  have HR1 := Lib.hid R1
  have HR2 := Lib.hid R2
  have HS1 := Lib.hid S1
  have HS2 := Lib.hid S2
  have HT1 := Lib.hid T1
  have HT2 := Lib.hid T2
  clear L1 L2 C1 R1 R2 S1 S2 T1 T2
  go_enter Try.func13, Try.ntmps13
  go_wp2_with fail
  refine hL1.mono ?_; rintro e w1 ⟨rfl, hw1⟩
  clear hL1
  go_wp2_with fail
  refine (HL2.out _ (hw1.alloc hw1.size _)).mono ?_; rintro e w2 ⟨rfl, hw2⟩
  have hcl := fun j => hw2.cell (p := ⟨w1.heap.size, j, none⟩) (by simp)
  simp only [World.cell?_alloc_new] at hcl
  have hsz : w1.heap.size < w2.heap.size := by have := hw2.size; simp at this; omega
  have hqc : w2.cell? ⟨q, 1, none⟩ = some (.slice a len cap) := by
    have h12 := (hw1.alloc hw1.size (.cells #[.int .i64 un, .int .i64 wa, .bool false, .bool cl, .bool en, .bool cu] 46)).trans (hw2.mono (by have := hw1.size; simp; omega))
    rw [h12.cell (p := ⟨q, 1, none⟩) hqlt]; exact C2
  have hq3 : q < w2.heap.size := by have := hw1.size; omega
  have hX := fun A => ((((hw1.alloc hw1.size _).trans (hw2.mono (by have := hw1.size; simp; omega))).alloc (by have := hw1.size; omega) A))
  have HX := Lib.hid hX
  clear hX hw1 hw2 C2
  go_wp2_with fail
  go_quiet (first
    | (go_at_call 9; exact Calls.quiet_of (HC1.out _ (below_drewN (HX.out _) _)))
    | (go_at_call 20; exact Calls.quiet_of (HR1.out _ (below_drewN (HX.out _) _)))
    | (go_at_call 38; exact Calls.quiet_of (HR2.out _ (below_drewN (HX.out _) _)))
    | (go_at_call 17; exact Calls.quiet_of (HS1.out _ (below_drewN (HX.out _) _)))
    | (go_at_call 39; exact Calls.quiet_of (HS2.out _ (below_drewN (HX.out _) _)))
    | (go_at_call 18; exact Calls.quiet_of (HT1.out _ (below_drewN (HX.out _) _)))
    | (go_at_call 40; exact Calls.quiet_of (HT2.out _ (below_drewN (HX.out _) _))))
  go_wp2_with fail
  go_ret
  exact ⟨rfl, below_drewN (HX.out _) _⟩

structure Pair (W : World) (o : Roles) (w : World) (p q : Nat) (ps : List Nat) (n : NI) (T : Nat) : Prop where
  base : Base W o w
  net : Net o w [0] p ps n
  ref : Ref o w [1] q n.win n.conns
  acc : AccL n.conns n.next
  good : Good n T

section
variable {W w : World} {o : Roles} {p q T : Nat} {ps : List Nat} {n : NI}
theorem Pair.len (h : Pair W o w p q ps n T) : ps.length = n.conns.length := by obtain ⟨_, h⟩ := h.net; exact h.len
theorem look_ok (h : Pair W o w p q ps n T) (c : Int) : Calls Try.prog 13 #[ptr p, ptr q, .int .i64 c] w fun e w' => e = .returned (.bool true) ∧ Below w.heap.size w w' := by
  have hN := h.net
  have hR := h.ref
  obtain ⟨lv, hRV⟩ := hR
  obtain ⟨a, cap, hv, _⟩ := hRV.row.slice
  have hq : w.cell? ⟨q, 1, none⟩ = some (.slice a n.conns.length cap) := by rw [hRV.blk.cell, hv]; rfl
  by_cases hc : outR ps c
  · have hc2 : outL n.conns c := by unfold outR at hc; unfold outL; rw [← h.len]; exact hc
    exact look_core w p q c 0 0 0 false false false 60 [] [] n.conns.length cap a (fun w2 hb => Line_out (hN.below hb) c hc) (fun w2 hb => RLine_out (h.ref.below hb) c hc2) (fun w2 hb => Conns_ok (hN.below hb)) hq
      (fun w2 hb => Room_qout (hN.below hb) c hc) (fun w2 hb => RRoom_out (h.ref.below hb) c hc2) (fun w2 hb => Sent_out (hN.below hb) c hc) (fun w2 hb => RSent_out (h.ref.below hb) c hc2) (fun w2 hb => Taken_out (hN.below hb) c hc) (fun w2 hb => RTaken_out (h.ref.below hb) c hc2)
  · obtain ⟨i, rfl⟩ : ∃ i : Nat, c = i := ⟨c.toNat, by unfold outR at hc; omega⟩
    obtain ⟨b, x, hb, hx⟩ := hN.at (i := i) (by unfold outR at hc; omega)
    exact look_core w p q i _ _ _ _ _ _ 0 _ _ n.conns.length cap a (fun w2 hB => Line_in (hN.below hB) hb hx) (fun w2 hB => RLine_in (h.ref.below hB) hx) (fun w2 hB => Conns_ok (hN.below hB)) hq
      (fun w2 hB => Room_q (hN.below hB) hb hx) (fun w2 hB => RRoom_in (h.ref.below hB) hx) (fun w2 hB => Sent_in (hN.below hB) hb hx) (fun w2 hB => RSent_in (h.ref.below hB) hx) (fun w2 hB => Taken_in (hN.below hB) hb hx) (fun w2 hB => RTaken_in (h.ref.below hB) hx)
end
end Go.Proofs.Ytlgboamedjoidaa
