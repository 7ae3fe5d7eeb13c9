import Derived.Test.YthojmgjgmbnopaaGreatDoorNq
import Derived.Deep.RegionHeld
namespace Go.Proofs.YthojmgjgmbnopaaGreatDoor
open Go Go.RowKit
/-! The document's Put of a first text; Begun of one start; Counter. -/
set_option maxRecDepth 10000 in
set_option maxHeartbeats 4000000 in
theorem xPut_ok {o : Roles} {w : World} {r : List Nat} {x : Nat} (h : Blk o w r x (xsC (.slice none 0 0) 0) 79) (k s : List UInt8) (hs : s.length ≤ 1048576) {d : Int} (hd : 0 ≤ d ∧ d ≤ 9007199254740992) :
    Calls Tryz.prog 59 #[.pointer (some ⟨x, 0, none⟩), txt k, tvV s, .int .i64 d] w fun e w' => e = .returned (.int .i64 0) ∧ Stp r o w o w' := by
  have hb : Blk none0 (w.alloc (.cells #[.int .i64 1, .string ⟨s.toArray⟩, .slice none 0 0, .slice none 0 0, .slice none 0 0] 43)) [] w.heap.size #[.int .i64 1, .string ⟨s.toArray⟩, .slice none 0 0, .slice none 0 0, .slice none 0 0] 43 := ⟨heap_alloc_new w _, rfl⟩
  have hB1 : Below w.heap.size w (w.alloc (.cells #[.int .i64 1, .string ⟨s.toArray⟩, .slice none 0 0, .slice none 0 0, .slice none 0 0] 43)) := (Below.refl _ _).alloc (Nat.le_refl _) _
  have HFI := Lib.hid (fun W => xFit_ok W s hs hd)
  have HCO := Lib.hid (fun W => xCopy_ok W s)
  have HWI := Lib.hid (fun W n => xwith_nil W k s d n)
  have HX := Lib.hid h
  have hlt := h.lt
  have HXL := Lib.hid hlt
  have Hb := Lib.hid hb
  have HB1 := Lib.hid hB1
  clear h hb hB1 hlt
  unfold txt
  go_enter Tryz.func59, Tryz.ntmps59
  go_wp2_with fail
  refine (HFI.out _).mono ?_; rintro e w2 ⟨rfl, hB2⟩
  have hb2 := Hb.out.below hB2
  have hc2 := hb2.cell
  have Hb2 := Lib.hid hb2
  have HB2 := Lib.hid (HB1.out.trans (hB2.mono HB1.out.size))
  clear hB2 hb2 HFI Hb HB1
  go_wp2_with fail
  refine (HCO.out _).mono ?_; rintro e w3 ⟨rfl, hB3⟩
  have hb3 := Hb2.out.below hB3
  have hc3 := hb3.cell
  have hf3 := hb3.free
  have Hb3 := Lib.hid hb3
  have HB3 := Lib.hid (HB2.out.trans (hB3.mono HB2.out.size))
  clear hB3 hb3 HCO Hb2 HB2 hc2
  go_wp2_with fail
  refine (xnote_ok (o := o) (r := r) (l := .slice none 0 0) (n := 0) ?_ k (by omega)).mono ?_
  · iterate 5 refine Blk.setOther ?_ _ _ (by have := HXL.out; show x ≠ w.heap.size; omega)
    exact HX.out.below HB3.out
  rintro e w4 ⟨rfl, hw4⟩
  have hx4 : Blk o w4 r x (xsC (.slice none 0 0) 1) 79 := by
    rw [hw4]
    refine Blk.setCell (cs := xsC (.slice none 0 0) 0) ?_ 1 _
    iterate 5 refine Blk.setOther ?_ _ _ (by have := HXL.out; show x ≠ w.heap.size; omega)
    exact HX.out.below HB3.out
  have hb4 : Blk none0 w4 [] w.heap.size #[.int .i64 1, .string ⟨s.toArray⟩, .slice none 0 0, .slice none 0 0, .slice none 0 0] 43 := by
    rw [hw4]
    refine Blk.setOther ?_ _ _ (by have := HXL.out; show w.heap.size ≠ x; omega)
    exact (((((Hb3.out.setCell 0 _).setCell 1 _).setCell 2 _).setCell 3 _).setCell 4 _)
  have hs4 : Stp r o w o w4 := by
    rw [hw4]
    refine Stp.setCell (Stp.ofBelow r o ?_) (by show r <+: o x; rw [HX.out.role]; exact List.prefix_refl _) _
    iterate 5 refine Below.setCell ?_ (by exact Nat.le_refl _) _
    exact HB3.out
  have hc4 := hx4.cell
  have hbc4 := hb4.cell
  have HX4 := Lib.hid hx4
  have HB4 := Lib.hid hb4
  have HS4 := Lib.hid hs4
  clear hw4 hx4 hb4 hs4 hc3 hf3 Hb3 HB3 HX
  go_wp2_with fail
  go_region_with (
    go_at_call 94
    (with_reducible refine (HWI.out _ _).mono ?_)
    rintro e w6 ⟨⟨a, m, c, rfl⟩, hB6⟩
    have hB6' : Below w4.heap.size w4 w6 := (Below.refl _ w4).drew.trans hB6
    have hx6 := HX4.out.below hB6'
    have hb6 := HB4.out.below hB6'
    have hc6 := hx6.cell
    have hf6 := hx6.free
    have hbc6 := hb6.cell
    have HX6 := Lib.hid hx6
    have HS6 := Lib.hid (HS4.out.trans (Stp.ofBelow r o hB6'))
    clear hB6 hB6' hx6 hb6)
  all_goals (
    clear HWI HX4 HB4 HS4
    have hne1 : ¬ (w.heap.size = x) := by have := HXL.out; omega
    have hne2 : ¬ (x = w.heap.size) := by have := HXL.out; omega
    go_wp2_with fail
    refine (xchange_ok (o := o) (r := r) (l := .slice a m c) (n := 1) (HX6.out.setCell 0 _) _ _ _ _ _ _ _ _).mono ?_
    rintro e w7 ⟨rfl, hB7⟩
    have D := Lib.hid (show Stp r o w o w7 from (HS6.out.setCell (by show r <+: o x; rw [HX6.out.role]; exact List.prefix_refl _) _).trans (Stp.ofBelow r o hB7))
    clear hB7
    go_wp2_with fail
    go_ret
    exact ⟨rfl, D.out⟩)
theorem sCounter_at {w : World} {p : Nat} {n : Int} (hc : w.cell? ⟨p, 2, none⟩ = some (.int .u64 n)) : Calls Tryz.prog 49 #[.pointer (some ⟨p, 0, none⟩)] w fun e w' => e = .returned (.int .u64 n) ∧ w' = w := by
  go_enter Tryz.func49, Tryz.ntmps49
  go_wp2_with fail
  go_ret
  exact ⟨rfl, rfl⟩
theorem SpJ.counter {o : Roles} {w : World} {q : List Nat} {p : Nat} {S : SP} {c : Cnt} (h : SpJ o w q p S c) : w.cell? ⟨p, 2, none⟩ = some (.int .u64 (c.num : Int)) := by
  obtain ⟨m, d, a, kvs, h⟩ := h
  rw [h.blk.cell]; rfl
/-- One start's cells. -/
def StartAt (w : World) (g : Nat) (k s : List UInt8) (d : Int) : Prop :=
  w.cell? ⟨g, 0, none⟩ = some (.string ⟨k.toArray⟩) ∧ w.cell? ⟨g, 1, none⟩ = some (.int .i64 1) ∧ w.cell? ⟨g, 2, none⟩ = some (.string ⟨s.toArray⟩) ∧ w.cell? ⟨g, 3, none⟩ = some (.slice none 0 0) ∧ w.cell? ⟨g, 4, none⟩ = some (.slice none 0 0) ∧ w.cell? ⟨g, 5, none⟩ = some (.slice none 0 0) ∧ w.cell? ⟨g, 6, none⟩ = some (.int .i64 d)
theorem StartAt.below {w w' : World} {g : Nat} {k s : List UInt8} {d : Int} (h : StartAt w g k s d) (hB : Below w.heap.size w w') : StartAt w' g k s d := by
  have hl : g < w.heap.size := World.block_lt_of_cell? _ _ h.1
  obtain ⟨h0, h1, h2, h3, h4, h5, h6⟩ := h
  have e := (bcell hB).1
  exact ⟨by rw [e _ _ hl]; exact h0, by rw [e _ _ hl]; exact h1, by rw [e _ _ hl]; exact h2, by rw [e _ _ hl]; exact h3, by rw [e _ _ hl]; exact h4, by rw [e _ _ hl]; exact h5, by rw [e _ _ hl]; exact h6⟩
abbrev oneS (k s : List UInt8) (d : Int) : SP := SP.put (fun _ => none) k ⟨textV s, d, 1⟩
def BegR (w : World) (p x : Nat) (k s : List UInt8) (d : Int) (i : Value) (wr : World) : Prop :=
  ∃ o : Roles, Stp [1] none0 w o wr ∧ ((i = .int .i64 0 ∧ SpJ o wr [1] p (fun _ => none) ⟨0, 0⟩ ∧ Blk o wr [2] x (xsC (.slice none 0 0) 0) 79) ∨ (i = .int .i64 1 ∧ SpJ o wr [1] p (oneS k s d) ⟨1, 1⟩))
def BegunDid (w : World) (k s : List UInt8) (d : Int) (e : Ending) (w' : World) : Prop :=
  ∃ p x o, e = .returned (.tuple #[.pointer (some ⟨p, 0, none⟩), .pointer (some ⟨x, 0, none⟩)]) ∧ SpJ o w' [1] p (oneS k s d) ⟨1, 1⟩ ∧ Stp [1] none0 w o w'
set_option maxRecDepth 10000 in
set_option maxHeartbeats 8000000 in
theorem begun_ok {w : World} {g : Nat} {k s : List UInt8} {d : Int} (h : StartAt w g k s d) (hd : 0 ≤ d ∧ d ≤ 9007199254740992) (hs : s.length ≤ 1048576) : Calls Tryz.prog 15 #[.slice (some ⟨g, 0, none⟩) 1 1] w (BegunDid w k s d) := by
  have HN := Lib.hid (jnew_ok none0 w [1])
  have HST := Lib.hid h
  clear h
  go_enter Tryz.func15, Tryz.ntmps15
  go_wp2_with fail
  refine HN.out.mono ?_; rintro e w1 ⟨p, o1, rfl, hj, hst⟩
  have hat : BegR w p w1.heap.size k s d (.int .i64 0) (w1.alloc (.cells (xsC (.slice none 0 0) 0) 79)) := by
    have s1 : Stp [2] o1 w1 (o1.put w1.heap.size [2]) (w1.alloc (.cells (xsC (.slice none 0 0) 0) 79)) := (Stp.refl _ _ _).alloc (r' := [2]) _ w1.heap.size rfl
    exact ⟨_, hst.hide s1 (fun b _ => by unfold none0; simp), .inl ⟨rfl, hj.keep s1 (Apart.head (by decide) _ _), Blk.new _ _ _ _ _ _ rfl⟩⟩
  have HAT := Lib.hid hat
  clear hj hst HN hat
  go_wp2_with fail
  go_loopw [6] (fun i wr => BegR w p w1.heap.size k s d i wr) (fun i _ => 1 - (intOf i).toNat)
  case atStart => exact HAT.out
  case round =>
    clear HAT
    generalize w1.heap.size = x at *
    obtain ⟨o, hst, ⟨rfl, hj, hx⟩ | ⟨rfl, hj⟩⟩ := hrel
    · have hsa := HST.out.below hst.below0
      obtain ⟨c0, c1, c2, c3, c4, c5, c6⟩ := id hsa
      have HP := Lib.hid (fun W (hW : Below wr.heap.size wr W) => jput_ok (hj.below hW) k (val3_text (fun _ => False) W s) ⟨by show s.length ≤ _; omega, by simp, by simp, by simp⟩ (fun b hb => hb.elim) d hd (fun W2 _ => vcheck_text (val3_text (fun _ => False) W2 s) rfl rfl rfl rfl hs) (by simp) (by simp))
      have HX := Lib.hid hx
      have HS := Lib.hid hst
      have HSA := Lib.hid hsa
      unfold txt at HP
      clear hj hx hst hsa
      go_wp2_with fail
      have HA0 := Lib.hid (HSA.out.below ((Below.refl _ wr).drew))
      clear c0 c1 c2 c3 c4 c5 c6
      go_region_held (fun W => W.cell? ⟨g, 0, none⟩ = some (.string ⟨k.toArray⟩) ∧ W.cell? ⟨g, 1, none⟩ = some (.int .i64 1) ∧ W.cell? ⟨g, 2, none⟩ = some (.string ⟨s.toArray⟩) ∧ W.cell? ⟨g, 3, none⟩ = some (.slice none 0 0) ∧ W.cell? ⟨g, 4, none⟩ = some (.slice none 0 0) ∧ W.cell? ⟨g, 5, none⟩ = some (.slice none 0 0) ∧ W.cell? ⟨g, 6, none⟩ = some (.int .i64 d))
        (first | exact HA0.out | exact HA4.out | exact HA5.out) (first
        | (go_at_call 32
           (with_reducible refine (HP.out _ ((Below.refl _ wr).drew)).mono ?_)
           rintro e w4 ⟨rfl, o4, hj4, hs4⟩
           have hx4 := HX.out.keep (hs4.from1) (Apart.head (by decide) _ _).not
           have hst4 := HS.out.trans (hs4.from1)
           have HA4 := Lib.hid (HST.out.below hst4.below0)
           have HP2 := Lib.hid (xPut_ok hx4 k s hs hd)
           unfold txt at HP2
           have HJ4 := Lib.hid hj4
           have HS4 := Lib.hid hst4
           clear hj4 hs4 hx4 hst4)
        | (go_at_call 59
           (with_reducible refine HP2.out.mono ?_)
           rintro e w5 ⟨rfl, hs5⟩
           have hst5 := HS4.out.hide hs5 (fun b _ => by unfold none0; simp)
           have HA5 := Lib.hid (HST.out.below hst5.below0)
           have D := Lib.hid (show BegR w p x k s d (.int .i64 1) w5 from ⟨o4, hst5, .inr ⟨rfl, HJ4.out.keep hs5 (Apart.head (by decide) _ _)⟩⟩)
           clear hs5 hst5))
      all_goals (
        clear HP HX HS HSA HP2 HJ4 HS4
        go_wp2_with fail
        go_roundw
        case rel => exact D.out
        case measure => simp [intOf])
    · have D := Lib.hid (show BegunDid w k s d (.returned (.tuple #[.pointer (some ⟨p, 0, none⟩), .pointer (some ⟨x, 0, none⟩)])) wr from ⟨p, x, o, rfl, hj, hst⟩)
      clear hj hst
      go_wp2_with fail
      go_ret2
      exact D.out
end Go.Proofs.YthojmgjgmbnopaaGreatDoor
