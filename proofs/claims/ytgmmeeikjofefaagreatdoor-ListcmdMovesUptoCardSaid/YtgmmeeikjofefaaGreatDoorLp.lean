import Derived.Test.YtgmmeeikjofefaaGreatDoorLi
namespace Go.Proofs.YtgmmeeikjofefaaGreatDoor
open Go Go.RowKit
abbrev listV (l : List (List UInt8)) : VV := ⟨2, [], l, [], []⟩
def PutL (o : Roles) (w : World) (q : List Nat) (p : Nat) (S : SP) (c : Cnt) (b : Bool) (e : Ending) (w' : World) : Prop :=
  e = .returned (.bool b) ∧ ∃ o', SpJ o' w' q p S c ∧ Stp q o w o' w'
theorem val3_list {A : Nat → Prop} {w : World} {v : Value} {l : List (List UInt8)} (h : Vw A w v 1 l.length (l.map txt)) : Val3 A w (listV l) v (.slice none 0 0) (.slice none 0 0) := ⟨h, Vw.nil _ _ _, Vw.nil _ _ _⟩
section
variable {o : Roles} {w : World} {q : List Nat} {p : Nat} {c : Cnt} {S : SP}
set_option maxRecDepth 10000 in
set_option maxHeartbeats 4000000 in
theorem lcput_ok (h : SpJ o w q p S c) {cb : Nat} {ρ r : List Nat} {now : Int} {nm : List UInt8} {sv : Value} (hcb : Blk o w ρ cb (callC p now nm sv) 79) (k : List UInt8) {d B : Nat} {l : List (List UInt8)} (hd : DeqI o w r d B l)
    (hl : l ≠ []) (hs : ∀ x ∈ l, x.length ≤ 1048576) (hB : B ≤ 1099511627776) (hc : c.num ≤ 1099511627776) :
    Calls Tryz.prog 66 #[.pointer (some ⟨cb, 0, none⟩), txt k, .pointer (some ⟨d, 0, none⟩)] w (PutL o w q p (S.put k ⟨listV l, ((S.at now k).getD hd0).due, c.num + 1⟩) c.next true) := by
  have hlen : l.length ≤ B := by obtain ⟨_, _, h⟩ := hd; have := h.few; omega
  have e0 : ((l.length : Int) == 0) = false := beq_eq_false_iff_ne.2 (by cases l with | nil => exact absurd rfl hl | cons x t => simp; omega)
  have hdue : ((S.at now k).getD hd0).due = 0 := by
    rw [h.at_eq]
    cases e : S k with
    | none => rfl
    | some H => exact h.due0 e
  have HDU := Lib.hid hdue
  have HLN := Lib.hid (dlen_ok hd)
  have HJ := Lib.hid h
  have HCB := Lib.hid hcb
  have HD := Lib.hid hd
  have HS := Lib.hid hs
  have HL := Lib.hid hl
  have hcc := hcb.cell
  clear h hcb hd hs hl hdue
  unfold txt at *
  go_enter Tryz.func66, Tryz.ntmps66
  go_wp2_with fail
  refine HLN.out.mono ?_; rintro e w1 ⟨rfl, k1, rfl⟩
  have HB1 := Lib.hid (below_drewN (Below.refl w.heap.size w) k1)
  generalize w.drewN k1 = w1 at *
  have hcc1 := (HCB.out.below HB1.out).cell
  clear hcc
  have HDUE := Lib.hid (jdue_ok (HJ.out.below HB1.out.drew) k now)
  unfold txt at HDUE
  go_wp2_with fail
  go_cut [7] from 9 to 41 (fun s7 wx => s7 = .int .i64 ((S.at now k).getD hd0).due ∧ Below w.heap.size w wx)
  case first =>
    go_region_with (first
      | (go_at_call 31
         (with_reducible refine HDUE.out.mono ?_)
         rintro e w2 ⟨rfl, hB2⟩
         have HB2 := Lib.hid (HB1.out.trans (((Below.refl _ w1).drew.trans hB2).mono HB1.out.size))
         clear hB2))
    all_goals (
      clear HDUE HLN HJ HCB HD HS HL HB1 hcc1 HDU
      go_wp2_with fail
      go_meet
      exact ⟨rfl, HB2.out⟩)
  case rest =>
    obtain ⟨rfl, hB2⟩ := hcut
    rw [HDU.out]
    have HW := Lib.hid hB2.drew
    have hcc2 := (HCB.out.below hB2).cell
    have HLI := Lib.hid (dlist_ok (HD.out.below hB2.drew) hB)
    clear hB2 HDUE HLN HB1 hcc1
    go_wp2_with fail
    go_region_with (first
      | (go_at_call 123
         (with_reducible refine HLI.out.mono ?_)
         rintro e w3 ⟨v3, rfl, hF⟩
         have hB3 : Below w.heap.size w w3 := HW.out.trans (hF.below.mono HW.out.size)
         obtain ⟨a3, c3, rfl, _⟩ := id hF.vw.slice
         have hcc3 := (HCB.out.below hB3).cell
         have HP := Lib.hid (jput_ok (HJ.out.below hB3) k (val3_list hF.vw) ⟨by simp, by show l.length ≤ _; omega, by simp, by simp⟩ (fun b hb => by have := HJ.out.role.2; have := HW.out.size; omega) 0 rfl
           (fun W hW => vcheck_list (val3_list (hF.vw.below hW)) rfl rfl rfl rfl HL.out HS.out (by show l.length ≤ _; omega)) hc)
         unfold txt at HP
         have HB3 := Lib.hid hB3
         clear hF hB3)
      | (go_at_call 44
         (with_reducible refine HP.out.mono ?_)
         rintro e w4 ⟨rfl, o4, h4, s4⟩
         have D := Lib.hid (show PutL o w q p (S.put k ⟨listV l, ((S.at now k).getD hd0).due, c.num + 1⟩) c.next true (.returned (.bool true)) w4 from ⟨rfl, o4, by rw [HDU.out]; exact h4, (Stp.ofBelow q o HB3.out).trans s4⟩)
         clear h4 s4))
    all_goals (
      clear HP HLI HW HJ HCB HD HS HL HB3
      go_wp2_with fail
      go_ret
      exact D.out)
set_option maxRecDepth 10000 in
set_option maxHeartbeats 4000000 in
theorem lcput_nil (h : SpJ o w q p S c) {cb : Nat} {ρ r : List Nat} {now : Int} {nm : List UInt8} {sv : Value} (hcb : Blk o w ρ cb (callC p now nm sv) 79) (k : List UInt8) {d B : Nat} (hd : DeqI o w r d B [])
    {H : Hd} (hS : S k = some H) (hc : c.num ≤ 1099511627776) :
    Calls Tryz.prog 66 #[.pointer (some ⟨cb, 0, none⟩), txt k, .pointer (some ⟨d, 0, none⟩)] w (PutL o w q p (S.del k) c.next true) := by
  have HLN := Lib.hid (dlen_ok hd)
  have HDR := Lib.hid (fun k1 => jdrop_ok (h.below (below_drewN (Below.refl w.heap.size w) k1)) k hS hc)
  have HCB := Lib.hid hcb
  have hcc := hcb.cell
  clear h hcb hd hS
  unfold txt at *
  go_enter Tryz.func66, Tryz.ntmps66
  go_wp2_with fail
  refine HLN.out.mono ?_; rintro e w1 ⟨rfl, k1, rfl⟩
  go_wp2_with fail
  refine (HDR.out k1).mono ?_; rintro e w2 ⟨rfl, o2, h2, s2⟩
  have D := Lib.hid (show PutL o w q p (S.del k) c.next true (.returned (.bool true)) w2 from ⟨rfl, o2, h2, (Stp.ofBelow q o (below_drewN (Below.refl _ w) k1)).trans s2⟩)
  clear h2 s2 HDR HLN HCB hcc
  go_wp2_with fail
  go_ret
  exact D.out
/-- What a space holds behind a list is put. -/
def SP.setL (S : SP) (now : Int) (k : List UInt8) (l : List (List UInt8)) (n : Nat) : SP := if l = [] then S.del k else S.put k ⟨listV l, ((S.at now k).getD hd0).due, n⟩
theorem lcput_any (h : SpJ o w q p S c) {cb : Nat} {ρ r : List Nat} {now : Int} {nm : List UInt8} {sv : Value} (hcb : Blk o w ρ cb (callC p now nm sv) 79) (k : List UInt8) {d B : Nat} {l : List (List UInt8)} (hd : DeqI o w r d B l)
    (hl : l = [] → (S k).isSome = true) (hs : ∀ x ∈ l, x.length ≤ 1048576) (hB : B ≤ 1099511627776) (hc : c.num ≤ 1099511627776) :
    Calls Tryz.prog 66 #[.pointer (some ⟨cb, 0, none⟩), txt k, .pointer (some ⟨d, 0, none⟩)] w (PutL o w q p (S.setL now k l (c.num + 1)) c.next true) := by
  unfold SP.setL
  by_cases h0 : l = []
  · subst h0
    obtain ⟨H, hH⟩ := Option.isSome_iff_exists.1 (hl rfl)
    rw [if_pos rfl]
    exact lcput_nil h hcb k hd hH hc
  · rw [if_neg h0]
    exact lcput_ok h hcb k hd h0 hs hB hc
end
end Go.Proofs.YtgmmeeikjofefaaGreatDoor
