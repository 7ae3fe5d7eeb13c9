import Derived.Test.YthojmgjgmbnopaaGreatDoorCa
namespace Go.Proofs.YthojmgjgmbnopaaGreatDoor
open Go Go.RowKit
/-! A text that is put. -/
def PutL (o : Roles) (w : World) (q : List Nat) (p : Nat) (S : SP) (c : Cnt) (b : Bool) (e : Ending) (w' : World) : Prop :=
  e = .returned (.bool b) ∧ ∃ o', SpJ o' w' q p S c ∧ Stp q o w o' w'
section
variable {o : Roles} {w : World} {q : List Nat} {p : Nat} {c : Cnt} {S : SP} {cb : Nat} {ρ : List Nat} {now : Int} {nm : List UInt8} {sv : Value}
set_option maxRecDepth 10000 in
set_option maxHeartbeats 4000000 in
theorem tlay_ok (h : SpJ o w q p S c) (hcb : Blk o w ρ cb (callC p now nm sv) 108) (k s : List UInt8) (hs : s.length ≤ 1048576) (hc : c.num ≤ 4611686018427387904) (hf : c.few ≤ 1099511627776) (due : Int) (hd : 0 ≤ due ∧ due ≤ 9007199254740992) :
    Calls Tryz.prog 183 #[.pointer (some ⟨cb, 0, none⟩), txt k, txt s, .int .i64 due] w (PutL o w q p (S.put k ⟨textV s, due, c.num + 1⟩) c.next true) := by
  have HP := Lib.hid (jput_ok h k (val3_text (fun _ => False) w s) ⟨by show s.length ≤ _; omega, by simp, by simp, by simp⟩ (fun b hb => hb.elim) due hd (fun W _ => vcheck_text (val3_text (fun _ => False) W s) rfl rfl rfl rfl hs) hc hf)
  have hcc := hcb.cell
  clear h hcb hs
  unfold txt at *
  go_enter Tryz.func183, Tryz.ntmps183
  go_wp2_with fail
  refine HP.out.mono ?_; rintro e w1 ⟨rfl, o1, h1, s1⟩
  have D := Lib.hid (show PutL o w q p (S.put k ⟨textV s, due, c.num + 1⟩) c.next true (.returned (.bool true)) w1 from ⟨rfl, o1, h1, s1⟩)
  clear h1 s1 HP
  go_wp2_with fail
  go_ret
  exact D.out
/-- A text is put, the deadline stays. -/
def SP.keepT (S : SP) (now : Int) (k s : List UInt8) (n : Nat) : SP := S.put k ⟨textV s, ((S.at now k).getD hd0).due, n⟩
set_option maxRecDepth 10000 in
set_option maxHeartbeats 4000000 in
theorem tput_ok (h : SpJ o w q p S c) (hcb : Blk o w ρ cb (callC p now nm sv) 108) (k s : List UInt8) (hs : s.length ≤ 1048576) (hc : c.num ≤ 4611686018427387904) (hf : c.few ≤ 1099511627776) :
    Calls Tryz.prog 177 #[.pointer (some ⟨cb, 0, none⟩), txt k, txt s] w (PutL o w q p (S.keepT now k s (c.num + 1)) c.next true) := by
  have hdl := h.lim' now k
  have HDUE := Lib.hid (jdue_ok (h.below (Below.refl _ w).drew) k now)
  have HLAY := Lib.hid (fun (W : World) (hW : Below w.heap.size w W) => tlay_ok (h.below hW) (hcb.below hW) k s hs hc hf _ hdl)
  have hcc := hcb.cell
  have HCB := Lib.hid hcb
  clear h hcb hs hdl
  unfold DueDid at HDUE
  unfold SP.keepT
  generalize S.put k ⟨textV s, ((S.at now k).getD hd0).due, c.num + 1⟩ = S' at *
  generalize ((S.at now k).getD hd0).due = due at *
  generalize (S.at now k).isSome = ok at *
  unfold txt at HDUE HLAY ⊢
  go_enter Tryz.func177, Tryz.ntmps177
  go_wp2_with fail
  go_region_with (
    go_at_call 20
    (with_reducible refine HDUE.out.mono ?_)
    rintro e w2 ⟨rfl, hB2⟩
    have hB2' : Below w.heap.size w w2 := (Below.refl _ w).drew.trans hB2
    have hcc2 := (HCB.out.below hB2').cell
    have HB2 := Lib.hid hB2'
    clear hB2 hB2')
  all_goals (
    have HL := Lib.hid (HLAY.out w2 HB2.out)
    clear HDUE HLAY hcc
    go_wp2_with fail
    refine HL.out.mono ?_; rintro e w3 ⟨rfl, o3, h3, s3⟩
    have D := Lib.hid (show PutL o w q p S' c.next true (.returned (.bool true)) w3 from ⟨rfl, o3, h3, (Stp.ofBelow q o HB2.out).trans s3⟩)
    clear h3 s3 HL HB2
    go_wp2_with fail
    go_ret
    exact D.out)
end
end Go.Proofs.YthojmgjgmbnopaaGreatDoor
