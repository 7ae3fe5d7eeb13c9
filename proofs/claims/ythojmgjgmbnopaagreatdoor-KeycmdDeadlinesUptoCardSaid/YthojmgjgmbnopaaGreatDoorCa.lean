import Derived.Test.YthojmgjgmbnopaaGreatDoorXE
import Derived.Test.YthojmgjgmbnopaaGreatDoorRp
import Derived.Test.YthojmgjgmbnopaaGreatDoorVt
import Derived.Deep.CutRange
import Derived.Deep.RegionHeld3
import Derived.Deep.QuietTactic
import Derived.BigQuiet
namespace Go.Proofs.YthojmgjgmbnopaaGreatDoor
open Go Go.RowKit
/-! A call of strings: what a key holds. -/
abbrev callC (p : Nat) (now : Int) (nm : List UInt8) (sv : Value) : Array Value := #[.pointer (some ⟨p, 0, none⟩), .int .i64 now, .string ⟨nm.toArray⟩, sv]
/-- What a key's text is told as. -/
def TextDid (w : World) (V : VV) (ok : Bool) (e : Ending) (w' : World) : Prop :=
  e = .returned (.tuple #[txt V.text, .bool ok, .bool (ok && V.kind != 1)]) ∧ Below w.heap.size w w'
def ListR (w : World) (V : VV) (ok : Bool) (s7 s8 : Value) (wx : World) : Prop :=
  ∃ g a1 c1 f r, s7 = .pointer (some ⟨g, 0, none⟩) ∧ s8 = .bool ok ∧ wx.heap[g]? = some (.cells #[.int .i64 V.kind, .string ⟨V.text.toArray⟩, .slice a1 V.list.length c1, f, r] 43 (0, 0)) ∧ Vw (fun b => w.heap.size ≤ b) wx (.slice a1 V.list.length c1) 1 V.list.length (V.list.map txt) ∧ Below w.heap.size w wx
section
variable {o : Roles} {w : World} {q : List Nat} {p : Nat} {c : Cnt} {S : SP}
set_option maxRecDepth 10000 in
set_option maxHeartbeats 20000000 in
theorem ctext_ok (h : SpJ o w q p S c) {cb : Nat} {ρ : List Nat} {now : Int} {nm : List UInt8} {sv : Value} (hcb : Blk o w ρ cb (callC p now nm sv) 108) (k : List UInt8) :
    Calls Tryz.prog 175 #[.pointer (some ⟨cb, 0, none⟩), txt k] w (TextDid w ((S.at now k).getD hd0).v (S.at now k).isSome) := by
  have hsm := h.small' now k
  have hB1 : Below w.heap.size w (w.alloc (.cells #[.int .i64 0, .string ⟨#[]⟩, .slice none 0 0, .slice none 0 0, .slice none 0 0] 43)) := (Below.refl _ _).alloc (Nat.le_refl _) _
  have HG1 := Lib.hid (jget_ok (h.below (Below.refl _ w).drew) k now)
  have HG2 := Lib.hid (jget_ok (h.below hB1.drew) k now)
  have HD1 := Lib.hid (show Blk none0 (w.alloc (.cells #[.int .i64 0, .string ⟨#[]⟩, .slice none 0 0, .slice none 0 0, .slice none 0 0] 43)) [] w.heap.size #[.int .i64 0, .string ⟨#[]⟩, .slice none 0 0, .slice none 0 0, .slice none 0 0] 43 from ⟨heap_alloc_new w _, rfl⟩)
  have HB1 := Lib.hid hB1
  have hz : (w.alloc (.cells #[.int .i64 0, .string ⟨#[]⟩, .slice none 0 0, .slice none 0 0, .slice none 0 0] 43)).heap.size = w.heap.size + 1 := by simp
  have HZ := Lib.hid hz
  have hb := hcb.cell
  have hf := hcb.free
  have hl := hcb.lt
  generalize (S.at now k).getD hd0 = H at *
  generalize (S.at now k).isSome = ok at *
  obtain ⟨⟨kind, text, list, fields, ranked⟩, due, ver⟩ := H
  dsimp only at hsm HG1 HG2
  clear h hB1 hz
  unfold txt at *
  go_enter Tryz.func175, Tryz.ntmps175
  go_wp2_with fail
  go_cut [7, 8] from 9 to 21 (fun s7 s8 wx => ListR w ⟨kind, text, list, fields, ranked⟩ ok s7 s8 wx)
  case first =>
    go_region_with (first
      | (go_at_call 24
         (with_reducible refine HG1.out.mono ?_)
         rintro e w2 ⟨l2, f2, r2, rfl, hv2, hB2⟩
         have HV2 := Lib.hid (show Val3 (fun b => w.heap.size ≤ b) w2 ⟨kind, text, list, fields, ranked⟩ l2 f2 r2 from hv2)
         have HB2 := Lib.hid (show Below w.heap.size w w2 from (Below.refl _ w).drew.trans hB2)
         obtain ⟨b1, d1, rfl, _⟩ := id hv2.list.slice
         obtain ⟨b2, d2, rfl, _⟩ := id hv2.fields.slice
         obtain ⟨b3, d3, rfl, _⟩ := id hv2.ranked.slice
         clear hv2 hB2)
      | (go_at_call 24
         (with_reducible refine HG2.out.mono ?_)
         rintro e w2 ⟨l2, f2, r2, rfl, hv2, hB2⟩
         have HV2 := Lib.hid (show Val3 (fun b => w.heap.size + 1 ≤ b) w2 ⟨kind, text, list, fields, ranked⟩ l2 f2 r2 from hv2.imp (fun b hb => Nat.le_trans (Nat.le_of_eq HZ.out.symm) hb))
         have HB2 := Lib.hid (show Below w.heap.size w w2 from HB1.out.trans ((((Below.refl _ _).drew).trans hB2).mono HB1.out.size))
         have HD2 := Lib.hid (HD1.out.below (((Below.refl _ _).drew).trans hB2))
         have hcd := HD2.out.cell
         have hfd := HD2.out.free
         obtain ⟨b1, d1, rfl, _⟩ := id hv2.list.slice
         obtain ⟨b2, d2, rfl, _⟩ := id hv2.fields.slice
         obtain ⟨b3, d3, rfl, _⟩ := id hv2.ranked.slice
         clear hv2 hB2))
    all_goals (
      first
      | (have D : ListR w ⟨kind, text, list, fields, ranked⟩ ok (.pointer (some ⟨w2.heap.size, 0, none⟩)) (.bool ok) (w2.alloc (.cells #[.int .i64 kind, .string ⟨text.toArray⟩, .slice b1 list.length d1, .slice b2 fields.length d2, .slice b3 ranked.length d3] 43)) :=
           ⟨_, b1, d1, _, _, rfl, rfl, heap_alloc_new _ _, HV2.out.list.below ((Below.refl _ w2).alloc (Nat.le_refl _) _), HB2.out.alloc HB2.out.size _⟩
         have HD := Lib.hid D
         clear D HG1 HG2 HD1 HB1 HZ HV2 HB2
         go_wp2_with fail
         go_meet
         exact HD.out)
      | (have h0 : Blk o w2 (o w.heap.size) w.heap.size #[.int .i64 0, .string ⟨#[]⟩, .slice none 0 0, .slice none 0 0, .slice none 0 0] 43 := ⟨HD2.out.heap, rfl⟩
         have D : ListR w ⟨kind, text, list, fields, ranked⟩ ok (.pointer (some ⟨w.heap.size, 0, none⟩)) (.bool ok) (((((w2.setCell ⟨w.heap.size, 0, none⟩ (.int .i64 kind)).setCell ⟨w.heap.size, 1, none⟩ (.string ⟨text.toArray⟩)).setCell ⟨w.heap.size, 2, none⟩ (.slice b1 list.length d1)).setCell ⟨w.heap.size, 3, none⟩ (.slice b2 fields.length d2)).setCell ⟨w.heap.size, 4, none⟩ (.slice b3 ranked.length d3)) := by
           refine ⟨_, b1, d1, _, _, rfl, rfl, (((((h0.setCell 0 (.int .i64 kind)).setCell 1 (.string ⟨text.toArray⟩)).setCell 2 (.slice b1 list.length d1)).setCell 3 (.slice b2 fields.length d2)).setCell 4 (.slice b3 ranked.length d3)).heap, ?_, ?_⟩
           · refine (HV2.out.list.stay (by simp) (fun b hb _ => ?_)).imp (fun b hb => Nat.le_trans (Nat.le_add_right _ _) hb)
             repeat rw [heap_set_far (by show b ≠ w.heap.size; omega)]
           · iterate 5 refine Below.setCell ?_ (by simp) _
             exact HB2.out
         have HD := Lib.hid D
         clear D HG1 HG2 HD1 HB1 HZ HV2 HB2
         go_wp2_with fail
         go_meet
         exact HD.out))
  case rest =>
    obtain ⟨g, a1, c1, f, r0, rfl, rfl, hx, hV, hB⟩ := hcut
    dsimp only at hx hV
    have hcx : ∀ j, wc.cell? ⟨g, j, none⟩ = (#[.int .i64 kind, .string ⟨text.toArray⟩, .slice a1 list.length c1, f, r0] : Array Value)[j]? := fun j => by simp [World.cell?, hx]
    have HV := Lib.hid hV
    have HB := Lib.hid hB
    clear hx hV hB HG1 HG2 HD1 HB1 HZ
    cases ok with
    | false =>
      go_wp2_with fail
      go_quiet (fail)
      go_wp2_with fail
      go_ret3
      exact ⟨rfl, below_drewN HB.out _⟩
    | true =>
      rcases hk : ((kind : Int) == 1) with _ | _
      · have hk2 : ((kind : Int) != 1) = true := by rw [bne, hk]; rfl
        go_wp2_with fail
        go_quiet (fail)
        go_wp2_with fail
        go_ret3
        exact ⟨by rw [hk2]; rfl, below_drewN HB.out _⟩
      · have hk2 : ((kind : Int) != 1) = false := by rw [bne, hk]; rfl
        go_wp2_with fail
        go_quiet (fail)
        go_wp2_with fail
        go_ret3
        exact ⟨by rw [hk2]; rfl, below_drewN HB.out _⟩
end
end Go.Proofs.YthojmgjgmbnopaaGreatDoor
