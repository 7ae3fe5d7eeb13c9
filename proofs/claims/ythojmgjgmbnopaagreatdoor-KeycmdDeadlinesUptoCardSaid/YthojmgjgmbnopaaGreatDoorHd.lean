import Derived.Test.YthojmgjgmbnopaaGreatDoorHc
import Derived.Deep.RegionHeld
namespace Go.Proofs.YthojmgjgmbnopaaGreatDoor
open Go Go.RowKit
/-! keycmd: there, left. -/
section
variable {o : Roles} {w : World} {q : List Nat} {p : Nat} {c : Cnt} {S : SP} {cb : Nat} {ρ : List Nat} {now : Int} {sv : Value} {nm : Tx}
set_option maxRecDepth 10000 in
set_option maxHeartbeats 4000000 in
theorem kthere_ok (h : SpJ o w q p S c) (hcb : Blk o w ρ cb (callC p now nm sv) 112) (k : Tx) :
    Calls Tryz.prog 130 #[.pointer (some ⟨cb, 0, none⟩), txt k] w fun e w' => e = .returned (.bool (S.at now k).isSome) ∧ Below w.heap.size w w' := by
  have HG := Lib.hid (fun (W : World) (hW : Below w.heap.size w W) => jget_ok (h.below hW) k now)
  have HF := Lib.hid (fun (W : World) (hW : Below w.heap.size w W) => show W.cell? ⟨cb, 0, none⟩ = some (.pointer (some ⟨p, 0, none⟩)) ∧ W.cell? ⟨cb, 1, none⟩ = some (.int .i64 now) from ⟨(hcb.below hW).cell 0, (hcb.below hW).cell 1⟩)
  have hcl := hcb.lt
  unfold GetDid at HG
  generalize (S.at now k).isSome = ok at *
  generalize ((S.at now k).getD hd0).v = V at *
  obtain ⟨kind, text, list, fields, ranked⟩ := V
  clear h hcb
  unfold txt at *
  go_enter Tryz.func130, Tryz.ntmps130
  go_wp2_with fail
  have HD1 := Lib.hid (show Blk none0 (w.alloc (.cells #[.int .i64 0, .string ⟨#[]⟩, .slice none 0 0, .slice none 0 0, .slice none 0 0] 43)) [] w.heap.size #[.int .i64 0, .string ⟨#[]⟩, .slice none 0 0, .slice none 0 0, .slice none 0 0] 43 from ⟨heap_alloc_new w _, rfl⟩)
  have HA1 := Lib.hid (lit_below0 w (.cells #[.int .i64 0, .string ⟨#[]⟩, .slice none 0 0, .slice none 0 0, .slice none 0 0] 43))
  have HG1 := Lib.hid (HG.out w.drew (Below.refl _ _).drew)
  have HG2 := Lib.hid (HG.out (w.alloc (.cells #[.int .i64 0, .string ⟨#[]⟩, .slice none 0 0, .slice none 0 0, .slice none 0 0] 43)).drew HA1.out.drew)
  go_region_held (fun W => W.cell? ⟨cb, 0, none⟩ = some (.pointer (some ⟨p, 0, none⟩)) ∧ W.cell? ⟨cb, 1, none⟩ = some (.int .i64 now))
    (first | (refine HF.out _ ?_ <;> (repeat (first | exact Below.refl _ _ | refine Below.drew ?_ | refine below_drewN ?_ _ | refine Below.alloc ?_ (by first | exact Nat.le_refl _ | simp | (simp; omega)) _)) <;> done) | (refine HF.out _ ?_ <;> (repeat (first | exact HB2.out | refine Below.drew ?_ | refine below_drewN ?_ _ | refine Below.setCell ?_ (by exact Nat.le_refl _) _ | refine Below.alloc ?_ (by first | exact HB2.out.size | (simp; exact HB2.out.size)) _)) <;> done)) (first
    | (go_at_call 24
       (with_reducible refine HG1.out.mono ?_)
       rintro e w2 ⟨l, f, r, rfl, hv, hB2⟩
       obtain ⟨b1, d1, rfl, _⟩ := hv.list.slice
       obtain ⟨b2, d2, rfl, _⟩ := hv.fields.slice
       obtain ⟨b3, d3, rfl, _⟩ := hv.ranked.slice
       have HB2 := Lib.hid (show Below w.heap.size w w2 from (Below.refl _ w).drew.trans hB2)
       clear hv hB2)
    | (go_at_call 24
       (with_reducible refine HG2.out.mono ?_)
       rintro e w2 ⟨l, f, r, rfl, hv, hB2⟩
       obtain ⟨b1, d1, rfl, _⟩ := hv.list.slice
       obtain ⟨b2, d2, rfl, _⟩ := hv.fields.slice
       obtain ⟨b3, d3, rfl, _⟩ := hv.ranked.slice
       have hD2 := HD1.out.below (((Below.refl _ _).drew).trans hB2)
       have hcd := hD2.cell
       have hfd := hD2.free
       have HB2 := Lib.hid (show Below w.heap.size w w2 from HA1.out.trans ((((Below.refl _ _).drew).trans hB2).mono HA1.out.size))
       clear hv hB2 hD2))
  all_goals (
    have HB := Lib.hid (fun x => HB2.out.alloc HB2.out.size x)
    clear HG HF HG1 HG2 HD1 HA1
    go_wp2_with fail
    go_ret
    first
    | exact ⟨rfl, HB.out _⟩
    | (refine ⟨rfl, ?_⟩
       iterate 5 refine Below.setCell ?_ (by exact Nat.le_refl _) _
       exact HB2.out))
end
end Go.Proofs.YthojmgjgmbnopaaGreatDoor
