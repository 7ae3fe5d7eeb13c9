import Derived.Test.YtgmmeeikjofefaaGreatDoorPt
namespace Go.Proofs.YtgmmeeikjofefaaGreatDoor
open Go Go.RowKit
section
variable {o : Roles} {w : World} {q : List Nat} {p m d m2 a c : Nat} {kvs : KV} {S : SP}
set_option maxRecDepth 10000 in
theorem free_ok (h : SpR o w q p m d m2 a kvs S c) (k : List UInt8) : Calls Tryz.prog 159 #[.pointer (some ⟨p, 0, none⟩), txt k] w fun e w' => e = .returned (.tuple #[]) ∧ SpR o w' q p m d m2 a (mdel kvs k) (S.del k) c ∧ Stp (q ++ [0]) o w o w' := by
  have hc := h.blk.cell
  have HR := Lib.hid h
  clear h
  unfold txt
  go_enter Tryz.func159, Tryz.ntmps159
  go_wp2_with (
    refine wpList_del rfl _ _ 69 9 rfl Tryz.underlying69 Tryz.underlying9 HR.out.keys rfl (k := k) rfl ?_
    intro w2 hm2 st2
    have hr2 : SpR o w2 q p m d m2 a (mdel kvs k) (S.del k) c := by
      have h := HR.out
      refine ⟨h.blk.keep st2 np1, hm2, (keys_del kvs k).nodup h.nodup, h.dblk.keep st2 (np0 (by decide)), h.dmap.keep st2 (np0 (by decide)), fun j => ?_, fun j y hy => ?_⟩
      · rw [mfind_del h.nodup]
        unfold SP.del
        by_cases hj : j = k
        · rw [if_pos hj, if_pos hj]; trivial
        · rw [if_neg hj, if_neg hj]
          exact (h.vals j).map fun _ _ _ _ hv => hv.keep st2 (np0 (by decide))
      · unfold SP.del at hy
        by_cases hj : j = k
        · rw [if_pos hj] at hy; cases hy
        · rw [if_neg hj] at hy; exact h.due0 j y hy
    have hc2 := hr2.blk.cell
    have HD := Lib.hid (dueDrop_none hr2.dblk hr2.dmap k)
    have HR2 := Lib.hid hr2
    have HS2 := Lib.hid st2
    clear hr2 st2 hm2 HR hc)
  unfold txt at HD
  refine HD.out.mono ?_; rintro e w3 ⟨rfl, rfl⟩
  go_wp2_with fail
  go_end0
  exact ⟨rfl, HR2.out, HS2.out⟩
set_option maxRecDepth 10000 in
set_option maxHeartbeats 1000000 in
theorem drop_some (h : SpI o w q p S c) (k : List UInt8) {H : Hd} (hS : S k = some H) (hc : c ≤ 4611686018427387904) :
    Calls Tryz.prog 122 #[.pointer (some ⟨p, 0, none⟩), txt k] w fun e w' => e = .returned (.bool true) ∧ ∃ o', SpI o' w' q p (S.del k) (c + 1) ∧ Stp q o w o' w' := by
  obtain ⟨m, d, m2, a, kvs, h⟩ := h
  have hv := h.vals k
  rw [hS] at hv
  cases hm : mfind kvs k with
  | none => rw [hm] at hv; exact hv.elim
  | some u =>
    rw [hm] at hv
    obtain ⟨l, f, r, rfl, hv3, hsm⟩ := hv
    have hlk := run_look (P := Tryz.prog) h.keys Tryz.underlying69 Tryz.underlying9 k true (zeroHd _)
    rw [hm] at hlk
    obtain ⟨a1, c1, rfl, _⟩ := hv3.list.slice
    obtain ⟨a2, c2, rfl, _⟩ := hv3.fields.slice
    obtain ⟨a3, c3, rfl, _⟩ := hv3.ranked.slice
    obtain ⟨⟨kind, text, list, fields, ranked⟩, due, ver⟩ := H
    have hcl := h.blk.cell
    have h := h.from (r := q ++ [3])
    have hst := Stp.from0 q o w (q ++ [3])
    have hnew : ∀ b, w.heap.size ≤ b → o.from w.heap.size (q ++ [3]) b = q ++ [3] := fun b hb => Roles.from_new hb
    generalize o.from w.heap.size (q ++ [3]) = o1 at *
    obtain ⟨w1, hw1⟩ : ∃ w1, w1 = w.alloc (.cells #[.int .i64 kind, .string ⟨text.toArray⟩, .slice a1 list.length c1, .slice a2 fields.length c2, .slice a3 ranked.length c3, .int .i64 due, .int .u64 ver] 95) := ⟨_, rfl⟩
    have hB : Below w.heap.size w w1 := by rw [hw1]; exact (Below.refl _ _).alloc (Nat.le_refl _) _
    have HR1 := Lib.hid (h.below hB)
    have HST := Lib.hid (hst.trans (Stp.ofBelow q o1 hB))
    clear h hm hS hv3 hsm hst hnew hB
    unfold txt at *
    simp only [Option.getD_some, Option.isSome_some, if_true] at hlk
    go_enter Tryz.func122, Tryz.ntmps122
    go_wp2_with fail
    rw [← hw1]
    clear hw1 hlk hcl
    refine (touch_ok HR1.out k hc).mono ?_; rintro e w3 ⟨rfl, hw3⟩
    have hR3 : SpR o1 w3 q p m d m2 a kvs S (c + 1) := by rw [hw3]; exact HR1.out.touched
    have hST3 : Stp q o1 w1 o1 w3 := by rw [hw3]; exact (Stp.refl q o1 w1).setCell (by show q <+: o1 p; rw [HR1.out.blk.role]; exact List.prefix_refl _) _
    have HR3 := Lib.hid hR3
    have HST3 := Lib.hid (HST.out.trans hST3)
    clear hw3 hR3 hST3 HST HR1
    go_wp2_with fail
    refine (free_ok HR3.out k).mono ?_; rintro e w4 ⟨rfl, hR4, st4⟩
    have HR4 := Lib.hid hR4
    have HST4 := Lib.hid (HST3.out.trans (st4.wide (List.prefix_append _ _)))
    clear hR4 st4 HR3 HST3
    go_wp2_with fail
    refine (note_ok HR4.out _ _ _ _ _ _ _ _).mono ?_
    rintro e w6 ⟨rfl, hB6⟩
    have HB6 := Lib.hid hB6
    clear hB6
    go_wp2_with fail
    go_ret
    exact ⟨rfl, o1, ⟨m, d, m2, a, _, HR4.out.below HB6.out⟩, HST4.out.trans (Stp.ofBelow q o1 HB6.out)⟩
end
end Go.Proofs.YtgmmeeikjofefaaGreatDoor
