import Derived.Test.YthojmgjgmbnopaaGreatDoorXE
import Derived.Deep.RegionHeld
namespace Go.Proofs.YthojmgjgmbnopaaGreatDoor
open Go Go.RowKit
/-! space.SetDue at a key that is there. -/
section
variable {o : Roles} {w : World} {q : List Nat} {p : Nat} {c : Cnt} {S : SP}
theorem SpR.keep4 {o' : Roles} {w' : World} {m d a : Nat} {kvs : KV} (h : SpR o w q p m d a kvs S c) (st : Stp (q ++ [4]) o w o' w') : SpR o' w' q p m d a kvs S c :=
  ⟨h.blk.keep st np1, h.keys.keep st (np0 (by decide)), h.nodup, h.due.keep st (ap_tail (by decide)), fun j => (h.vals j).map fun _ _ _ _ hv => hv.keep st (np0 (by decide)), h.lim⟩
set_option maxRecDepth 10000 in
set_option maxHeartbeats 4000000 in
theorem jsetdue_ok (h : SpJ o w q p S c) (k : List UInt8) {H : Hd} (hS : S k = some H) (nd : Int) (hd0 : 0 ≤ nd) (hd1 : nd ≤ 9007199254740992) (hc : c.num ≤ 4611686018427387904) (hfew : c.few ≤ 1099511627776) :
    Calls Tryz.prog 129 #[.pointer (some ⟨p, 0, none⟩), txt k, .int .i64 nd] w fun e w' => e = .returned (.bool true) ∧ ∃ o', SpJ o' w' q p (S.put k ⟨H.v, nd, c.num + 1⟩) c.next ∧ Stp q o w o' w' := by
  obtain ⟨m, d, a, kvs, h⟩ := h
  have hv := h.vals k
  rw [hS] at hv
  cases hm : mfind kvs k with
  | none => rw [hm] at hv; exact hv.elim
  | some u =>
    rw [hm] at hv
    obtain ⟨l, f, r, rfl, hv3, hsm⟩ := hv
    have hlk := run_look (P := Tryz.prog) h.keys Tryz.underlying115 Tryz.underlying9 k true (zeroHd _)
    rw [hm] at hlk
    obtain ⟨a1, c1, rfl, _⟩ := hv3.list.slice
    obtain ⟨a2, c2, rfl, _⟩ := hv3.fields.slice
    obtain ⟨a3, c3, rfl, _⟩ := hv3.ranked.slice
    obtain ⟨⟨kind, text, list, fields, ranked⟩, due, ver⟩ := H
    have hcl := h.blk.cell
    obtain ⟨w1, hw1⟩ : ∃ w1, w1 = w.alloc (.cells #[.int .i64 kind, .string ⟨text.toArray⟩, .slice a1 list.length c1, .slice a2 fields.length c2, .slice a3 ranked.length c3, .int .i64 due, .int .u64 ver] 95) := ⟨_, rfl⟩
    have hB : Below w.heap.size w w1 := by rw [hw1]; exact (Below.refl _ _).alloc (Nat.le_refl _) _
    obtain ⟨o1, ho1⟩ : ∃ o1, o1 = (o.from w.heap.size (q ++ [3])).put w.heap.size (q ++ [4]) := ⟨_, rfl⟩
    have hst0 : Stp (q ++ [4]) o w o1 w1 := by
      rw [ho1, hw1]
      exact (Stp.from0 (q ++ [4]) o w (q ++ [3])).alloc (r' := q ++ [4]) _ w.heap.size rfl
    have hx1 : Blk o1 w1 (q ++ [4]) w.heap.size #[.int .i64 kind, .string ⟨text.toArray⟩, .slice a1 list.length c1, .slice a2 fields.length c2, .slice a3 ranked.length c3, .int .i64 due, .int .u64 ver] 95 := ⟨by rw [hw1]; exact heap_alloc_new w _, by rw [ho1]; exact Roles.put_same _ _ _⟩
    have HR1 := Lib.hid (h.keep4 hst0)
    have HX1 := Lib.hid hx1
    have HV1 := Lib.hid (hv3.keep hst0 (np0 (by decide)))
    have HST := Lib.hid (hst0.wide (List.prefix_append q [4]))
    have HNEW := Lib.hid (show ∀ b, w.heap.size < b → o1 b = q ++ [3] from fun b hb => by rw [ho1, Roles.put_other (by omega)]; exact Roles.from_new (by omega))
    have hsz1 : w.heap.size < w1.heap.size := hx1.lt
    have HSZ := Lib.hid hsz1
    clear hst0 ho1
    clear h hm hS hv3 hB hx1 hsz1
    unfold txt at *
    simp only [Option.getD_some, Option.isSome_some, if_true] at hlk
    go_enter Tryz.func129, Tryz.ntmps129
    go_wp2_with fail
    refine (tick_ok _ nd hd0 hd1).mono ?_; rintro e w2 ⟨rfl, hw2⟩
    subst hw2
    go_wp2_with fail
    rw [← hw1]
    clear hw1 hlk hcl
    refine (touch_ok HR1.out k hc).mono ?_; rintro e w3 ⟨rfl, hw3⟩
    have hR3 : SpR o1 w3 q p m d a kvs S c.touch := by rw [hw3]; exact HR1.out.touched
    have hsp : Stp q o1 w1 o1 w3 := by rw [hw3]; exact (Stp.refl q o1 w1).setCell (by show q <+: o1 p; rw [HR1.out.blk.role]; exact List.prefix_refl _) _
    have hne : w2.heap.size ≠ p := fun e => by
      have h1 := HX1.out.role
      have h2 := HR1.out.blk.role
      rw [e, h2] at h1
      simp at h1
    have hX3 : Blk o1 w3 (q ++ [4]) w2.heap.size #[.int .i64 kind, .string ⟨text.toArray⟩, .slice a1 list.length c1, .slice a2 fields.length c2, .slice a3 ranked.length c3, .int .i64 due, .int .u64 ver] 95 := by
      rw [hw3]; exact HX1.out.setOther _ _ hne
    have hV3 := HV1.out.stay (w' := w3) (by rw [hw3]; simp) (fun b hb _ => by
      rw [hw3]
      refine heap_set_far ?_
      intro e
      have h2 : o1 p = q := HR1.out.blk.role
      have hb' : o1 b = q ++ [3] := hb
      rw [show b = p from e, h2] at hb'
      simp at hb')
    have hc3 := hR3.blk.cell
    have hxc3 := hX3.cell
    have hxf3 := hX3.free
    have hs3 : w3.heap.size = w1.heap.size := by rw [hw3]; simp
    have HNE := Lib.hid hne
    have HR3 := Lib.hid hR3
    have HX3 := Lib.hid hX3
    have HV3 := Lib.hid hV3
    have HS3 := Lib.hid hs3
    have HST3 := Lib.hid (HST.out.trans hsp)
    clear hw3 hR3 hX3 hV3 hsp HR1 HX1 HV1 HST hs3
    have hlay : ∀ W, Stp (q ++ [4]) o1 w3 o1 W → Calls Tryz.prog 76 #[.pointer (some ⟨p, 0, none⟩), .string ⟨k.toArray⟩, .agg #[.int .i64 kind, .string ⟨text.toArray⟩, .slice a1 list.length c1, .slice a2 fields.length c2, .slice a3 ranked.length c3, .int .i64 nd, .int .u64 (c.touch.num : Int)]] W fun e w' => e = .returned (.tuple #[]) ∧ ∃ o' kvs', SpR o' w' q p m d a kvs' (S.put k ⟨⟨kind, text, list, fields, ranked⟩, nd, c.num + 1⟩) c.next ∧ Stp q o w2 o' w' ∧ Lay2 q o1 W o' w' := fun W hW => by
      refine (lay_ok (HR3.out.keep4 hW) (fun b hb => HNEW.out b (by have := HSZ.out; have := HS3.out; have := hW.size; omega)) k (H := ⟨⟨kind, text, list, fields, ranked⟩, nd, c.num + 1⟩) (HV3.out.keep hW (np0 (by decide))) hsm hd0 hd1 (by show c.few ≤ _; omega)).mono ?_
      rintro e w' ⟨rfl, o', kvs', hR, st⟩
      exact ⟨rfl, o', kvs', hR, HST3.out.trans ((hW.wide (List.prefix_append q [4])).trans st.stp), st⟩
    have hsa : Stp (q ++ [4]) o1 w3 o1 (((w3.setCell ⟨w2.heap.size, 5, none⟩ (.int .i64 nd)).setCell ⟨w2.heap.size, 6, none⟩ (.int .u64 (c.touch.num : Int))).drew) := by
      refine Stp.drew ?_
      refine Stp.setCell (Stp.setCell (Stp.refl _ _ _) ?_ _) ?_ _ <;> (show q ++ [4] <+: o1 w2.heap.size; rw [HX3.out.role]; exact List.prefix_refl _)
    have hsb : Stp (q ++ [4]) o1 w3 o1 (((w3.setCell ⟨w2.heap.size, 6, none⟩ (.int .u64 (c.touch.num : Int))).setCell ⟨w2.heap.size, 5, none⟩ (.int .i64 nd)).drew) := by
      refine Stp.drew ?_
      refine Stp.setCell (Stp.setCell (Stp.refl _ _ _) ?_ _) ?_ _ <;> (show q ++ [4] <+: o1 w2.heap.size; rw [HX3.out.role]; exact List.prefix_refl _)
    have HLA := Lib.hid (hlay _ hsa)
    have HLB := Lib.hid (hlay _ hsb)
    clear hlay hsa hsb
    go_wp2_with fail
    go_region_with (fail)
    all_goals (
      clear HR3 HV3 HST3
      go_wp2_with fail
      first
      | refine HLA.out.mono ?_
      | refine HLB.out.mono ?_
      rintro e w5 ⟨rfl, o5, kvs5, hR5, hst5, hl5⟩
      have HR5 := Lib.hid hR5
      have HST5 := Lib.hid hst5
      clear hR5 hst5 hl5 HLA HLB hc3 hxc3 hxf3
      go_wp2_with fail
      refine (note_ok HR5.out _ _ _ _ _ _ _ _).mono ?_
      rintro e w6 ⟨rfl, hB6⟩
      have HB6 := Lib.hid hB6
      clear hB6
      go_wp2_with fail
      go_ret
      exact ⟨rfl, o5, ⟨m, d, a, kvs5, HR5.out.below HB6.out⟩, HST5.out.trans (Stp.ofBelow q o5 HB6.out)⟩)
end
end Go.Proofs.YthojmgjgmbnopaaGreatDoor
