import Derived.Test.YtgmmeeikjofefaaGreatDoorPu
namespace Go.Proofs.YtgmmeeikjofefaaGreatDoor
open Go Go.RowKit
section
variable {o : Roles} {w : World} {q : List Nat} {p c : Nat} {S : SP}
def PutDid (o : Roles) (w : World) (q : List Nat) (p : Nat) (S : SP) (c : Nat) (e : Ending) (w' : World) : Prop :=
  e = .returned (.int .i64 0) ∧ ∃ o', SpI o' w' q p S c ∧ Stp q o w o' w'
set_option maxRecDepth 10000 in
set_option maxHeartbeats 4000000 in
theorem put_ok {A : Nat → Prop} {V : VV} {l f r : Value} (h : SpI o w q p S c) (k : List UInt8) (hv : Val3 A w V l f r) (hs : VSmall V) (hA : ∀ b, A b → b ≠ p)
    (hck : ∀ W, Below w.heap.size w W → Calls Tryz.prog 87 #[valV V l f r] W fun e w' => e = .returned (.int .i64 0) ∧ Below W.heap.size W w') (hc : c ≤ 4611686018427387904) :
    Calls Tryz.prog 44 #[.pointer (some ⟨p, 0, none⟩), txt k, valV V l f r, .int .i64 0] w (PutDid o w q p (S.put k ⟨V, 0, c + 1⟩) (c + 1)) := by
  obtain ⟨m, d, m2, a, kvs, h⟩ := h
  obtain ⟨a1, c1, e1, _⟩ := hv.list.slice
  obtain ⟨a2, c2, e2, _⟩ := hv.fields.slice
  obtain ⟨a3, c3, e3, _⟩ := hv.ranked.slice
  subst e1 e2 e3
  have h := h.from (r := q ++ [3])
  have hst := Stp.from0 q o w (q ++ [3])
  have hnew : ∀ b, w.heap.size ≤ b → o.from w.heap.size (q ++ [3]) b = q ++ [3] := fun b hb => Roles.from_new hb
  generalize o.from w.heap.size (q ++ [3]) = o1 at *
  obtain ⟨w1, hw1⟩ : ∃ w1, w1 = w.alloc (.cells #[.int .i64 V.kind, .string ⟨V.text.toArray⟩, .slice a1 V.list.length c1, .slice a2 V.fields.length c2, .slice a3 V.ranked.length c3] 49) := ⟨_, rfl⟩
  have hB : Below w.heap.size w w1 := by rw [hw1]; exact (Below.refl _ _).alloc (Nat.le_refl _) _
  have hbx : Blk o1 w1 (q ++ [3]) w.heap.size #[.int .i64 V.kind, .string ⟨V.text.toArray⟩, .slice a1 V.list.length c1, .slice a2 V.fields.length c2, .slice a3 V.ranked.length c3] 49 := ⟨by rw [hw1]; exact heap_alloc_new w _, hnew _ (Nat.le_refl _)⟩
  have HR1 := Lib.hid (h.below hB)
  have HB1 := Lib.hid hB
  have HX1 := Lib.hid hbx
  have HST := Lib.hid hst
  have HNEW := Lib.hid hnew
  have HCK := Lib.hid (hck w1 hB)
  have HCP := Lib.hid (fun W (hB : Below w.heap.size w W) => hv.below hB)
  have hbc1 := hbx.cell
  obtain ⟨kind, text, list, fields, ranked⟩ := V
  dsimp only at *
  clear h hv hB hbx hst hnew hck
  unfold txt at *
  go_enter Tryz.func44, Tryz.ntmps44
  go_wp2_with fail
  rw [← hw1]
  clear hw1
  refine HCK.out.mono ?_; rintro e w2 ⟨rfl, hB2⟩
  have hR2 := HR1.out.below hB2
  have HX2 := Lib.hid (HX1.out.below hB2)
  have HB2 := Lib.hid (HB1.out.trans (hB2.mono HB1.out.size))
  have HR2 := Lib.hid hR2
  clear hB2 hbc1 HR1 HB1 HX1 HCK hR2
  go_wp2_with fail
  refine (tick_ok _ _ (by decide) (by decide)).mono ?_; rintro e w2' ⟨rfl, rfl⟩
  go_wp2_with fail
  refine (touch_ok HR2.out k hc).mono ?_; rintro e w3 ⟨rfl, hw3⟩
  have hR3 : SpR o1 w3 q p m d m2 a kvs S (c + 1) := by rw [hw3]; exact HR2.out.touched
  have hST3 : Stp q o1 w2' o1 w3 := by rw [hw3]; exact (Stp.refl q o1 w2').setCell (by show q <+: o1 p; rw [HR2.out.blk.role]; exact List.prefix_refl _) _
  have hX3 : Blk o1 w3 (q ++ [3]) w.heap.size #[.int .i64 kind, .string ⟨text.toArray⟩, .slice a1 list.length c1, .slice a2 fields.length c2, .slice a3 ranked.length c3] 49 := by
    rw [hw3]
    refine HX2.out.setOther _ _ (fun e => ?_)
    have h1 := HX2.out.role
    rw [e] at h1
    have h2 : o1 p = q ++ [3] := h1
    rw [HR2.out.blk.role] at h2
    simp at h2
  have hc3 := hR3.blk.cell
  have hbc3 := hX3.cell
  have hs3 : w2'.heap.size = w3.heap.size := by rw [hw3]; simp
  have hcp : Calls Tryz.prog 91 #[.agg #[.int .i64 kind, .string ⟨text.toArray⟩, .slice a1 list.length c1, .slice a2 fields.length c2, .slice a3 ranked.length c3]] (World.drew w3) (CopyDid (World.drew w3) ⟨kind, text, list, fields, ranked⟩) := by
    have hv2 := HCP.out w2' HB2.out
    have hv3 := hv2.stay (w' := w3) (by omega) (fun b hb _ => by rw [hw3]; exact heap_set_far (hA b hb))
    exact copy_ok (V := ⟨kind, text, list, fields, ranked⟩) (hv3.below (Below.refl _ w3).drew) hs
  have HX3 := Lib.hid hX3
  have HR3 := Lib.hid hR3
  have HST3 := Lib.hid (HST.out.trans ((Stp.ofBelow q o1 HB2.out).trans hST3))
  have HSZ := Lib.hid (show w.heap.size ≤ w3.heap.size by have := HB2.out.size; omega)
  have HCP3 := Lib.hid hcp
  clear hw3 hR3 hST3 hX3 hcp HR2 HX2 HB2 HST HCP hs3
  go_wp2_with fail
  go_region_with (first
    | (go_at_call 91
       (with_reducible refine HCP3.out.mono ?_)
       rintro e w4 ⟨l4, f4, r4, rfl, hv4, hB4⟩
       have hB4' : Below w3.heap.size w3 w4 := (Below.refl _ w3).drew.trans hB4
       obtain ⟨b1, d1, rfl, _⟩ := id hv4.list.slice
       obtain ⟨b2, d2, rfl, _⟩ := id hv4.fields.slice
       obtain ⟨b3, d3, rfl, _⟩ := id hv4.ranked.slice
       have hR4 := HR3.out.below hB4'
       have HX4 := Lib.hid (HX3.out.below hB4')
       have hc4 := hR4.blk.cell
       have HLY := Lib.hid (show Calls Tryz.prog 90 #[.pointer (some ⟨p, 0, none⟩), .string ⟨k.toArray⟩, .agg #[.int .i64 kind, .string ⟨text.toArray⟩, .slice b1 list.length d1, .slice b2 fields.length d2, .slice b3 ranked.length d3, .int .i64 0, .int .u64 ((c : Int) + 1)]] w4 _ from lay_ok hR4 (fun b hb => HNEW.out b (Nat.le_trans HSZ.out (Nat.le_trans hB4'.size hb))) k (H := ⟨⟨kind, text, list, fields, ranked⟩, 0, c + 1⟩) (hv4.imp (fun b hb => HNEW.out b (Nat.le_trans HSZ.out hb))) hs rfl)
       have HST4 := Lib.hid (HST3.out.trans (Stp.ofBelow q o1 hB4'))
       clear hv4 hB4 hB4' hR4)
    | (go_at_call 90
       (with_reducible refine HLY.out.mono ?_)
       rintro e w5 ⟨rfl, hR5, st5⟩
       have HR5 := Lib.hid hR5
       have HX5 := Lib.hid (HX4.out.keep st5 (np0 (by decide)))
       have HST5 := Lib.hid (HST4.out.trans (st5.wide (List.prefix_append _ _)))
       clear hR5 st5 HX4 HST4 HLY))
  all_goals (
    obtain ⟨kvs5, hR5⟩ := HR5.out
    have hc5 := hR5.blk.cell
    have hbc5 := HX5.out.cell
    clear hc3 hbc3 hc4
    go_wp2_with fail
    refine (note_ok hR5 _ _ _ _ _ _ _ _).mono ?_
    rintro e w6 ⟨rfl, hB6⟩
    have HB6 := Lib.hid hB6
    clear hB6 hc5 hbc5
    go_wp2_with fail
    go_ret
    exact ⟨rfl, o1, ⟨m, d, m2, a, kvs5, hR5.below HB6.out⟩, HST5.out.trans (Stp.ofBelow q o1 HB6.out)⟩)
end
end Go.Proofs.YtgmmeeikjofefaaGreatDoor
