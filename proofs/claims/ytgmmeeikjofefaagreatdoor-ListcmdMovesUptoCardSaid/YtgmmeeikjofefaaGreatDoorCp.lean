import Derived.Test.YtgmmeeikjofefaaGreatDoorCl
namespace Go.Proofs.YtgmmeeikjofefaaGreatDoor
open Go Go.RowKit
/-! A value of a key: what it is, and value.Copy. -/
structure VV where
  kind : Int
  text : List UInt8
  list : List (List UInt8)
  fields : List (List UInt8 × List UInt8)
  ranked : List (List UInt8 × Int)
def fieldsC (l : List (List UInt8 × List UInt8)) : List Value := l.flatMap fun p => [txt p.1, txt p.2]
def rankedC (l : List (List UInt8 × Int)) : List Value := l.flatMap fun p => [txt p.1, .int .i64 p.2]
abbrev valV (V : VV) (l f r : Value) : Value := .agg #[.int .i64 V.kind, .string ⟨V.text.toArray⟩, l, f, r]
structure Val3 (A : Nat → Prop) (w : World) (V : VV) (l f r : Value) : Prop where
  list : Vw A w l 1 V.list.length (V.list.map txt)
  fields : Vw A w f 2 V.fields.length (fieldsC V.fields)
  ranked : Vw A w r 2 V.ranked.length (rankedC V.ranked)
structure VSmall (V : VV) : Prop where
  text : V.text.length ≤ 1099511627776
  list : V.list.length ≤ 1099511627776
  fields : V.fields.length ≤ 1099511627776
  ranked : V.ranked.length ≤ 1099511627776
theorem one_txts {α : Type} (f : α → List UInt8) (l : List α) : ∀ u ∈ l.map (fun x => txt (f x)), u.oneCell' = true := by
  intro u hu
  obtain ⟨x, _, rfl⟩ := List.mem_map.1 hu
  rfl
theorem one_list (l : List (List UInt8)) : ∀ u ∈ l.map txt, u.oneCell' = true := one_txts id l
theorem one_fields (l : List (List UInt8 × List UInt8)) : ∀ u ∈ fieldsC l, u.oneCell' = true := by
  intro u hu
  obtain ⟨x, _, hx⟩ := List.mem_flatMap.1 hu
  simp at hx
  rcases hx with rfl | rfl <;> rfl
theorem one_ranked (l : List (List UInt8 × Int)) : ∀ u ∈ rankedC l, u.oneCell' = true := by
  intro u hu
  obtain ⟨x, _, hx⟩ := List.mem_flatMap.1 hu
  simp at hx
  rcases hx with rfl | rfl <;> rfl
section
variable {A B : Nat → Prop} {o o' : Roles} {w w' : World} {V : VV} {l f r : Value} {q : List Nat}
theorem Val3.imp (h : Val3 A w V l f r) (hA : ∀ b, A b → B b) : Val3 B w V l f r := ⟨h.list.imp hA, h.fields.imp hA, h.ranked.imp hA⟩
theorem Val3.below (h : Val3 A w V l f r) (hB : Below w.heap.size w w') : Val3 A w' V l f r := ⟨h.list.below hB, h.fields.below hB, h.ranked.below hB⟩
theorem Val3.drewN (h : Val3 A w V l f r) (k : Nat) : Val3 A (w.drewN k) V l f r := ⟨h.list.drewN k, h.fields.drewN k, h.ranked.drewN k⟩
theorem Val3.keep {s : List Nat} (h : Val3 (fun b => o b = q) w V l f r) (st : Stp s o w o' w') (hn : ¬ s <+: q) : Val3 (fun b => o' b = q) w' V l f r := ⟨h.list.keep st hn, h.fields.keep st hn, h.ranked.keep st hn⟩
theorem Val3.stay (h : Val3 A w V l f r) (hs : w.heap.size ≤ w'.heap.size) (hb : ∀ b, A b → b < w.heap.size → w'.heap[b]? = w.heap[b]?) : Val3 A w' V l f r := ⟨h.list.stay hs hb, h.fields.stay hs hb, h.ranked.stay hs hb⟩
end
def CopyDid (w : World) (V : VV) (e : Ending) (w' : World) : Prop :=
  ∃ l f r, e = .returned (valV V l f r) ∧ Val3 (fun b => w.heap.size ≤ b) w' V l f r ∧ Below w.heap.size w w'
theorem heap_set_far {w : World} {a : Addr} {v : Value} {b : Nat} (h : b ≠ a.block) : (w.setCell a v).heap[b]? = w.heap[b]? := Below.heap_setCell _ _ _ _ h
set_option maxRecDepth 10000 in
set_option maxHeartbeats 1000000 in
theorem copy_ok {A : Nat → Prop} {w : World} {V : VV} {l f r : Value} (h : Val3 A w V l f r) (hs : VSmall V) : Calls Tryz.prog 91 #[valV V l f r] w (CopyDid w V) := by
  obtain ⟨kind, text, list, fields, ranked⟩ := V
  obtain ⟨hl, hf, hr⟩ := h
  obtain ⟨_, hs1, hs2, hs3⟩ := hs
  dsimp only at hl hf hr hs1 hs2 hs3
  have HF := Lib.hid hf
  have HR := Lib.hid hr
  let W1 : World := (w.alloc (.cells #[.int .i64 kind, .string ⟨text.toArray⟩, l, f, r] 49)).alloc (.cells #[.int .i64 0, .string ⟨#[]⟩, .slice none 0 0, .slice none 0 0, .slice none 0 0] 49)
  have hB1 : Below w.heap.size w W1 := ((Below.refl w.heap.size w).alloc (Nat.le_refl _) _).alloc (by simp) _
  have hz1 : W1.heap.size = w.heap.size + 2 := by simp [W1]
  have hb1 : Blk none0 W1 [] w.heap.size #[.int .i64 kind, .string ⟨text.toArray⟩, l, f, r] 49 := ⟨by rw [Below.heap_alloc _ _ _ (by simp)]; exact heap_alloc_new w _, rfl⟩
  have hd1 : Blk none0 W1 [] (w.heap.size + 1) #[.int .i64 0, .string ⟨#[]⟩, .slice none 0 0, .slice none 0 0, .slice none 0 0] 49 := ⟨by rw [show w.heap.size + 1 = (w.alloc (.cells #[.int .i64 kind, .string ⟨text.toArray⟩, l, f, r] 49)).heap.size from by simp]; exact heap_alloc_new _ _, rfl⟩
  have HC1 := Lib.hid (cloneS_ok (hl.below hB1) (one_list list) hs1)
  have HB1 := Lib.hid hB1
  have HZ1 := Lib.hid hz1
  have Hb1 := Lib.hid hb1
  have Hd1 := Lib.hid hd1
  have hc1 := hb1.cell
  clear hl hf hr hB1 hz1 hb1 hd1
  go_enter Tryz.func91, Tryz.ntmps91
  go_wp2_with fail
  refine HC1.out.mono ?_; rintro e w2a ⟨l1, rfl, hF1⟩
  have HF1 := Lib.hid hF1
  clear hF1 hc1 HC1
  go_wp2_with fail
  refine (clipS_ok HF1.out.vw).mono ?_; rintro e w2 ⟨_, rfl, rfl, hv2⟩
  obtain ⟨a2, c2, rfl, _, _, _⟩ := id hv2.slice
  have hb2 := Hb1.out.below HF1.out.below
  have hd2 := Hd1.out.below HF1.out.below
  have hz2 : w.heap.size + 2 ≤ w2.heap.size := by have := HF1.out.below.size; have := HZ1.out; omega
  have hB2 : Below w.heap.size w w2 := HB1.out.trans (HF1.out.below.mono (by have := HZ1.out; omega))
  have hl3 : Vw (fun b => w.heap.size + 2 ≤ b) (w2.setCell ⟨w.heap.size, 2, none⟩ (.slice a2 list.length c2)) (.slice a2 list.length c2) 1 list.length (list.map txt) :=
    (hv2.imp (fun b hb => by have := HZ1.out; omega)).stay (by simp) (fun b hb _ => heap_set_far (by show b ≠ w.heap.size; omega))
  have hB3 : Below w.heap.size w (w2.setCell ⟨w.heap.size, 2, none⟩ (.slice a2 list.length c2)) := hB2.setCell (Nat.le_refl _) _
  have hc2 := hb2.cell
  have hfr2 := hb2.free
  have HC2 := Lib.hid (cloneF_ok (HF.out.below hB3) (one_fields fields) hs2)
  have Hb3 := Lib.hid (hb2.setCell 2 (.slice a2 list.length c2))
  have Hd3 := Lib.hid (hd2.setOther ⟨w.heap.size, 2, none⟩ (.slice a2 list.length c2) (by simp))
  have HL3 := Lib.hid hl3
  have HB3 := Lib.hid hB3
  clear hv2 hb2 hd2 hB2 hl3 hB3 HF1 Hb1 Hd1 HB1
  go_wp2_with fail
  refine HC2.out.mono ?_; rintro e w4a ⟨f1, rfl, hF1⟩
  have HF1 := Lib.hid hF1
  clear hF1 HC2 hc2 hfr2
  go_wp2_with fail
  refine (clipF_ok HF1.out.vw).mono ?_; rintro e w4 ⟨_, rfl, rfl, hv2⟩
  obtain ⟨a4, c4, rfl, _, _, _⟩ := id hv2.slice
  have hb2 := Hb3.out.below HF1.out.below
  have hd2 := Hd3.out.below HF1.out.below
  have hl4 := HL3.out.below HF1.out.below
  have hs4 : w2.heap.size ≤ w4.heap.size := by have := HF1.out.below.size; simpa using this
  have hB2 : Below w.heap.size w w4 := HB3.out.trans (HF1.out.below.mono (by simp; omega))
  have hl5 : Vw (fun b => w.heap.size + 2 ≤ b) (w4.setCell ⟨w.heap.size, 3, none⟩ (.slice a4 fields.length c4)) (.slice a2 list.length c2) 1 list.length (list.map txt) :=
    hl4.stay (by simp) (fun b hb _ => heap_set_far (by show b ≠ w.heap.size; omega))
  have hf5 : Vw (fun b => w.heap.size + 2 ≤ b) (w4.setCell ⟨w.heap.size, 3, none⟩ (.slice a4 fields.length c4)) (.slice a4 fields.length c4) 2 fields.length (fieldsC fields) :=
    (hv2.imp (fun b hb => by simp at hb; omega)).stay (by simp) (fun b hb _ => heap_set_far (by show b ≠ w.heap.size; omega))
  have hB5 : Below w.heap.size w (w4.setCell ⟨w.heap.size, 3, none⟩ (.slice a4 fields.length c4)) := hB2.setCell (Nat.le_refl _) _
  have hc4 := hb2.cell
  have hfr4 := hb2.free
  have HC3 := Lib.hid (cloneR_ok (HR.out.below hB5) (one_ranked ranked) hs3)
  have Hb5 := Lib.hid (hb2.setCell 3 (.slice a4 fields.length c4))
  have Hd5 := Lib.hid (hd2.setOther ⟨w.heap.size, 3, none⟩ (.slice a4 fields.length c4) (by simp))
  have HL5 := Lib.hid hl5
  have HF5 := Lib.hid hf5
  have HB5 := Lib.hid hB5
  clear hv2 hb2 hd2 hB2 hl4 hl5 hf5 hB5 HF1 Hb3 Hd3 HL3 HB3
  go_wp2_with fail
  refine HC3.out.mono ?_; rintro e w6a ⟨r1, rfl, hF1⟩
  have HF1 := Lib.hid hF1
  clear hF1 HC3 hc4 hfr4
  go_wp2_with fail
  refine (clipR_ok HF1.out.vw).mono ?_; rintro e w6 ⟨_, rfl, rfl, hv2⟩
  obtain ⟨a6, c6, rfl, _, _, _⟩ := id hv2.slice
  have hb2 := Hb5.out.below HF1.out.below
  have hd2 := Hd5.out.below HF1.out.below
  have hs6 : w4.heap.size ≤ w6.heap.size := by have := HF1.out.below.size; simpa using this
  have hB2 : Below w.heap.size w w6 := HB5.out.trans (HF1.out.below.mono (by simp; omega))
  have hv6 : Val3 (fun b => w.heap.size + 2 ≤ b) w6 ⟨kind, text, list, fields, ranked⟩ (.slice a2 list.length c2) (.slice a4 fields.length c4) (.slice a6 ranked.length c6) :=
    ⟨HL5.out.below HF1.out.below, HF5.out.below HF1.out.below, hv2.imp (fun b hb => by simp at hb; omega)⟩
  have hc6 := hb2.cell
  have hfr6 := hb2.free
  have hcd6 := hd2.cell
  have hfd6 := hd2.free
  have HV6 := Lib.hid hv6
  have HB6 := Lib.hid hB2
  clear hv2 hb2 hd2 hB2 hv6 HF1 Hb5 Hd5 HL5 HF5 HB5
  go_wp2_with fail
  refine bodyPost_ret (v := valV ⟨kind, text, list, fields, ranked⟩ (.slice a2 list.length c2) (.slice a4 fields.length c4) (.slice a6 ranked.length c6)) (by simp [results, Tryz.results91, go_sem, valV, hcd6]) rfl ⟨_, _, _, rfl, ?_, ?_⟩
  · refine (HV6.out.stay (by simp) (fun b hb _ => ?_)).imp (fun b hb => Nat.le_trans (Nat.le_add_right _ _) hb)
    iterate 5 rw [heap_set_far (by show b ≠ w.heap.size + 1; omega)]
    rw [heap_set_far (by show b ≠ w.heap.size; omega)]
  · iterate 6 refine Below.setCell ?_ (by simp) _
    exact HB6.out
end Go.Proofs.YtgmmeeikjofefaaGreatDoor
