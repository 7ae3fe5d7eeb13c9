import Derived.Test.YtgmmeeikjofefaaGreatDoorSo
namespace Go.Proofs.YtgmmeeikjofefaaGreatDoor
open Go Go.RowKit
/-! table.All: all rows, in some order. -/
theorem specsC_get : ∀ (l : List SpecM) (t : Nat), (specsC l)[t]? = if h : t / 7 < l.length then (specC (l[t / 7]'h))[t % 7]? else none
  | [], t => by simp [specsC]
  | x :: l, t => by
    have e : specsC (x :: l) = specC x ++ specsC l := by simp [specsC]
    rw [e]
    by_cases ht : t < 7
    · have h0 : t / 7 = 0 := by omega
      have h1 : t % 7 = t := by omega
      rw [List.getElem?_append_left (by simpa [specC] using ht), dif_pos (by rw [h0]; simp)]
      simp only [h0, h1]
      rfl
    · rw [List.getElem?_append_right (by simpa [specC] using Nat.le_of_not_lt ht)]
      have h7 : (specC x).length = 7 := by simp [specC]
      rw [h7, specsC_get l (t - 7)]
      have h0 : (t - 7) / 7 + 1 = t / 7 := by omega
      have h1 : (t - 7) % 7 = t % 7 := by omega
      by_cases hl : (t - 7) / 7 < l.length
      · rw [dif_pos hl, dif_pos (by simp only [List.length_cons]; omega), h1]
        congr 2
        have : t / 7 = (t - 7) / 7 + 1 := h0.symm
        simp only [this, List.getElem_cons_succ]
      · rw [dif_neg hl, dif_neg (by simp only [List.length_cons]; omega)]
theorem flatK_specs (l : List SpecM) (t : Nat) (ht : t < l.length * 7) : (specsC l)[t]? = some (Sort.flatK specC 7 l.toArray)[t]! := by
  have h7 : t / 7 < l.length := by omega
  rw [specsC_get, dif_pos h7]
  rw [Sort.get_flatK _ _ _ _ (by simpa using ht)]
  have e1 : l.toArray[t / 7]! = l[t / 7] := by rw [getElem!_pos l.toArray (t / 7) (by simpa using h7)]; simp
  rw [e1]
  have hm : t % 7 < (specC (l[t / 7])).length := by simp [specC]; omega
  rw [List.getElem!_eq_getElem?_getD, List.getElem?_eq_getElem hm]
  rfl
theorem sortHeap {α : Type} [Inhabited α] (enc : α → List Value) (k : Nat) (w : World) (blk off n : Nat) (d : Array α) (os : Array Obj) {b : Nat} (hb : b < w.heap.size) (hne : b ≠ blk) : (sortWorldK enc k w blk off n d os).heap[b]? = w.heap[b]? := by
  unfold sortWorldK
  rw [Sort.heap_grow_old _ _ (by simpa [Sort.putRowK, Sort.putRow, Sort.mapBlock] using hb)]
  unfold Sort.putRowK Sort.putRow Sort.mapBlock Sort.ahead
  simp [Array.getElem?_modify, Ne.symm hne]
set_option maxRecDepth 10000 in
theorem sort_ok {w w1 : World} {v : Value} {L : List SpecM} (h : Fresh w w1 107 7 v L.length (specsC L)) (h0 : L ≠ []) (hn : L.length ≤ 1048576) :
    Calls Tryz.prog 155 #[v, .func (.func 156) #[] #[]] w1 fun e w' => e = .returned (.tuple #[]) ∧ ∃ L', L'.Perm L ∧ Vw (fun b => w.heap.size ≤ b) w' v 7 L.length (specsC L') ∧ Below w.heap.size w w' := by
  have eg : ∀ args w, (callFunc 156 args).run Tryz.prog w = .ok (.enter 156 args) w := enters_of Tryz.func156 (by kernel_rfl) rfl
  rcases h.own.2 with ⟨_, h2⟩ | ⟨g, cap, cur, rfl, h2, h3, h4, h5, h6, h7⟩
  · exact absurd (List.eq_nil_of_length_eq_zero h2) h0
  have hlt : g < w1.heap.size := (Array.getElem?_eq_some_iff.1 h3).1
  have hH : Sort.HoldsK specC 7 w1 g 0 L.toArray := by
    intro j hj
    have hj' : j < L.length * 7 := by simpa using hj
    rw [Nat.zero_add]
    refine ⟨?_, ?_⟩
    · have hx := flatK_specs L j hj'
      unfold World.cell?
      simp only [h3]
      have : cur[j]? = (specsC L)[j]? := by rw [← h7, List.getElem?_take, if_pos hj']; simp
      simp only [Option.isSome_none, Bool.false_eq_true, if_false, this, hx]
      rfl
    · unfold World.frozen?
      simp only [h3]
      simp
  have hcon := AnyQ.slices_SortFunc sortSpecs 7 Tryz.isAgg107 Tryz.sizeOf107 specC (fun _ => by simp [specC]) (fun x v hv => specsC_one [x] v (by simpa [specsC] using hv)) cfS cf_swo 156 #[] g 0 cap L.toArray w1 eg (fun _ _ _ _ x y => tCmp_ok x y _) hH hlt (by simp; omega)
  change Calls Tryz.prog 155 _ _ _ at hcon
  rw [List.size_toArray] at hcon
  refine hcon.mono ?_
  rintro e w' ⟨rfl, d', n, os, hp, hs, rfl⟩
  have hsz : d'.size = L.length := by simpa using hp.1
  have hH2 := holdsK_sortWorldK specC 7 w1 g 0 n L.toArray d' os hlt hH (by simpa using hsz)
  refine ⟨rfl, d'.toList, ?_, ⟨⟨_, cap, rfl, h4, h5, .inr ⟨g, 0, rfl, lt_sortWorldK _ _ _ _ _ _ _ _ hlt, h2, fun k u hk => ?_⟩⟩, by rw [specsC_len]; simp [hsz]⟩, ?_⟩
  · have := hp.2.2
    have e : List.take L.length d'.toList = d'.toList := List.take_of_length_le (by simp [hsz])
    simpa [hsz, e] using this
  · have hkl : k < d'.toList.length * 7 := by have := (List.getElem?_eq_some_iff.1 hk).1; rw [specsC_len] at this; exact this
    have hx := flatK_specs d'.toList k hkl
    rw [hk] at hx
    have := (hH2 k (by simpa using hkl)).1
    rw [this]
    simpa using hx.symm
  · refine h.below.trans ⟨rfl, rfl, rfl, size_sortWorldK_c _ _ _ _ _ _ _ _, fun b hb => sortHeap _ _ _ _ _ _ _ _ (Nat.lt_of_lt_of_le hb h.below.size) (by omega)⟩
def allL : List SpecM := controlL ++ textsL ++ keysL ++ listsL ++ hashesL ++ setsL ++ ranksL
def AllDid (w : World) (e : Ending) (w' : World) : Prop := ∃ v L, e = .returned v ∧ L.Perm allL ∧ Vw (fun b => w.heap.size ≤ b) w' v 7 118 (specsC L) ∧ Below w.heap.size w w'
theorem clipSpec_ok {A : Nat → Prop} {w : World} {v : Value} {n : Nat} {xs : List Value} (h : Vw A w v 7 n xs) : Calls Tryz.prog 158 #[v] w fun e w' => ∃ v', e = .returned v' ∧ w' = w ∧ Vw A w v' 7 n xs := by
  obtain ⟨⟨a, cap, rfl, h1, h2, h3⟩, h4⟩ := h
  obtain ⟨i0, hi0, _⟩ := info_parts infoSpec
  have hcut := cut_own (P := Tryz.prog) Tryz.underlying160 hi0 (a := a) h1
  have HD := Lib.hid (show Vw A w (.slice a n n) 7 n xs from ⟨⟨a, n, rfl, Nat.le_refl _, by omega, h3⟩, h4⟩)
  clear h3 h4
  go_enter Tryz.func158, Tryz.ntmps158
  go_wp2
  go_ret
  exact ⟨_, rfl, rfl, HD.out⟩
set_option maxRecDepth 10000 in
set_option maxHeartbeats 1000000 in
theorem all_ok (w : World) : Calls Tryz.prog 118 #[] w (AllDid w) := by
  go_enter Tryz.func118, Tryz.ntmps118
  go_wp2_with fail
  refine (tcontrol_ok _).mono ?_; rintro e w1 ⟨v1, rfl, hv1, hB1⟩
  obtain ⟨a1, c1, rfl, _⟩ := id hv1.slice
  have HB1 := Lib.hid hB1
  have HV1_1 := Lib.hid (hv1.imp (B := fun _ => True) (fun _ _ => trivial))
  clear hv1 hB1
  go_wp2_with fail
  refine (ttexts_ok _).mono ?_; rintro e w2 ⟨v2, rfl, hv2, hB2⟩
  obtain ⟨a2, c2, rfl, _⟩ := id hv2.slice
  have HB2 := Lib.hid (HB1.out.trans (hB2.mono HB1.out.size))
  have HV2_2 := Lib.hid (hv2.imp (B := fun _ => True) (fun _ _ => trivial))
  have HV1_2 := Lib.hid (HV1_1.out.below hB2)
  clear hv2 hB2 HV1_1 HB1
  go_wp2_with fail
  refine (tkeys_ok _).mono ?_; rintro e w3 ⟨v3, rfl, hv3, hB3⟩
  obtain ⟨a3, c3, rfl, _⟩ := id hv3.slice
  have HB3 := Lib.hid (HB2.out.trans (hB3.mono HB2.out.size))
  have HV3_3 := Lib.hid (hv3.imp (B := fun _ => True) (fun _ _ => trivial))
  have HV1_3 := Lib.hid (HV1_2.out.below hB3)
  have HV2_3 := Lib.hid (HV2_2.out.below hB3)
  clear hv3 hB3 HV1_2 HV2_2 HB2
  go_wp2_with fail
  refine (tlists_ok _).mono ?_; rintro e w4 ⟨v4, rfl, hv4, hB4⟩
  obtain ⟨a4, c4, rfl, _⟩ := id hv4.slice
  have HB4 := Lib.hid (HB3.out.trans (hB4.mono HB3.out.size))
  have HV4_4 := Lib.hid (hv4.imp (B := fun _ => True) (fun _ _ => trivial))
  have HV1_4 := Lib.hid (HV1_3.out.below hB4)
  have HV2_4 := Lib.hid (HV2_3.out.below hB4)
  have HV3_4 := Lib.hid (HV3_3.out.below hB4)
  clear hv4 hB4 HV1_3 HV2_3 HV3_3 HB3
  go_wp2_with fail
  refine (thashes_ok _).mono ?_; rintro e w5 ⟨v5, rfl, hv5, hB5⟩
  obtain ⟨a5, c5, rfl, _⟩ := id hv5.slice
  have HB5 := Lib.hid (HB4.out.trans (hB5.mono HB4.out.size))
  have HV5_5 := Lib.hid (hv5.imp (B := fun _ => True) (fun _ _ => trivial))
  have HV1_5 := Lib.hid (HV1_4.out.below hB5)
  have HV2_5 := Lib.hid (HV2_4.out.below hB5)
  have HV3_5 := Lib.hid (HV3_4.out.below hB5)
  have HV4_5 := Lib.hid (HV4_4.out.below hB5)
  clear hv5 hB5 HV1_4 HV2_4 HV3_4 HV4_4 HB4
  go_wp2_with fail
  refine (tsets_ok _).mono ?_; rintro e w6 ⟨v6, rfl, hv6, hB6⟩
  obtain ⟨a6, c6, rfl, _⟩ := id hv6.slice
  have HB6 := Lib.hid (HB5.out.trans (hB6.mono HB5.out.size))
  have HV6_6 := Lib.hid (hv6.imp (B := fun _ => True) (fun _ _ => trivial))
  have HV1_6 := Lib.hid (HV1_5.out.below hB6)
  have HV2_6 := Lib.hid (HV2_5.out.below hB6)
  have HV3_6 := Lib.hid (HV3_5.out.below hB6)
  have HV4_6 := Lib.hid (HV4_5.out.below hB6)
  have HV5_6 := Lib.hid (HV5_5.out.below hB6)
  clear hv6 hB6 HV1_5 HV2_5 HV3_5 HV4_5 HV5_5 HB5
  go_wp2_with fail
  refine (tranks_ok _).mono ?_; rintro e w7 ⟨v7, rfl, hv7, hB7⟩
  obtain ⟨a7, c7, rfl, _⟩ := id hv7.slice
  have HB7 := Lib.hid (HB6.out.trans (hB7.mono HB6.out.size))
  have HV7_7 := Lib.hid (hv7.imp (B := fun _ => True) (fun _ _ => trivial))
  have HV1_7 := Lib.hid (HV1_6.out.below hB7)
  have HV2_7 := Lib.hid (HV2_6.out.below hB7)
  have HV3_7 := Lib.hid (HV3_6.out.below hB7)
  have HV4_7 := Lib.hid (HV4_6.out.below hB7)
  have HV5_7 := Lib.hid (HV5_6.out.below hB7)
  have HV6_7 := Lib.hid (HV6_6.out.below hB7)
  clear hv7 hB7 HV1_6 HV2_6 HV3_6 HV4_6 HV5_6 HV6_6 HB6
  have hcat : CatArg (fun _ => True) (w7.alloc (.cells #[.slice a1 7 c1, .slice a2 24 c2, .slice a3 25 c3, .slice a4 16 c4, .slice a5 14 c5, .slice a6 15 c6, .slice a7 17 c7] 160)) w7.heap.size 0 [(.slice a1 7 c1, controlL), (.slice a2 24 c2, textsL), (.slice a3 25 c3, keysL), (.slice a4 16 c4, listsL), (.slice a5 14 c5, hashesL), (.slice a6 15 c6, setsL), (.slice a7 17 c7, ranksL)] := by
    refine ⟨fun i x hx => ?_, by simp⟩
    have hb := (Below.refl w7.heap.size w7).alloc (Nat.le_refl _) (.cells #[.slice a1 7 c1, .slice a2 24 c2, .slice a3 25 c3, .slice a4 16 c4, .slice a5 14 c5, .slice a6 15 c6, .slice a7 17 c7] 160)
    match i, hx with
    | 0, hx => cases hx; exact ⟨by simp [go_sem], HV1_7.out.below hb⟩
    | 1, hx => cases hx; exact ⟨by simp [go_sem], HV2_7.out.below hb⟩
    | 2, hx => cases hx; exact ⟨by simp [go_sem], HV3_7.out.below hb⟩
    | 3, hx => cases hx; exact ⟨by simp [go_sem], HV4_7.out.below hb⟩
    | 4, hx => cases hx; exact ⟨by simp [go_sem], HV5_7.out.below hb⟩
    | 5, hx => cases hx; exact ⟨by simp [go_sem], HV6_7.out.below hb⟩
    | 6, hx => cases hx; exact ⟨by simp [go_sem], HV7_7.out.below hb⟩
    | i + 7, hx => simp at hx
  have hN : catN [(.slice a1 7 c1, controlL), (.slice a2 24 c2, textsL), (.slice a3 25 c3, keysL), (.slice a4 16 c4, listsL), (.slice a5 14 c5, hashesL), (.slice a6 15 c6, setsL), (.slice a7 17 c7, ranksL)] = 118 := rfl
  have HC := Lib.hid (concat_ok (cap := 7) hcat (by rw [hN]; decide) (by rw [hN]; decide) (by simp))
  clear hcat HV1_7 HV2_7 HV3_7 HV4_7 HV5_7 HV6_7 HV7_7
  have HB8 := Lib.hid (HB7.out.alloc HB7.out.size (.cells #[.slice a1 7 c1, .slice a2 24 c2, .slice a3 25 c3, .slice a4 16 c4, .slice a5 14 c5, .slice a6 15 c6, .slice a7 17 c7] 160))
  clear HB7
  go_wp2_with fail
  refine HC.out.mono ?_; rintro e w8 ⟨v8, rfl, hF8⟩
  have hcl : catL [(.slice a1 7 c1, controlL), (.slice a2 24 c2, textsL), (.slice a3 25 c3, keysL), (.slice a4 16 c4, listsL), (.slice a5 14 c5, hashesL), (.slice a6 15 c6, setsL), (.slice a7 17 c7, ranksL)] = allL := by simp [catL, allL]
  have hN2 : allL.length = 118 := by decide
  rw [hcl, hN, ← hN2] at hF8
  have HS := Lib.hid (sort_ok (L := allL) hF8 (by decide) (by decide))
  obtain ⟨a8, c8, rfl, _⟩ := id hF8.vw.slice
  rw [hN2] at HS
  clear hF8 HC hcl hN
  rw [hN2]
  go_wp2_with fail
  refine HS.out.mono ?_; rintro e w9 ⟨rfl, L', hp, hv9, hB9⟩
  have HB9 := Lib.hid (HB8.out.trans (hB9.mono HB8.out.size))
  have HV9 := Lib.hid (hv9.imp (B := fun b => w.heap.size ≤ b) (fun b hb => Nat.le_trans HB8.out.size hb))
  clear hv9 hB9 HS HB8
  go_wp2_with fail
  refine (clipSpec_ok HV9.out).mono ?_; rintro e wa ⟨va, rfl, rfl, hva⟩
  obtain ⟨a9, c9, rfl, _⟩ := id hva.slice
  go_wp2_with fail
  go_ret
  exact ⟨_, L', rfl, hp, hva, HB9.out⟩
end Go.Proofs.YtgmmeeikjofefaaGreatDoor
