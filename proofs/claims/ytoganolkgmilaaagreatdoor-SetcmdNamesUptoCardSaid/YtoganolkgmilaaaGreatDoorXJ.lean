import Derived.Test.YtoganolkgmilaaaGreatDoorXI
namespace Go.Proofs.YtoganolkgmilaaaGreatDoor
open Go Go.RowKit
/-! members: more, less, what several have. -/
theorem ownsRow_base {w : World} {b b' : Nat} {e : TypeId} {sz : Nat} {v : Value} {n : Nat} {xs : List Value} (h : w.ownsRow b e sz v n xs) (hb : b' ≤ b) : w.ownsRow b' e sz v n xs := by
  refine ⟨h.1, ?_⟩
  rcases h.2 with h1 | ⟨g, cap, cur, h1, h2, rest⟩
  · exact .inl h1
  · exact .inr ⟨g, cap, cur, h1, Nat.le_trans hb h2, rest⟩
theorem Fresh.since {w w1 w2 : World} {e : TypeId} {sz n : Nat} {v : Value} {xs : List Value} (h : Fresh w1 w2 e sz v n xs) (hB : Below w.heap.size w w1) : Fresh w w2 e sz v n xs :=
  ⟨ownsRow_base h.own hB.size, hB.trans (h.below.mono hB.size)⟩
theorem Vw.since {w w1 w2 : World} {sz n : Nat} {v : Value} {xs : List Value} (h : Vw (fun b => w1.heap.size ≤ b) w2 v sz n xs) (hB : Below w.heap.size w w1) : Vw (fun b => w.heap.size ≤ b) w2 v sz n xs := h.imp fun _ hb => Nat.le_trans hB.size hb
/-- A set, and a number. -/
def MDid2 (w : World) (l : List Tx) (n : Int) (e : Ending) (w' : World) : Prop :=
  ∃ a c, e = .returned (.tuple #[.slice a l.length c, .int .i64 n]) ∧ Vw (fun b => w.heap.size ≤ b) w' (.slice a l.length c) 1 l.length (l.map txt) ∧ Below w.heap.size w w'
set_option maxRecDepth 10000 in
set_option maxHeartbeats 2000000 in
theorem madd_ok {A B : Nat → Prop} {w : World} {va vb : Value} {l ms : List Tx} (ha : Vw A w va 1 l.length (l.map txt)) (hb : Vw B w vb 1 ms.length (ms.map txt)) (hl : l.length ≤ 1099511627776) (hm : ms.length ≤ 1099511627776) :
    Calls Tryz.prog 70 #[va, vb] w (MDid2 w (ofL (l ++ ms)) (((ofL (l ++ ms)).length : Int) - ((ofL l).length : Int))) := by
  have H1 := Lib.hid (mof_ok ha hl)
  have H2 := Lib.hid (fun (W : World) (hW : Below w.heap.size w W) => mof_ok (hb.below hW) hm)
  have HE := Lib.hid (merge_add l ms)
  have h1 := ofL_len l
  have h2 := ofL_len ms
  have h3 := mergeL_len true true true (ofL l) (ofL ms)
  rw [HE.out] at h3
  obtain ⟨a1, c1, rfl, _⟩ := id ha.slice
  obtain ⟨a2, c2, rfl, _⟩ := id hb.slice
  clear ha hb
  go_enter Tryz.func70, Tryz.ntmps70
  go_wp2_with fail
  refine H1.out.mono ?_; rintro e w1 ⟨a3, c3, rfl, hv1, hB1⟩
  have HV1 := Lib.hid hv1
  have HB1 := Lib.hid hB1
  have HM := Lib.hid (H2.out w1 hB1)
  clear hv1 hB1 H1 H2
  go_wp2_with fail
  refine HM.out.mono ?_; rintro e w2 ⟨a4, c4, rfl, hv2, hB2⟩
  have HG := Lib.hid (mmerge_ok true true true (HV1.out.below hB2) hv2 (by omega))
  have HV2 := Lib.hid (HV1.out.below hB2)
  have HB2 := Lib.hid (HB1.out.trans (hB2.mono HB1.out.size))
  clear hv2 hB2 HV1 HM
  go_wp2_with fail
  refine HG.out.mono ?_; rintro e w3 ⟨v5, rfl, hF⟩
  rw [HE.out] at hF
  have hv := (hF.since HB2.out).vw
  obtain ⟨a5, c5, rfl, _⟩ := id hv.slice
  have HV := Lib.hid hv
  have HB3 := Lib.hid (hF.since HB2.out).below
  clear hF hv HG
  go_wp2_with fail
  go_ret2
  exact ⟨a5, c5, rfl, HV.out, HB3.out⟩
set_option maxRecDepth 10000 in
set_option maxHeartbeats 2000000 in
theorem mremove_ok {A B : Nat → Prop} {w : World} {va vb : Value} {l ms : List Tx} (ha : Vw A w va 1 l.length (l.map txt)) (hb : Vw B w vb 1 ms.length (ms.map txt)) (hl : l.length ≤ 1099511627776) (hm : ms.length ≤ 1099511627776) :
    Calls Tryz.prog 71 #[va, vb] w (MDid2 w (lessL l ms) (((ofL l).length : Int) - ((lessL l ms).length : Int))) := by
  have H1 := Lib.hid (mof_ok ha hl)
  have H2 := Lib.hid (fun (W : World) (hW : Below w.heap.size w W) => mof_ok (hb.below hW) hm)
  have HE := Lib.hid (merge_less l ms)
  have h1 := ofL_len l
  have h2 := ofL_len ms
  have h3 := mergeL_len true false false (ofL l) (ofL ms)
  rw [HE.out] at h3
  obtain ⟨a1, c1, rfl, _⟩ := id ha.slice
  obtain ⟨a2, c2, rfl, _⟩ := id hb.slice
  clear ha hb
  go_enter Tryz.func71, Tryz.ntmps71
  go_wp2_with fail
  refine H1.out.mono ?_; rintro e w1 ⟨a3, c3, rfl, hv1, hB1⟩
  have HV1 := Lib.hid hv1
  have HB1 := Lib.hid hB1
  have HM := Lib.hid (H2.out w1 hB1)
  clear hv1 hB1 H1 H2
  go_wp2_with fail
  refine HM.out.mono ?_; rintro e w2 ⟨a4, c4, rfl, hv2, hB2⟩
  have HG := Lib.hid (mmerge_ok true false false (HV1.out.below hB2) hv2 (by omega))
  have HV2 := Lib.hid (HV1.out.below hB2)
  have HB2 := Lib.hid (HB1.out.trans (hB2.mono HB1.out.size))
  clear hv2 hB2 HV1 HM
  go_wp2_with fail
  refine HG.out.mono ?_; rintro e w3 ⟨v5, rfl, hF⟩
  rw [HE.out] at hF
  have hv := (hF.since HB2.out).vw
  obtain ⟨a5, c5, rfl, _⟩ := id hv.slice
  have HV := Lib.hid hv
  have HB3 := Lib.hid (hF.since HB2.out).below
  clear hF hv HG
  go_wp2_with fail
  go_ret2
  exact ⟨a5, c5, rfl, HV.out, HB3.out⟩
/-- Several lists, each a slice. -/
structure VwS (A : Nat → Prop) (w : World) (v : Value) (L : List (List Tx)) : Prop where
  ex : ∃ vs : List Value, Vw A w v 1 L.length vs ∧ ∀ (j : Nat) l, L[j]? = some l → ∃ a c, vs[j]? = some (.slice a l.length c) ∧ Vw (Old w) w (.slice a l.length c) 1 l.length (l.map txt)
theorem VwS.below {A : Nat → Prop} {w w' : World} {v : Value} {L : List (List Tx)} (h : VwS A w v L) (hB : Below w.heap.size w w') : VwS A w' v L := by
  obtain ⟨vs, h1, h2⟩ := h.ex
  exact ⟨vs, h1.below hB, fun j l hj => by
    obtain ⟨a, c, e1, e2⟩ := h2 j l hj
    exact ⟨a, c, e1, (e2.below hB).imp fun _ hb => Nat.lt_of_lt_of_le hb hB.size⟩⟩
theorem VwS.slice {A : Nat → Prop} {w : World} {v : Value} {L : List (List Tx)} (h : VwS A w v L) : ∃ a c, v = .slice a L.length c ∧ L.length ≤ c ∧ c ≤ maxLen ∧ (L.length = 0 ∨ ∃ b off, a = some ⟨b, off, none⟩) := by
  obtain ⟨vs, h1, h2⟩ := h.ex
  exact h1.slice
theorem VwS.get {A : Nat → Prop} {w : World} {a : Option Addr} {n cap : Nat} {L : List (List Tx)} (h : VwS A w (.slice a n cap) L) {j : Nat} {l : List Tx} (hj : L[j]? = some l) : ∃ b off a1 c1, a = some ⟨b, off, none⟩ ∧ n = L.length ∧ n ≤ cap ∧ w.cell? ⟨b, off + j, none⟩ = some (.slice a1 l.length c1) ∧ Vw (Old w) w (.slice a1 l.length c1) 1 l.length (l.map txt) := by
  obtain ⟨vs, h1, h2⟩ := h.ex
  obtain ⟨a1, c1, e1, e2⟩ := h2 j l hj
  have hl := (List.getElem?_eq_some_iff.1 hj).1
  obtain ⟨⟨a', c', e, g1, g2, g3⟩, g4⟩ := h1
  injection e with e3 e4 e5
  subst e3 e4 e5
  rcases g3 with g3 | ⟨b, off, rfl, g5, g6, g7⟩
  · omega
  · exact ⟨b, off, a1, c1, rfl, rfl, g1, g7 j _ e1, e2⟩
theorem drop_slice {n cap : Nat} {b off : Nat} (h1 : 1 ≤ n) : ∃ a, (∀ W, (Instr.slice 38 (.slice (some ⟨b, off, none⟩) n cap) (some (.int .i64 1)) none none).run Tryz.prog W = .ok (.slice a (n - 1) (cap - 1)) W) ∧ (1 < cap → a = some ⟨b, off + 1, none⟩) := by
  have hI : (Tryz.prog.info? 22).map (fun i => (i.zero, i.size, i.bytes)) = some (some (.slice none 0 0), 1, 24) := by kernel_rfl
  obtain ⟨i0, hi0, hz0, hz1, hz2⟩ := info_parts hI
  refine ⟨if cap = 1 then some ⟨b, off, none⟩ else some ⟨b, off + 1, none⟩, fun W => ?_, fun h => by rw [if_neg (by omega)]⟩
  by_cases hc : cap = 1
  · simp [Instr.slice, run_underlying Tryz.underlying38, Instr.sliceBounds, Instr.sliceBound, asIntOf, sizeOf, typeInfo, hi0, hc]
    intro h3; omega
  · simp [Instr.slice, run_underlying Tryz.underlying38, Instr.sliceBounds, Instr.sliceBound, asIntOf, sizeOf, typeInfo, hi0, hz1, addr_add, hc]
    intro h3; omega
/-- What of the first list stands in each other, in none of the others. -/
def interP (a : List Tx) : List (List Tx) → List Tx
  | [] => a
  | r :: t => interP (a.filter fun x => decide (x ∈ r)) t
def diffP (a : List Tx) : List (List Tx) → List Tx
  | [] => a
  | r :: t => diffP (a.filter fun x => decide (x ∉ r)) t
theorem interP_snoc (a : List Tx) (L : List (List Tx)) (r : List Tx) : interP a (L ++ [r]) = (interP a L).filter fun x => decide (x ∈ r) := by
  induction L generalizing a with
  | nil => rfl
  | cons l t ih => exact ih _
theorem diffP_snoc (a : List Tx) (L : List (List Tx)) (r : List Tx) : diffP a (L ++ [r]) = (diffP a L).filter fun x => decide (x ∉ r) := by
  induction L generalizing a with
  | nil => rfl
  | cons l t ih => exact ih _
theorem interP_len (a : List Tx) (L : List (List Tx)) : (interP a L).length ≤ a.length := by
  induction L generalizing a with
  | nil => exact Nat.le_refl _
  | cons l t ih => exact Nat.le_trans (ih _) (List.length_filter_le _ _)
theorem diffP_len (a : List Tx) (L : List (List Tx)) : (diffP a L).length ≤ a.length := by
  induction L generalizing a with
  | nil => exact Nat.le_refl _
  | cons l t ih => exact Nat.le_trans (ih _) (List.length_filter_le _ _)
def FoldRel (w : World) (F : List (List Tx) → List Tx) (R : List (List Tx)) (out i : Value) (wr : World) : Prop :=
  ∃ k a c, k ≤ R.length ∧ i = .int .i64 (k : Int) ∧ out = .slice a (ofL (F (R.take k))).length c ∧ Vw (fun b => w.heap.size ≤ b) wr out 1 (ofL (F (R.take k))).length ((ofL (F (R.take k))).map txt) ∧ Below w.heap.size w wr
set_option maxRecDepth 10000 in
set_option maxHeartbeats 4000000 in
theorem minter_ok {A : Nat → Prop} {w : World} {v : Value} {l0 : List Tx} {R : List (List Tx)} (h : VwS A w v (l0 :: R)) (hl : ∀ l ∈ l0 :: R, l.length ≤ 1099511627776) (hn : R.length ≤ 1099511627776) :
    Calls Tryz.prog 103 #[v] w (MDid w (ofL (interP l0 R))) := by
  obtain ⟨a, cap, rfl, hcap, _⟩ := id h.slice
  obtain ⟨b, off, a1, c1, rfl, _, _, hc0, hv0⟩ := h.get (j := 0) (l := l0) rfl
  obtain ⟨a', hsl, ha'⟩ := drop_slice (n := (l0 :: R).length) (cap := cap) (b := b) (off := off) (by simp)
  have HV := Lib.hid h
  have HL := Lib.hid hl
  have H0 := Lib.hid (mof_ok hv0 (hl l0 (by simp)))
  have HA := Lib.hid ha'
  rw [Nat.add_zero] at hc0
  have hlen : (l0 :: R).length = R.length + 1 := rfl
  have hlen1 : (l0 :: R).length - 1 = R.length := rfl
  rw [hlen1] at hsl
  rw [hlen] at hsl hcap ⊢
  have hlen2 : (l0 :: R).length = R.length + 1 := rfl
  have hne : (((R.length + 1 : Nat) : Int) == 0) = false := beq_eq_false_iff_ne.2 (by omega)
  have hne2 : ((R.length : Int) + 1 == 0) = false := beq_eq_false_iff_ne.2 (by omega)
  clear h hl hv0 ha'
  go_enter Tryz.func103, Tryz.ntmps103
  go_wp2_with fail
  refine H0.out.mono ?_; rintro e w1 ⟨a3, c3, rfl, hv1, hB1⟩
  have HAT := Lib.hid (show FoldRel w (interP l0) R (.slice a3 (ofL l0).length c3) (.int .i64 0) w1 from ⟨0, a3, c3, Nat.zero_le _, rfl, rfl, hv1, hB1⟩)
  clear hv1 hB1 H0 hc0 hne hne2
  go_wp2_with fail
  go_loopw [3, 16] (fun out i wr => FoldRel w (interP l0) R out i wr) (fun _ i _ => R.length - (intOf i).toNat)
  case atStart => exact HAT.out
  case round =>
    clear HAT
    obtain ⟨k, a5, c5, hk, rfl, rfl, hv, hB⟩ := hrel
    by_cases hkl : k < R.length
    · obtain ⟨l, hx⟩ : ∃ l, R[k]? = some l := ⟨_, List.getElem?_eq_getElem hkl⟩
      obtain rfl := HA.out (by omega)
      obtain ⟨b2, off2, a6, c6, e2, _, _, hc, hvl⟩ := (HV.out.below hB).get (j := k + 1) (l := l) (by simpa using hx)
      injection e2 with e2
      injection e2 with e3 e4 _
      subst e3 e4
      have hll := HL.out l (by simp [List.mem_of_getElem? hx])
      have hl0 := HL.out l0 (by simp)
      have hc' : wr.cell? ⟨b, off + 1 + k, none⟩ = some (.slice a6 l.length c6) := by rw [show off + 1 + k = off + (k + 1) by omega]; exact hc
      have hkI : (0 : Int) ≤ k ∧ (k : Int) < R.length := by omega
      have HSN := Lib.hid (show ofL (interP l0 (R.take (k + 1))) = mergeL false true false (ofL (interP l0 (R.take k))) (ofL l) by
        rw [List.take_add_one, hx, merge_both]; simp only [Option.toList_some]; rw [interP_snoc]; rfl)
      have hol := ofL_len (interP l0 (R.take k))
      have hpl := interP_len l0 (R.take k)
      have hol2 := ofL_len l
      have HM := Lib.hid (mof_ok hvl hll)
      have HV5 := Lib.hid hv
      have HB5 := Lib.hid hB
      clear hv hB hc hvl hx
      go_wp2_with fail
      refine HM.out.mono ?_; rintro e w2 ⟨a7, c7, rfl, hv2, hB2⟩
      have HG := Lib.hid (mmerge_ok false true false (HV5.out.below hB2) hv2 (by omega))
      have HB2 := Lib.hid (HB5.out.trans (hB2.mono HB5.out.size))
      clear hv2 hB2 HM
      go_wp2_with fail
      refine HG.out.mono ?_; rintro e w3 ⟨v8, rfl, hF⟩
      rw [← HSN.out] at hF
      have hF2 := hF.since HB2.out
      have hv8 := hF2.vw
      obtain ⟨a8, c8, rfl, _⟩ := id hv8.slice
      have D := Lib.hid (show FoldRel w (interP l0) R (.slice a8 (ofL (interP l0 (R.take (k + 1)))).length c8) (.int .i64 ((k + 1 : Nat) : Int)) w3 from ⟨k + 1, a8, c8, hkl, rfl, rfl, hv8, hF2.below⟩)
      clear hF hF2 hv8 HG HB2 HV5 HB5 hol hol2 hpl
      go_wp2_with fail
      go_roundw
      case rel => exact D.out
      case measure => simp [intOf]; omega
    · obtain rfl : k = R.length := by omega
      rw [List.take_length] at hv
      have D := Lib.hid (show MDid w (ofL (interP l0 R)) (.returned (.slice a5 (ofL (interP l0 R)).length c5)) wr from ⟨a5, c5, rfl, hv, hB⟩)
      have hlt : ofL (interP l0 (R.take R.length)) = ofL (interP l0 R) := by rw [List.take_length]
      rw [hlt]
      clear hv hB HV HL HA hlt
      go_wp2_with fail
      go_ret
      exact D.out
set_option maxRecDepth 10000 in
set_option maxHeartbeats 4000000 in
theorem mdiff_ok {A : Nat → Prop} {w : World} {v : Value} {l0 : List Tx} {R : List (List Tx)} (h : VwS A w v (l0 :: R)) (hl : ∀ l ∈ l0 :: R, l.length ≤ 1099511627776) (hn : R.length ≤ 1099511627776) :
    Calls Tryz.prog 102 #[v] w (MDid w (ofL (diffP l0 R))) := by
  obtain ⟨a, cap, rfl, hcap, _⟩ := id h.slice
  obtain ⟨b, off, a1, c1, rfl, _, _, hc0, hv0⟩ := h.get (j := 0) (l := l0) rfl
  obtain ⟨a', hsl, ha'⟩ := drop_slice (n := (l0 :: R).length) (cap := cap) (b := b) (off := off) (by simp)
  have HV := Lib.hid h
  have HL := Lib.hid hl
  have H0 := Lib.hid (mof_ok hv0 (hl l0 (by simp)))
  have HA := Lib.hid ha'
  rw [Nat.add_zero] at hc0
  have hlen : (l0 :: R).length = R.length + 1 := rfl
  have hlen1 : (l0 :: R).length - 1 = R.length := rfl
  rw [hlen1] at hsl
  rw [hlen] at hsl hcap ⊢
  have hlen2 : (l0 :: R).length = R.length + 1 := rfl
  have hne : (((R.length + 1 : Nat) : Int) == 0) = false := beq_eq_false_iff_ne.2 (by omega)
  have hne2 : ((R.length : Int) + 1 == 0) = false := beq_eq_false_iff_ne.2 (by omega)
  clear h hl hv0 ha'
  go_enter Tryz.func102, Tryz.ntmps102
  go_wp2_with fail
  refine H0.out.mono ?_; rintro e w1 ⟨a3, c3, rfl, hv1, hB1⟩
  have HAT := Lib.hid (show FoldRel w (diffP l0) R (.slice a3 (ofL l0).length c3) (.int .i64 0) w1 from ⟨0, a3, c3, Nat.zero_le _, rfl, rfl, hv1, hB1⟩)
  clear hv1 hB1 H0 hc0 hne hne2
  go_wp2_with fail
  go_loopw [3, 16] (fun out i wr => FoldRel w (diffP l0) R out i wr) (fun _ i _ => R.length - (intOf i).toNat)
  case atStart => exact HAT.out
  case round =>
    clear HAT
    obtain ⟨k, a5, c5, hk, rfl, rfl, hv, hB⟩ := hrel
    by_cases hkl : k < R.length
    · obtain ⟨l, hx⟩ : ∃ l, R[k]? = some l := ⟨_, List.getElem?_eq_getElem hkl⟩
      obtain rfl := HA.out (by omega)
      obtain ⟨b2, off2, a6, c6, e2, _, _, hc, hvl⟩ := (HV.out.below hB).get (j := k + 1) (l := l) (by simpa using hx)
      injection e2 with e2
      injection e2 with e3 e4 _
      subst e3 e4
      have hll := HL.out l (by simp [List.mem_of_getElem? hx])
      have hl0 := HL.out l0 (by simp)
      have hc' : wr.cell? ⟨b, off + 1 + k, none⟩ = some (.slice a6 l.length c6) := by rw [show off + 1 + k = off + (k + 1) by omega]; exact hc
      have hkI : (0 : Int) ≤ k ∧ (k : Int) < R.length := by omega
      have HSN := Lib.hid (show ofL (diffP l0 (R.take (k + 1))) = mergeL true false false (ofL (diffP l0 (R.take k))) (ofL l) by
        rw [List.take_add_one, hx, merge_less]; simp only [Option.toList_some]; rw [diffP_snoc]; rfl)
      have hol := ofL_len (diffP l0 (R.take k))
      have hpl := diffP_len l0 (R.take k)
      have hol2 := ofL_len l
      have HM := Lib.hid (mof_ok hvl hll)
      have HV5 := Lib.hid hv
      have HB5 := Lib.hid hB
      clear hv hB hc hvl hx
      go_wp2_with fail
      refine HM.out.mono ?_; rintro e w2 ⟨a7, c7, rfl, hv2, hB2⟩
      have HG := Lib.hid (mmerge_ok true false false (HV5.out.below hB2) hv2 (by omega))
      have HB2 := Lib.hid (HB5.out.trans (hB2.mono HB5.out.size))
      clear hv2 hB2 HM
      go_wp2_with fail
      refine HG.out.mono ?_; rintro e w3 ⟨v8, rfl, hF⟩
      rw [← HSN.out] at hF
      have hF2 := hF.since HB2.out
      have hv8 := hF2.vw
      obtain ⟨a8, c8, rfl, _⟩ := id hv8.slice
      have D := Lib.hid (show FoldRel w (diffP l0) R (.slice a8 (ofL (diffP l0 (R.take (k + 1)))).length c8) (.int .i64 ((k + 1 : Nat) : Int)) w3 from ⟨k + 1, a8, c8, hkl, rfl, rfl, hv8, hF2.below⟩)
      clear hF hF2 hv8 HG HB2 HV5 HB5 hol hol2 hpl
      go_wp2_with fail
      go_roundw
      case rel => exact D.out
      case measure => simp [intOf]; omega
    · obtain rfl : k = R.length := by omega
      rw [List.take_length] at hv
      have D := Lib.hid (show MDid w (ofL (diffP l0 R)) (.returned (.slice a5 (ofL (diffP l0 R)).length c5)) wr from ⟨a5, c5, rfl, hv, hB⟩)
      have hlt : ofL (diffP l0 (R.take R.length)) = ofL (diffP l0 R) := by rw [List.take_length]
      rw [hlt]
      clear hv hB HV HL HA hlt
      go_wp2_with fail
      go_ret
      exact D.out
set_option maxRecDepth 10000 in
set_option maxHeartbeats 4000000 in
theorem munion_ok {A : Nat → Prop} {w : World} {v : Value} {R : List (List Tx)} (h : VwS A w v R) (hl : R.flatten.length ≤ 1099511627776) (hn : R.length ≤ 1099511627776) :
    Calls Tryz.prog 104 #[v] w (MDid w (ofL R.flatten)) := by
  obtain ⟨a, cap, rfl, hcap, _⟩ := id h.slice
  have HV := Lib.hid h
  have HAT := Lib.hid (show FoldRel w List.flatten R (.slice none 0 0) (.int .i64 0) w from ⟨0, none, 0, Nat.zero_le _, rfl, rfl, Vw.nil _ _ _, Below.refl _ _⟩)
  have HL := Lib.hid (show ∀ k l, R[k]? = some l → (R.take k).flatten.length + l.length ≤ 1099511627776 from fun k l hk => by
    have e : (R.take (k + 1)).flatten.length ≤ R.flatten.length := by
      conv => rhs; rw [← List.take_append_drop (k + 1) R, List.flatten_append, List.length_append]
      omega
    have e2 : (R.take (k + 1)).flatten = (R.take k).flatten ++ l := by rw [List.take_add_one, hk]; simp
    rw [e2, List.length_append] at e
    omega)
  clear h hl
  go_enter Tryz.func104, Tryz.ntmps104
  go_wp2_with fail
  go_loopw [3, 8] (fun out i wr => FoldRel w List.flatten R out i wr) (fun _ i _ => R.length - (intOf i).toNat)
  case atStart => exact HAT.out
  case round =>
    clear HAT
    obtain ⟨k, a5, c5, hk, rfl, rfl, hv, hB⟩ := hrel
    by_cases hkl : k < R.length
    · obtain ⟨l, hx⟩ : ∃ l, R[k]? = some l := ⟨_, List.getElem?_eq_getElem hkl⟩
      obtain ⟨b2, off2, a6, c6, rfl, _, _, hc, hvl⟩ := (HV.out.below hB).get (j := k) (l := l) hx
      have hll := HL.out k l hx
      have hkI : (0 : Int) ≤ k ∧ (k : Int) < R.length := by omega
      have HSN := Lib.hid (show ofL (R.take (k + 1)).flatten = mergeL true true true (ofL (R.take k).flatten) (ofL l) by
        rw [List.take_add_one, hx, merge_add]; simp)
      have hol := ofL_len (R.take k).flatten
      have hol2 := ofL_len l
      have HM := Lib.hid (mof_ok hvl (by omega))
      have HV5 := Lib.hid hv
      have HB5 := Lib.hid hB
      clear hv hB hvl hx
      go_wp2_with fail
      refine HM.out.mono ?_; rintro e w2 ⟨a7, c7, rfl, hv2, hB2⟩
      have HG := Lib.hid (mmerge_ok true true true (HV5.out.below hB2) hv2 (by omega))
      have HB2 := Lib.hid (HB5.out.trans (hB2.mono HB5.out.size))
      clear hv2 hB2 HM
      go_wp2_with fail
      refine HG.out.mono ?_; rintro e w3 ⟨v8, rfl, hF⟩
      rw [← HSN.out] at hF
      have hF2 := hF.since HB2.out
      have hv8 := hF2.vw
      obtain ⟨a8, c8, rfl, _⟩ := id hv8.slice
      have D := Lib.hid (show FoldRel w List.flatten R (.slice a8 (ofL (R.take (k + 1)).flatten).length c8) (.int .i64 ((k + 1 : Nat) : Int)) w3 from ⟨k + 1, a8, c8, hkl, rfl, rfl, hv8, hF2.below⟩)
      clear hF hF2 hv8 HG HB2 HV5 HB5 hol hol2
      go_wp2_with fail
      go_roundw
      case rel => exact D.out
      case measure => simp [intOf]; omega
    · obtain rfl : k = R.length := by omega
      rw [List.take_length] at hv
      have D := Lib.hid (show MDid w (ofL R.flatten) (.returned (.slice a5 (ofL R.flatten).length c5)) wr from ⟨a5, c5, rfl, hv, hB⟩)
      have hlt : ofL (R.take R.length).flatten = ofL R.flatten := by rw [List.take_length]
      rw [hlt]
      clear hv hB HV HL hlt
      go_wp2_with fail
      go_ret
      exact D.out
/-- slices.Contains. -/
def HasDid (w : World) (ws : List (List UInt8)) (x : List UInt8) (e : Ending) (w' : World) : Prop := e = .returned (.bool (decide (x ∈ ws))) ∧ w' = w
set_option maxRecDepth 10000 in
set_option maxHeartbeats 2000000 in
theorem hasS_ok {A : Nat → Prop} {w : World} {v : Value} {n : Nat} {ws : List (List UInt8)} (h : Vw A w v 1 n (ws.map txt)) (hn : n ≤ 1099511627776) (x : List UInt8) : Calls Tryz.prog 99 #[v, txt x] w (HasDid w ws x) := by
  have hl : n = ws.length := by have := h.len; simpa using this.symm
  obtain ⟨a, cap, rfl, _⟩ := id h.slice
  have HI : Calls Tryz.prog 129 #[.slice a n cap, txt x] w fun e w' => ∃ i : Int, e = .returned (.int .i64 i) ∧ decide (0 ≤ i) = decide (x ∈ ws) ∧ w' = w := by
    have HV := Lib.hid h
    clear h
    unfold txt
    go_enter Tryz.func129, Tryz.ntmps129
    go_wp2_with fail
    go_loopw [8] (fun i wr => wr = w ∧ ∃ k : Nat, k ≤ n ∧ i = .int .i64 (k : Int) ∧ ∀ j y, j < k → ws[j]? = some y → y ≠ x) (fun i _ => n - (intOf i).toNat)
    case atStart => exact ⟨rfl, 0, Nat.zero_le _, rfl, fun j y hj => absurd hj (Nat.not_lt_zero _)⟩
    case round =>
      obtain ⟨rfl, k, hk, rfl, hno⟩ := hrel
      have HNO := Lib.hid hno
      clear hno
      by_cases hkl : k < n
      · obtain ⟨y, hy⟩ : ∃ y, ws[k]? = some y := ⟨_, List.getElem?_eq_getElem (by omega)⟩
        obtain ⟨bb, off, rfl, _, hcap, hgt⟩ := vw_get HV.out (by omega)
        have hcell : wr.cell? ⟨bb, off + k, none⟩ = some (.string ⟨y.toArray⟩) := hgt k y hy
        have hkI : (0 : Int) ≤ k ∧ (k : Int) < n := by omega
        have HY := Lib.hid hy
        clear hgt hy
        by_cases hyx : x = y
        · subst hyx
          go_wp2_with fail
          go_ret
          exact ⟨_, rfl, by simp [List.mem_of_getElem? HY.out], rfl⟩
        · have hd : (x == y) = false := by simpa using hyx
          go_wp2_with fail
          go_roundw
          case rel => exact ⟨trivial, k + 1, hkl, by go_num, fun j z hj hz => by
            rcases Nat.lt_or_ge j k with h | h
            · exact HNO.out j z h hz
            · obtain rfl : j = k := by omega
              rw [HY.out] at hz
              cases hz
              exact fun e => hyx e.symm⟩
          case measure => simp [intOf]; omega
      · have hm : x ∉ ws := fun hx => by
          obtain ⟨j, hj, e⟩ := List.mem_iff_getElem.1 hx
          exact HNO.out j x (by omega) (by rw [List.getElem?_eq_getElem hj, e]) rfl
        have HM := Lib.hid hm
        clear hm
        go_wp2_with fail
        go_ret
        exact ⟨_, rfl, by simp [HM.out], rfl⟩
  have HH := Lib.hid HI
  clear HI h hl
  unfold txt at *
  go_enter Tryz.func99, Tryz.ntmps99
  go_wp2_with fail
  refine HH.out.mono ?_; rintro e w1 ⟨i, rfl, hi, rfl⟩
  go_wp2_with fail
  go_ret
  exact ⟨by rw [← hi]; rfl, rfl⟩
set_option maxRecDepth 10000 in
theorem mhas_ok {A : Nat → Prop} {w : World} {v : Value} {n : Nat} {ws : List Tx} (h : Vw A w v 1 n (ws.map txt)) (hn : n ≤ 1099511627776) (x : Tx) : Calls Tryz.prog 74 #[v, txt x] w (HasDid w ws x) := by
  have H := Lib.hid (hasS_ok h hn x)
  obtain ⟨a, c, rfl, _⟩ := h.slice
  clear h
  unfold HasDid at *
  generalize decide (x ∈ ws) = r at *
  unfold txt at *
  go_enter Tryz.func74, Tryz.ntmps74
  go_wp2_with fail
  refine H.out.mono ?_; rintro e w1 ⟨rfl, rfl⟩
  go_wp2_with fail
  go_ret
  exact ⟨rfl, rfl⟩
/-- What stands behind m in a set. -/
def afterP (L : List Tx) (m : Tx) : List Tx := L.filter fun x => ltB m x
theorem ltB_gt (x m : Tx) : (!(Op.bytesLess x m || x == m)) = ltB m x := by
  rcases less_total x m with h | h | h
  · rw [h, ltB_asymm h]; rfl
  · subst h; simp [less_irrefl, ltB]
  · have h2 : Op.bytesLess x m = false := ltB_asymm h
    have h3 : (x == m) = false := by
      apply beq_eq_false_iff_ne.2
      rintro rfl
      rw [less_irrefl] at h; cases h
    rw [h2, h3]; exact h.symm
def AfRel (w : World) (L : List Tx) (m : Tx) (out i : Value) (wr : World) : Prop :=
  ∃ k o', k ≤ L.length ∧ i = .int .i64 (k : Int) ∧ Row o' wr [9, 0] 9 1 out (afterP (L.take k) m).length ((afterP (L.take k) m).map txt) ∧ Stp [9] none0 w o' wr
set_option maxRecDepth 10000 in
set_option maxHeartbeats 4000000 in
theorem mafter_ok {A : Nat → Prop} {w : World} {v : Value} {l : List Tx} (h : Vw A w v 1 l.length (l.map txt)) (hl : l.length ≤ 1099511627776) (m : Tx) (most : Nat) (hm : (ofL l).length ≤ most) :
    Calls Tryz.prog 83 #[v, txt m, .int .i64 most] w (MDid w (afterP (ofL l) m)) := by
  have H1 := Lib.hid (mof_ok h hl)
  have hol := ofL_len l
  obtain ⟨a, c, rfl, _⟩ := h.slice
  obtain ⟨i0, hi0, hz0, hz1, hz2⟩ := info_parts infoS
  clear h
  unfold txt
  go_enter Tryz.func83, Tryz.ntmps83
  go_wp2_with fail
  refine H1.out.mono ?_; rintro e w1 ⟨a3, c3, rfl, hv1, hB1⟩
  have HAT := Lib.hid (show AfRel w1 (ofL l) m (.slice none 0 0) (.int .i64 0) w1 from ⟨0, none0, Nat.zero_le _, rfl, Row.nil _ _ _ _ _, Stp.refl _ _ _⟩)
  have HV := Lib.hid hv1
  clear hv1 H1
  generalize ofL l = L at *
  have HB1 := Lib.hid hB1
  clear hB1
  go_wp2_with fail
  go_loopw [7, 13] (fun out i wr => AfRel w1 L m out i wr) (fun _ i _ => L.length - (intOf i).toNat)
  case atStart => exact HAT.out
  case round =>
    clear HAT
    obtain ⟨k, o', hk, rfl, hrow, hst⟩ := hrel
    obtain ⟨ao, co, rfl, _⟩ := id hrow.slice
    by_cases hkl : k < L.length
    · obtain ⟨x, hx⟩ : ∃ x, L[k]? = some x := ⟨_, List.getElem?_eq_getElem hkl⟩
      have hvr := HV.out.below hst.below0
      obtain ⟨b2, off2, e2, _, hcap2, hg⟩ := vw_get hvr (by omega)
      subst e2
      have hc : wr.cell? ⟨b2, off2 + k, none⟩ = some (.string ⟨x.toArray⟩) := hg k x hx
      have hkI : (0 : Int) ≤ k ∧ (k : Int) < L.length := by omega
      have hal : (afterP (L.take k) m).length ≤ k := by
        unfold afterP
        exact Nat.le_trans (List.length_filter_le _ _) (by simp; omega)
      have htk : afterP (L.take (k + 1)) m = afterP (L.take k) m ++ (if ltB m x = true then [x] else []) := by
        unfold afterP
        rw [List.take_add_one, hx, List.filter_append]
        simp only [Option.toList_some, List.filter_cons, List.filter_nil]
      have hgt := ltB_gt x m
      have halI : ((afterP (L.take k) m).length : Int) < most := by omega
      have HROW := Lib.hid hrow
      have HST := Lib.hid hst
      have HTK := Lib.hid htk
      have hm1 : (afterP (L.take k) m).length + 1 ≤ maxLen := by unfold maxLen; omega
      have hm2 : ((afterP (L.take k) m).length + 1) * 16 ≤ 140737488355328 := by omega
      cases hmx : ltB m x with
      | true =>
        rw [hmx] at hgt htk
        have HGT := Lib.hid hgt
        have HD := Lib.hid (fun (vo : Value) (w5 : World) (o5 : Roles) (h3 : Row o5 w5 [9, 0] 9 1 vo ((afterP (L.take k) m).length + 1) ((afterP (L.take k) m).map txt ++ [txt x])) (h4 : Stp [9] none0 w1 o5 w5) =>
          show AfRel w1 L m vo (.int .i64 ((k + 1 : Nat) : Int)) w5 from ⟨k + 1, o5, hkl, rfl, by
            rw [htk, if_pos rfl, List.map_append, List.length_append]; exact h3, h4⟩)
        have HRW := Lib.hid (show Row o' (wr.alloc (.cells #[.string ⟨x.toArray⟩] 9)) [9, 0] 9 1 (.slice ao (afterP (L.take k) m).length co) (afterP (L.take k) m).length ((afterP (L.take k) m).map txt) ∧ Stp [9] none0 w1 o' (wr.alloc (.cells #[.string ⟨x.toArray⟩] 9)) from ⟨hrow.below (lit_below wr _), hst.trans (Stp.ofBelow [9] o' (lit_below wr _))⟩)
        have HSRC := Lib.hid ((vw_new1 wr x 9).src (P := Tryz.prog) Tryz.underlying22 (one_list [x]))
        unfold txt at HSRC
        clear hrow hst hvr hg hal htk hgt hx HROW HST HTK hmx HV
        generalize (afterP (L.take k) m).length = al at *
        rcases h1 : Op.bytesLess x m with _ | _
        · rcases h2 : (x == m) with _ | _
          · clear HGT
            go_wp2_with (
              at_builtin
              refine wpList_app _ rfl _ _ 22 22 rfl 9 i0 _ 1 16 Tryz.underlying22 hi0 hz0 hz1 hz2 rfl rfl HRW.out.1 rfl HSRC.out hm1 hm2 ?_
              intro v' w5 o5 hrow5 hst5
              obtain ⟨a5, c5, rfl, _⟩ := id hrow5.slice
              have D := Lib.hid (HD.out _ w5 o5 hrow5 (HRW.out.2.trans (hst5.wide (by decide))))
              clear hrow5 hst5 HD HRW HSRC)
            go_roundw
            case rel => exact D.out
            case measure => simp [intOf]; omega
          · exact absurd HGT.out (by rw [h1, h2]; decide)
        · exact absurd HGT.out (by rw [h1]; simp)
      | false =>
        rw [hmx] at hgt htk
        have D := Lib.hid (show AfRel w1 L m (.slice ao (afterP (L.take k) m).length co) (.int .i64 ((k + 1 : Nat) : Int)) wr from ⟨k + 1, o', hkl, rfl, by
          rw [htk, if_neg (by decide), List.append_nil]; exact hrow, hst⟩)
        have HGT := Lib.hid hgt
        clear hrow hst hvr hg hal htk hgt hx HROW HST HTK hmx HV
        generalize (afterP (L.take k) m).length = al at *
        rcases h1 : Op.bytesLess x m with _ | _
        · rcases h2 : (x == m) with _ | _
          · exact absurd HGT.out (by rw [h1, h2]; decide)
          · clear HGT
            go_wp2_with fail
            go_roundw
            case rel => exact D.out
            case measure => simp [intOf]; omega
        · clear HGT
          go_wp2_with fail
          go_roundw
          case rel => exact D.out
          case measure => simp [intOf]; omega
    · obtain rfl : k = L.length := by omega
      have hlt : afterP (L.take L.length) m = afterP L m := by rw [List.take_length]
      rw [hlt] at hrow ⊢
      have hF := (hrow.fresh2 (by decide) hst).since HB1.out
      have D := Lib.hid (show MDid w (afterP L m) (.returned (.slice ao (afterP L m).length co)) wr from ⟨ao, co, rfl, hF.vw, hF.below⟩)
      clear hrow hst hF HV hlt
      go_wp2_with fail
      go_ret
      exact D.out
end Go.Proofs.YtoganolkgmilaaaGreatDoor
