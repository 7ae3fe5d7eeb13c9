import Derived.Test.YtcgecgilkapjaaaGreatDoorXC
namespace Go.Proofs.YtcgecgilkapjaaaGreatDoor
open Go Go.RowKit
/-! slices.Insert of one deadline. -/
theorem laidAt_drop {cs vs : List Value} {k : Nat} (h : k + vs.length ≤ cs.length) : (laidAt cs k vs).drop k = vs ++ cs.drop (k + vs.length) := by
  unfold laidAt
  rw [List.append_assoc, List.drop_left' (by simp; omega)]
theorem ins_take {cs zs ys : List Value} {k m n : Nat} (hz : zs.length = m) (h : k + m + ys.length ≤ cs.length) (hn : n = k + m + ys.length) : (laidAt (laidAt cs (k + m) ys) k zs).take n = cs.take k ++ zs ++ ys := by
  have hA := laidAt_len h
  subst hz
  subst hn
  have e1 : laidAt (laidAt cs (k + zs.length) ys) k zs = cs.take k ++ zs ++ (ys ++ cs.drop (k + zs.length + ys.length)) := by
    rw [show laidAt (laidAt cs (k + zs.length) ys) k zs = (laidAt cs (k + zs.length) ys).take k ++ zs ++ (laidAt cs (k + zs.length) ys).drop (k + zs.length) from rfl, laidAt_drop h, laidAt_take_lo (by omega) (by omega)]
  rw [e1, ← List.append_assoc, List.take_left' (by simp; omega)]
section
variable {P : Program} {o : Roles} {w : World} {r : List Nat} {g : Nat} {cs : List Value} {T : TypeId}
/-- copy of a part of a slice into a row. -/
theorem run_copy_slice (h : Blk o w r g cs.toArray T) {dT sT elem : TypeId} {i : TypeInfo} (hu : P.underlying dT = some (.slice elem)) (hi : P.info? elem = some i) (ty : TypeId) (k dLen dCap : Nat) (a : Addr) (M c m : Nat) {news : List Value} (hm : Nat.min M dLen = m) (hl : news.length = m * i.size)
    (hs : ∀ j u, news[j]? = some u → w.cell? (a.add j) = some u) (h1 : ∀ u ∈ news, u.oneCell' = true) (hk : k + news.length ≤ cs.length) :
    (Builtin.copy_ #[dT, sT] ty #[.slice (some ⟨g, k, none⟩) dLen dCap, .slice (some a) M c]).run P w = .ok (goInt m) (w.setCells g k news) := by
  have hst := h.store (P := P) k news hk h1
  have hc := run_firstCells_some (P := P) w i.size m a M c news hl hs
  simp [Builtin.copy_, run_underlying hu, sizeOf, typeInfo, hi, Builtin.lenOf, hm, hc, hst]
end
theorem overlaps_no (w : World) (g vb lo lb cb : Nat) (e : Ent) (cs : Array Value) (hv : w.heap[vb]? = some (.cells #[.int .i64 e.1, .string ⟨e.2.toArray⟩] 173 (0, 0))) (hg : w.heap[g]? = some (.cells cs 173 (0, 0))) (hcs : cs.size ≠ 0) (hne : vb ≠ g) :
    (callFunc 269 #[.slice (some ⟨vb, 0, none⟩) 1 1, .slice (some ⟨g, lo, none⟩) lb cb]).run Tryz.prog w = .ok (.value (.bool false)) w := by
  obtain ⟨i0, hi0, hz0, hz1, hz2⟩ := info_parts infoEnt
  rw [run_callFunc_extern Tryz.func269 (by kernel_rfl) (by kernel_rfl) (by kernel_rfl) (e := Extern.SlicesOverlaps.overlaps #[113, 113] #[4]) (by kernel_rfl),
    Lib.run_overlaps_apart w 113 4 173 Tryz.underlying113 2 (fun W => by simp [sizeOf, typeInfo, hi0, hz1]) ⟨vb, 0, none⟩ ⟨g, lo, none⟩ 1 1 lb cb hne 173 173 2 cs.size (by simp [World.shape?, hv]) (by simp [World.shape?, hg]) hcs (by simp [World.frozen?, hv]) (by simp [World.frozen?, hv])]
  rfl
section
variable {o : Roles} {w : World} {r : List Nat} {v : Value} {L : List Ent}
def InsDid (o : Roles) (w : World) (r : List Nat) (L : List Ent) (i : Nat) (e : Ent) (E : Ending) (w' : World) : Prop :=
  ∃ v' o', E = .returned v' ∧ Row o' w' r 173 2 v' (L.length + 1) (entsC (L.take i ++ e :: L.drop i)) ∧ Stp r o w o' w'
theorem ent_src {w : World} {vb : Nat} {e : Ent} (hv : w.heap[vb]? = some (.cells #[.int .i64 e.1, .string ⟨e.2.toArray⟩] 173 (0, 0))) : Src Tryz.prog 2 113 (.slice (some ⟨vb, 0, none⟩) 1 1) 1 (entC e) w :=
  Src.ofSlice _ Tryz.underlying113 _ _ _ _ rfl (fun j u hj => by
    rw [addr_add, Nat.zero_add]
    simp only [World.cell?, hv]
    unfold entC txt at hj
    simpa using hj) (fun u hu => by simp [entC] at hu; rcases hu with rfl | rfl <;> rfl)
set_option maxRecDepth 10000 in
set_option maxHeartbeats 2000000 in
theorem insert_room (h : Row o w r 173 2 v L.length (entsC L)) (i : Nat) (hi : i < L.length) (hn : L.length ≤ 4398046511104) {vb : Nat} (e : Ent) (hv : w.heap[vb]? = some (.cells #[.int .i64 e.1, .string ⟨e.2.toArray⟩] 173 (0, 0))) (hvr : o vb ≠ r)
    {g cap : Nat} (hv0 : v = .slice (some ⟨g, 0, none⟩) L.length cap) (hroom : L.length + 1 ≤ cap) :
    Calls Tryz.prog 146 #[v, .int .i64 i, .slice (some ⟨vb, 0, none⟩) 1 1] w (InsDid o w r L i e) := by
  obtain ⟨i0, hi0, hz0, hz1, hz2⟩ := info_parts infoEnt
  subst hv0
  obtain ⟨cs, hb, hcl, hnc, hm, htk⟩ := h.blk
  have hne : vb ≠ g := fun e => hvr (by rw [e]; exact hb.role)
  obtain ⟨a2, hcT, haT⟩ := cut_tail (P := Tryz.prog) Tryz.underlying113 hi0 g L.length cap i (by omega) i rfl
  obtain ⟨a3, hcT3, haT3⟩ := cut_tail (P := Tryz.prog) Tryz.underlying113 hi0 g (L.length + 1) cap i (by omega) i rfl
  obtain ⟨a4, hcT4, haT4⟩ := cut_tail (P := Tryz.prog) Tryz.underlying113 hi0 g (L.length + 1) cap (i + 1) (by omega) ((i : Int) + 1) (by simp)
  have hcH := cut_head (P := Tryz.prog) Tryz.underlying113 hi0 (some ⟨g, 0, none⟩) L.length cap (L.length + 1) hroom ((L.length : Int) + 1) (by simp)
  obtain rfl := haT (by omega)
  obtain rfl := haT3 (by omega)
  obtain rfl := haT4 (by omega)
  rw [hz1] at hcT hcT3 hcT4
  rw [Nat.add_sub_add_right] at hcT4
  have hov := fun lb cb => overlaps_no w g vb ((i + 1) * 2) lb cb e cs.toArray hv hb.heap (by rw [List.size_toArray, hcl]; omega) hne
  have hyl : (entsC (L.drop i)).length = (L.length - i) * 2 := by rw [entsC_len, List.length_drop]
  have hfit : i * 2 + 2 + (entsC (L.drop i)).length ≤ cs.length := by rw [hyl, hcl]; omega
  have hbd : Blk o w.drew r g cs.toArray 173 := ⟨hb.heap, hb.role⟩
  have hcp1 := fun ty => run_copy_slice (P := Tryz.prog) hbd Tryz.underlying113 hi0 ty ((i + 1) * 2) (L.length - i) (cap - (i + 1)) ⟨g, i * 2, none⟩ (L.length + 1 - i) (cap - i) (L.length - i) (news := entsC (L.drop i)) (sT := 113)
    (by show min _ _ = _; omega) (by rw [hz1]; exact hyl) (fun j u hj => by
      rw [addr_add]
      show w.cell? _ = _
      rw [hb.cell]
      rw [← entsC_drop, List.getElem?_drop, ← htk, List.getElem?_take] at hj
      split at hj
      · simpa using hj
      · cases hj) (entsC_one _) (by rw [show (i + 1) * 2 = i * 2 + 2 by omega]; exact hfit)
  rw [show (i + 1) * 2 = i * 2 + 2 by omega] at hcp1 hcT4 hov
  have hb1 := hbd.setCells (i * 2 + 2) _ hfit
  have hl1 := laidAt_len hfit
  have hv1 : (w.drew.setCells g (i * 2 + 2) (entsC (L.drop i))).heap[vb]? = some (.cells #[.int .i64 e.1, .string ⟨e.2.toArray⟩] 173 (0, 0)) := by rw [heap_setCells_far g hne]; exact hv
  have hcp2 := fun ty => run_copy_slice (P := Tryz.prog) hb1 Tryz.underlying113 hi0 ty (i * 2) (L.length + 1 - i) (cap - i) ⟨vb, 0, none⟩ 1 1 1 (news := entC e) (sT := 113)
    (by show min _ _ = _; omega) (by rw [hz1]; rfl) (fun j u hj => by
      rw [addr_add, Nat.zero_add]
      simp only [World.cell?, hv1]
      unfold entC txt at hj
      simpa using hj) (fun u hu => by simp [entC] at hu; rcases hu with rfl | rfl <;> rfl) (by rw [hl1, hcl]; show i * 2 + 2 ≤ _; omega)
  have hb2 := hb1.setCells (i * 2) (entC e) (by rw [hl1, hcl]; show i * 2 + 2 ≤ _; omega)
  have hl2 : (laidAt (laidAt cs (i * 2 + 2) (entsC (L.drop i))) (i * 2) (entC e)).length = cap * 2 := by rw [laidAt_len (by rw [hl1, hcl]; show i * 2 + 2 ≤ _; omega), hl1, hcl]
  have D := Lib.hid (show InsDid o w r L i e (.returned (.slice (some ⟨g, 0, none⟩) (L.length + 1) cap)) ((w.drew.setCells g (i * 2 + 2) (entsC (L.drop i))).setCells g (i * 2) (entC e)) from by
    refine ⟨_, o, rfl, ?_, (((Stp.refl r o w).drew).setCells (by rw [hb.role]; exact List.prefix_refl _) _ _).setCells (by rw [hb.role]; exact List.prefix_refl _) _ _⟩
    have hr := hb2.row hl2 hroom hm
    rw [ins_take (m := 2) rfl hfit (by rw [hyl]; omega)] at hr
    have e1 : cs.take (i * 2) = entsC (L.take i) := by
      rw [← entsC_take, ← htk, List.take_take, Nat.min_eq_left (by omega)]
    rw [e1] at hr
    rw [show entsC (L.take i ++ e :: L.drop i) = entsC (L.take i) ++ entC e ++ entsC (L.drop i) by rw [entsC_app, List.append_assoc]; rfl]
    exact hr)
  have hil : ((i : Int) == (L.length : Int)) = false := beq_eq_false_iff_ne.2 (by omega)
  have hcapI : (L.length : Int) + 1 ≤ (cap : Int) := by omega
  have HC1 := Lib.hid hcp1
  have HC2 := Lib.hid hcp2
  have HOV := Lib.hid hov
  clear hb hb1 hb2 hbd hfit hl1 hl2 hcl htk haT haT3 haT4 hz1 hz2 hz0 h hcp1 hcp2 hov hv hv1 hne hvr hyl
  generalize w.drew.setCells g (i * 2 + 2) (entsC (L.drop i)) = w1 at *
  go_enter Tryz.func146, Tryz.ntmps146
  go_wp2_with fail
  rw [HOV.out]
  rw [Oper.upon_value]
  go_wp2_with fail
  have hw1 : IntKind.i64.wrap ((i : Int) + 1) = (i : Int) + 1 := by rw [IntKind.wrap_i64]; omega
  go_still_tail 8, (by kernel_rfl)
  change wpList _ _ _ _ _ (World.drew w)
  refine wpList_builtin2 rfl _ _ 113 113 rfl rfl rfl (fun ty => HC1.out ty) ?_
  clear HC1
  go_wp2_with (refine wpList_builtin2 rfl _ _ 113 113 rfl rfl rfl (fun ty => HC2.out ty) ?_)
  go_ret
  exact D.out
end
end Go.Proofs.YtcgecgilkapjaaaGreatDoor
namespace Go.Proofs.YtcgecgilkapjaaaGreatDoor
open Go Go.RowKit
section
variable {o : Roles} {w : World} {r : List Nat} {v : Value} {L : List Ent}
set_option maxRecDepth 10000 in
set_option maxHeartbeats 2000000 in
theorem insert_grow (h : Row o w r 173 2 v L.length (entsC L)) (i : Nat) (hi : i < L.length) (hn : L.length ≤ 1099511627776) {vb : Nat} (e : Ent) (hv : w.heap[vb]? = some (.cells #[.int .i64 e.1, .string ⟨e.2.toArray⟩] 173 (0, 0)))
    {g cap : Nat} (hv0 : v = .slice (some ⟨g, 0, none⟩) L.length cap) (hroom : cap < L.length + 1) :
    Calls Tryz.prog 146 #[v, .int .i64 i, .slice (some ⟨vb, 0, none⟩) 1 1] w (InsDid o w r L i e) := by
  obtain ⟨i0, hi0, hz0, hz1, hz2⟩ := info_parts infoEnt
  subst hv0
  obtain ⟨cs, hb, hcl, hnc, hm, htk⟩ := h.blk
  have hvl : vb < w.heap.size := (Array.getElem?_eq_some_iff.1 hv).1
  have hgl := hb.lt
  obtain ⟨C, hC⟩ : ∃ C, C = grownCap w (L.length + 1) cap 173 := ⟨_, rfl⟩
  have hCge : L.length + 1 ≤ C := by rw [hC]; exact grownCap_ge _ _ _ _
  have hCm : C ≤ maxLen := by rw [hC]; exact grownCap_le_maxLen _ _ _ _ (by unfold maxLen; omega)
  obtain ⟨a2, hcT, haT⟩ := cut_tail (P := Tryz.prog) Tryz.underlying113 hi0 g L.length cap i (by omega) i rfl
  obtain ⟨a3, hcT3, haT3⟩ := cut_tail (P := Tryz.prog) Tryz.underlying113 hi0 w.heap.size (L.length + 1) C i (by omega) i rfl
  obtain ⟨a4, hcT4, haT4⟩ := cut_tail (P := Tryz.prog) Tryz.underlying113 hi0 w.heap.size (L.length + 1) C (i + 1) (by omega) ((i : Int) + 1) (by simp)
  have hcH := cut_head (P := Tryz.prog) Tryz.underlying113 hi0 (some ⟨g, 0, none⟩) L.length cap i (by omega) i rfl
  obtain rfl := haT (by omega)
  obtain rfl := haT3 (by omega)
  obtain rfl := haT4 (by omega)
  rw [hz1] at hcT hcT3 hcT4
  rw [Nat.add_sub_add_right] at hcT4
  have hyl : (entsC (L.drop i)).length = (L.length - i) * 2 := by rw [entsC_len, List.length_drop]
  have htl : (entsC (L.take i)).length = i * 2 := by rw [entsC_len, List.length_take, Nat.min_eq_left (by omega)]
  have hcells : ∀ (k : Nat) u, (entsC L)[k]? = some u → w.cell? ⟨g, k, none⟩ = some u := fun k u hk => by
    rw [hb.cell]
    rw [← htk, List.getElem?_take] at hk
    split at hk
    · simpa using hk
    · cases hk
  have hold : (Builtin.firstCells i0.size i (.slice (some ⟨g, 0, none⟩) i cap)).run Tryz.prog w.drew = .ok (entsC (L.take i)).toArray w.drew := by
    rw [hz1]
    refine run_firstCells_some w.drew 2 i ⟨g, 0, none⟩ i cap _ htl (fun j u hj => ?_)
    rw [addr_add, Nat.zero_add]
    show w.cell? _ = _
    refine hcells j u ?_
    rw [← entsC_take, List.getElem?_take] at hj
    split at hj
    · exact hj
    · cases hj
  obtain ⟨nz, hnz⟩ : ∃ nz, nz = L.length + 1 - i := ⟨_, rfl⟩
  have hap := run_append_zeros_grow (P := Tryz.prog) 113 3 113 173 i0 (.agg #[.int .i64 0, .string ⟨#[]⟩]) .i64 .i64 Tryz.underlying113 Tryz.underlying3 hi0 hz0 w (some ⟨g, 0, none⟩) i cap nz _ hold (by omega) (by omega) (by omega) (by omega) (by
    rw [hz2, show i + nz = L.length + 1 by omega]
    exact growslice_fits (by omega) (by omega)) (by rw [hz2]; omega)
  rw [show i + nz = L.length + 1 by omega, ← hC] at hap
  obtain ⟨Z, hZ⟩ : ∃ Z, Z = (Builtin.zeroCells (Value.agg #[.int .i64 0, .string ⟨#[]⟩]).cells nz ++ Builtin.zeroCells (Value.agg #[.int .i64 0, .string ⟨#[]⟩]).cells (C - (L.length + 1))).toList := ⟨_, rfl⟩
  have hZl : Z.length = (C - i) * 2 := by
    rw [hZ, Array.length_toList, Array.size_append, size_zeroCells, size_zeroCells]
    show nz * 2 + (C - (L.length + 1)) * 2 = _
    omega
  have hZa : (entsC (L.take i)).toArray ++ Builtin.zeroCells (Value.agg #[.int .i64 0, .string ⟨#[]⟩]).cells nz ++ Builtin.zeroCells (Value.agg #[.int .i64 0, .string ⟨#[]⟩]).cells (C - (L.length + 1)) = (entsC (L.take i) ++ Z).toArray := by
    rw [hZ, Array.append_assoc]; apply Array.ext'; simp
  rw [hZa] at hap
  obtain ⟨w1, hw1⟩ : ∃ w1, w1 = w.drew.alloc (.cells (entsC (L.take i) ++ Z).toArray 173) := ⟨_, rfl⟩
  have hB : Below w.heap.size w w1 := by rw [hw1]; exact (Below.refl _ w).drew.alloc (Nat.le_refl _) _
  have hn1 : Blk (o.put w.heap.size r) w1 r w.heap.size (entsC (L.take i) ++ Z).toArray 173 := by rw [hw1]; exact Blk.new o w.drew r _ _ w.heap.size rfl
  have hs1 : Stp r o w (o.put w.heap.size r) w1 := by rw [hw1]; exact ((Stp.refl r o w).drew).alloc _ _ rfl
  rw [← hw1] at hap
  have hn1l : (entsC (L.take i) ++ Z).length = C * 2 := by rw [List.length_append, htl, hZl]; omega
  have hv1 : w1.heap[vb]? = some (.cells #[.int .i64 e.1, .string ⟨e.2.toArray⟩] 173 (0, 0)) := by rw [hB.block vb hvl]; exact hv
  have hcp2 := fun ty => run_copy_slice (P := Tryz.prog) hn1 Tryz.underlying113 hi0 ty (i * 2) (L.length + 1 - i) (C - i) ⟨vb, 0, none⟩ 1 1 1 (news := entC e) (sT := 113)
    (by show min _ _ = _; omega) (by rw [hz1]; rfl) (fun j u hj => by
      rw [addr_add, Nat.zero_add]
      simp only [World.cell?, hv1]
      unfold entC txt at hj
      simpa using hj) (fun u hu => by simp [entC] at hu; rcases hu with rfl | rfl <;> rfl) (by rw [hn1l]; show i * 2 + 2 ≤ _; omega)
  have hf2 : i * 2 + (entC e).length ≤ (entsC (L.take i) ++ Z).length := by rw [hn1l]; show i * 2 + 2 ≤ _; omega
  have hb2 := hn1.setCells (i * 2) (entC e) hf2
  have hl2 := laidAt_len hf2
  have hb2d : Blk (o.put w.heap.size r) (w1.setCells w.heap.size (i * 2) (entC e)).drew r w.heap.size (laidAt (entsC (L.take i) ++ Z) (i * 2) (entC e)).toArray 173 := ⟨hb2.heap, hb2.role⟩
  have hf3 : (i + 1) * 2 + (entsC (L.drop i)).length ≤ (laidAt (entsC (L.take i) ++ Z) (i * 2) (entC e)).length := by rw [hl2, hn1l, hyl]; omega
  have hcp3 := fun ty => run_copy_slice (P := Tryz.prog) hb2d Tryz.underlying113 hi0 ty ((i + 1) * 2) (L.length - i) (C - (i + 1)) ⟨g, i * 2, none⟩ (L.length - i) (cap - i) (L.length - i) (news := entsC (L.drop i)) (sT := 113)
    (by show min _ _ = _; omega) (by rw [hz1]; exact hyl) (fun j u hj => by
      rw [addr_add]
      show World.cell? (w1.setCells w.heap.size (i * 2) (entC e)) _ = _
      rw [← entsC_drop, List.getElem?_drop] at hj
      rw [← hcells _ _ hj]
      simp only [World.cell?]
      rw [heap_setCells_far _ (show g ≠ w.heap.size by omega), hB.block g hgl]) (entsC_one _) hf3
  have hb3 := hb2d.setCells ((i + 1) * 2) _ hf3
  have hl3 := laidAt_len hf3
  have D := Lib.hid (show InsDid o w r L i e (.returned (.slice (some ⟨w.heap.size, 0, none⟩) (L.length + 1) C)) ((w1.setCells w.heap.size (i * 2) (entC e)).drew.setCells w.heap.size ((i + 1) * 2) (entsC (L.drop i))) from by
    refine ⟨_, _, rfl, ?_, ((hs1.setCells (by rw [hn1.role]; exact List.prefix_refl _) _ _).drew).setCells (by rw [hn1.role]; exact List.prefix_refl _) _ _⟩
    have hr := hb3.row (by rw [hl3, hl2, hn1l]) hCge hCm
    rw [laidAt_take (by rw [hyl]; omega) (by rw [hl2, hn1l]; omega), laidAt_take (by show (i + 1) * 2 = i * 2 + 2; omega) (by rw [hn1l]; omega), List.take_left' htl] at hr
    rw [show entsC (L.take i ++ e :: L.drop i) = entsC (L.take i) ++ entC e ++ entsC (L.drop i) by rw [entsC_app, List.append_assoc]; rfl]
    exact hr)
  have hil : ((i : Int) == (L.length : Int)) = false := beq_eq_false_iff_ne.2 (by omega)
  have hcapI : ¬ ((L.length : Int) + 1 ≤ (cap : Int)) := by omega
  have hnzI : (L.length : Int) + 1 - (i : Int) = ((nz : Nat) : Int) := by omega
  have HC2 := Lib.hid hcp2
  have HC3 := Lib.hid hcp3
  have HAP := Lib.hid hap
  clear hw1
  have hw1 : IntKind.i64.wrap ((i : Int) + 1) = (i : Int) + 1 := by rw [IntKind.wrap_i64]; omega
  clear hb hn1 hb2 hb2d hb3 hl2 hl3 hf2 hf3 hcl htk haT haT3 haT4 hz1 hz2 hz0 h hcp2 hcp3 hap hv hv1 hyl htl hcells hold hZ hZl hZa hs1 hn1l hC hCm hnz
  clear hB
  generalize w.heap.size = nb at *
  go_enter Tryz.func146, Tryz.ntmps146
  go_wp2_with (first
    | (at_builtin
       refine Lib.wpList_append_run _ rfl _ _ 113 3 rfl _ _ rfl rfl _ _ HAP.out ?_)
    | (refine wpList_builtin2 rfl _ _ 113 113 rfl rfl rfl (fun ty => HC2.out ty) ?_))
  clear HC2 HAP
  go_still_tail 8, (by kernel_rfl)
  refine wpList_builtin2 rfl _ _ 113 113 rfl rfl rfl (fun ty => HC3.out ty) ?_
  clear HC3
  go_wp2_with fail
  go_ret
  exact D.out
/-- At the end. -/
theorem cut_any {P : Program} {t e : TypeId} {i : TypeInfo} (ht : P.underlying t = some (.slice e)) (hi : P.info? e = some i) {o : Roles} {w : World} {r : List Nat} {x : TypeId} {sz n : Nat} {v : Value} {xs : List Value} (h : Row o w r x sz v n xs) (I : Int) (hI : I = n) :
    ∃ V, ∀ W, (Instr.slice t v (some (.int .i64 I)) none none).run P W = .ok V W := by
  rcases h.form with ⟨rfl, rfl, _⟩ | ⟨g, cap, cur, rfl, _, _⟩
  · subst hI
    exact ⟨.slice none 0 0, fun W => by simp [Instr.slice, run_underlying ht, Instr.sliceBounds, Instr.sliceBound, asIntOf, sizeOf, typeInfo, hi]⟩
  · obtain ⟨a, ha, _⟩ := cut_tail (P := P) ht hi g n cap n (Nat.le_refl _) I hI
    exact ⟨_, ha⟩
set_option maxRecDepth 10000 in
set_option maxHeartbeats 2000000 in
theorem insert_end (h : Row o w r 173 2 v L.length (entsC L)) (hn : L.length ≤ 1099511627776) {vb : Nat} (e : Ent) (hv : w.heap[vb]? = some (.cells #[.int .i64 e.1, .string ⟨e.2.toArray⟩] 173 (0, 0))) :
    Calls Tryz.prog 146 #[v, .int .i64 L.length, .slice (some ⟨vb, 0, none⟩) 1 1] w (InsDid o w r L L.length e) := by
  obtain ⟨i0, hi0, hz0, hz1, hz2⟩ := info_parts infoEnt
  obtain ⟨V, hV⟩ := cut_any (P := Tryz.prog) Tryz.underlying113 hi0 h L.length rfl
  have HS := Lib.hid (ent_src hv)
  have HR := Lib.hid h
  obtain ⟨a, cap, rfl, _⟩ := id h.slice
  have hm1 : L.length + 1 ≤ maxLen := by unfold maxLen; omega
  have hm2 : (L.length + 1) * 24 ≤ 140737488355328 := by omega
  clear h hv
  go_enter Tryz.func146, Tryz.ntmps146
  go_wp2_with (
    at_builtin
    refine wpList_app _ rfl _ _ 113 113 rfl 173 i0 _ 2 24 Tryz.underlying113 hi0 hz0 hz1 hz2 rfl rfl HR.out rfl HS.out hm1 hm2 ?_
    intro v5 w5 o5 hrow5 hst5
    obtain ⟨a5, c5, rfl, _⟩ := id hrow5.slice
    have D := Lib.hid (show InsDid o w r L L.length e (.returned (.slice a5 (L.length + 1) c5)) w5 from ⟨_, o5, rfl, by
      rw [List.take_length, List.drop_length, entsC_app]; exact hrow5, hst5⟩)
    clear hrow5 hst5 HR HS)
  go_ret
  exact D.out
theorem insertE_ok (h : Row o w r 173 2 v L.length (entsC L)) (i : Nat) (hi : i ≤ L.length) (hn : L.length ≤ 1099511627776) {vb : Nat} (e : Ent) (hv : w.heap[vb]? = some (.cells #[.int .i64 e.1, .string ⟨e.2.toArray⟩] 173 (0, 0))) (hvr : o vb ≠ r) :
    Calls Tryz.prog 146 #[v, .int .i64 i, .slice (some ⟨vb, 0, none⟩) 1 1] w (InsDid o w r L i e) := by
  rcases Nat.lt_or_ge i L.length with hlt | hge
  · obtain ⟨g, cap, hv0, hc⟩ := h.some_form (by omega)
    rcases Nat.lt_or_ge cap (L.length + 1) with h1 | h1
    · exact insert_grow h i hlt hn e hv hv0 h1
    · exact insert_room h i hlt (by omega) e hv hvr hv0 h1
  · obtain rfl : i = L.length := by omega
    exact insert_end h hn e hv
end
end Go.Proofs.YtcgecgilkapjaaaGreatDoor
namespace Go.Proofs.YtcgecgilkapjaaaGreatDoor
open Go Go.RowKit
theorem npa {q : List Nat} {a b : Nat} (h : a ≠ b) : ¬ q ++ [a] <+: q ++ [b] := by
  rw [List.prefix_append_right_inj]
  simp [h]
theorem npb {q : List Nat} {a : Nat} : ¬ q ++ [a] <+: q := by
  intro h
  have := h.length_le
  simp at this
  omega
section
variable {o : Roles} {w : World} {r : List Nat} {d n : Nat} {T : TK}
def DropDid (o : Roles) (w : World) (r : List Nat) (d : Nat) (T : TK) (n : Nat) (b : Bool) (e : Ending) (w' : World) : Prop :=
  e = .returned (.bool b) ∧ ∃ o', DueI o' w' r d T n ∧ Stp r o w o' w'
set_option maxRecDepth 10000 in
set_option maxHeartbeats 2000000 in
theorem due_drop_some (h : DueI o w r d T n) (k : List UInt8) {t : Int} (hk : T k = some t) (hn : n ≤ 1099511627777) : Calls Tryz.prog 76 #[.pointer (some ⟨d, 0, none⟩), txt k] w (DropDid o w r d (T.del k) n true) := by
  obtain ⟨m2, tks, ov, L, h⟩ := h
  have hlk := run_look (P := Tryz.prog) h.ticks Tryz.underlying89 Tryz.underlying9 k true (zeroInt _)
  rw [h.look k, hk] at hlk
  have hmem : (t, k) ∈ L := (h.step (t, k)).2 hk
  have hpos := posE_mem h.rise hmem
  have hpl : posE L (t, k) < L.length := (List.getElem?_eq_some_iff.1 hpos).1
  have hlen : L.length ≤ 1099511627777 := Nat.le_trans h.few hn
  have hc := h.blk.cell
  have hf := h.blk.free
  have HB := Lib.hid (bsearch_ok h.ord.vw h.rise (by omega) (t, k))
  have HDL := Lib.hid (fun W (hW : Below w.heap.size w W) => deleteE_ok (h.ord.below' hW) (posE L (t, k)) hpl)
  have HFIN := Lib.hid (fun (w3 w4 : World) (v' : Value) (hrow : Row o w3 (r ++ [1]) 173 2 v' (L.length - 1) (entsC (L.take (posE L (t, k)) ++ L.drop (posE L (t, k) + 1)))) (hb : Blk o w3 r d #[.map (some m2), v'] 115) (hst : Stp r o w o w3)
      (hm : MBlk o w4 (r ++ [0]) m2 (mdel tks k)) (st4 : Stp (r ++ [0]) o w3 o w4) => show DropDid o w r d (T.del k) n true (.returned (.bool true)) w4 from
    ⟨rfl, o, ⟨m2, mdel tks k, v', delE L (t, k), hb.keep st4 npb, hm, by
      have hd := delE_len h.rise hmem
      have : (delE L (t, k)).length = L.length - 1 := by omega
      rw [this]
      exact hrow.keep st4 (npa (by decide)), (keys_del tks k).nodup h.nodup, delE_rising h.rise _, fun j => by
        rw [mfind_del h.nodup]; unfold TK.del
        by_cases hj : j = k
        · rw [if_pos hj, if_pos hj]; rfl
        · rw [if_neg hj, if_neg hj]; exact h.look j, h.step.del h.rise hk, by
        have hd := delE_len h.rise hmem
        have := h.few
        omega, fun j u hu => by
        unfold TK.del at hu
        by_cases hj : j = k
        · rw [if_pos hj] at hu; cases hu
        · rw [if_neg hj] at hu; exact h.lim j u hu⟩, hst.trans (st4.wide (List.prefix_append _ _))⟩)
  have HH := Lib.hid h
  obtain ⟨a0, c0, rfl, _⟩ := id h.ord.slice
  have hpw : IntKind.i64.wrap ((posE L (t, k) : Nat) : Int) = ((posE L (t, k) : Nat) : Int) := by rw [IntKind.wrap_i64]; omega
  have hp1 : ((posE L (t, k) : Nat) : Int) ≤ 1099511627777 := by omega
  clear h hk hmem hpos
  unfold entV at HB
  unfold txt at *
  dsimp only at HB
  generalize posE L (t, k) = i at *
  clear hpl hpw
  simp only [Option.map_some, Option.getD_some, Option.isSome_some, if_true] at hlk
  go_enter Tryz.func76, Tryz.ntmps76
  go_wp2_with fail
  refine HB.out.mono ?_; rintro e w1 ⟨b1, rfl, hB1⟩
  have hcc := (HH.out.blk.below hB1).cell
  have HD1 := Lib.hid (HDL.out w1 hB1)
  have HBW := Lib.hid hB1
  clear hB1 HB HDL hc hf hlk
  go_wp2_with fail
  refine HD1.out.mono ?_; rintro e w2 ⟨v2, rfl, hrow, hst⟩
  obtain ⟨a2, c2, rfl, _⟩ := id hrow.slice
  have hb2 := (HH.out.blk.below HBW.out).keep hst npb
  have hm2 := (HH.out.ticks.below HBW.out).keep hst (npa (by decide))
  have hcc2 := hb2.cell
  have hff2 := hb2.free
  have hb3 := hb2.setCell 1 (.slice a2 (L.length - 1) c2)
  have hs3 : Stp r o w o (w2.setCell ⟨d, 1, none⟩ (.slice a2 (L.length - 1) c2)) := (((Stp.ofBelow r o HBW.out).trans (hst.wide (List.prefix_append _ _)))).setCell (by show r <+: o d; rw [hb2.role]; exact List.prefix_refl _) _
  have hrow3 := hrow.setCell ⟨d, 1, none⟩ (.slice a2 (L.length - 1) c2) (by show o d ≠ _; rw [hb2.role]; simp)
  have hm3 := hm2.setCell ⟨d, 1, none⟩ (.slice a2 (L.length - 1) c2) (by show o d ≠ _; rw [hb2.role]; simp)
  have HM3 := Lib.hid hm3
  have HF := Lib.hid (fun w4 => HFIN.out (w2.setCell ⟨d, 1, none⟩ (.slice a2 (L.length - 1) c2)) w4 (.slice a2 (L.length - 1) c2) hrow3 hb3 hs3)
  clear hrow hst hb2 hm2 hb3 hs3 hrow3 hm3 HFIN HD1 HH hcc HBW
  go_wp2_with (
    refine wpList_del rfl _ _ 89 9 rfl Tryz.underlying89 Tryz.underlying9 HM3.out rfl (k := k) rfl ?_
    intro w4 hm4 st4
    have D := Lib.hid (HF.out w4 hm4 st4)
    clear hm4 st4 HF HM3)
  go_ret
  exact D.out
set_option maxRecDepth 10000 in
theorem due_drop_none (h : DueI o w r d T n) (k : List UInt8) (hk : T k = none) : Calls Tryz.prog 76 #[.pointer (some ⟨d, 0, none⟩), txt k] w (DropDid o w r d (T.del k) n false) := by
  have D := Lib.hid (show DropDid o w r d (T.del k) n false (.returned (.bool false)) w from ⟨rfl, o, by rw [TK.del_none hk]; exact h, Stp.refl _ _ _⟩)
  obtain ⟨m2, tks, ov, L, h⟩ := h
  have hlk := run_look (P := Tryz.prog) h.ticks Tryz.underlying89 Tryz.underlying9 k true (zeroInt _)
  rw [h.look k, hk] at hlk
  have hc := h.blk.cell
  clear h hk
  unfold txt at *
  simp only [Option.map_none, Option.getD_none, Option.isSome_none, if_true] at hlk
  go_enter Tryz.func76, Tryz.ntmps76
  go_wp2
  go_ret
  exact D.out
theorem due_drop (h : DueI o w r d T n) (k : List UInt8) (hn : n ≤ 1099511627777) : Calls Tryz.prog 76 #[.pointer (some ⟨d, 0, none⟩), txt k] w (DropDid o w r d (T.del k) n (T k).isSome) := by
  cases hk : T k with
  | none => exact due_drop_none h k hk
  | some t => exact due_drop_some h k hk hn
end
end Go.Proofs.YtcgecgilkapjaaaGreatDoor
namespace Go.Proofs.YtcgecgilkapjaaaGreatDoor
open Go Go.RowKit
section
variable {o : Roles} {w : World} {r : List Nat} {d n : Nat} {T : TK}
/-- A block that is new and none of the index's. -/
abbrev spare (r : List Nat) : List Nat := r ++ [2]
def SetDidD (o : Roles) (w : World) (r : List Nat) (d : Nat) (T : TK) (n : Nat) (e : Ending) (w' : World) : Prop :=
  e = .returned (.int .i64 0) ∧ ∃ o', DueI o' w' r d T n ∧ Stp r o w o' w'
set_option maxRecDepth 10000 in
set_option maxHeartbeats 4000000 in
theorem due_set (h : DueI o w r d T n) (k : List UInt8) (t : Int) (h0 : 0 ≤ t) (h1 : t ≤ 9007199254740992) (hn : n ≤ 1099511627776) : Calls Tryz.prog 77 #[.pointer (some ⟨d, 0, none⟩), txt k, .int .i64 t] w (SetDidD o w r d (T.put k t) (n + 1)) := by
  have HD := Lib.hid (due_drop h k (by omega))
  have HDL := Lib.hid (show 0 ≤ t ∧ t ≤ 9007199254740992 from ⟨h0, h1⟩)
  obtain ⟨i0, hi0, hz0, hz1, hz2⟩ := info_parts infoEnt
  have d0 : decide (t < 0) = false := decide_eq_false (by omega)
  have d1 : decide (9007199254740992 < t) = false := decide_eq_false (by omega)
  clear h
  unfold txt at *
  go_enter Tryz.func77, Tryz.ntmps77
  go_wp2_with fail
  refine HD.out.mono ?_; rintro e w1 ⟨rfl, o1, ⟨m2, tks, ov, L, h1⟩, st1⟩
  clear HD d0 d1
  obtain ⟨o2, ho2⟩ : ∃ o2, o2 = o1.from w1.heap.size (spare r) := ⟨_, rfl⟩
  have hnew : ∀ b, w1.heap.size ≤ b → o2 b = spare r := fun b hb => by rw [ho2]; exact Roles.from_new hb
  have hS2 : Stp r o w o2 w1 := by rw [ho2]; exact st1.trans (Stp.from0 r o1 w1 _)
  have hblk : Blk o2 w1 r d #[.map (some m2), ov] 115 := by rw [ho2]; exact h1.blk.from
  have htks : MBlk o2 w1 (r ++ [0]) m2 tks := by rw [ho2]; exact h1.ticks.from
  have hord : Row o2 w1 (r ++ [1]) 173 2 ov L.length (entsC L) := by rw [ho2]; exact h1.ord.from
  have HP := Lib.hid (show (tks.map Prod.fst).Nodup ∧ Rising L ∧ (∀ k_1, mfind tks k_1 = (T.del k k_1).map fun t => .int .i64 t) ∧ InStep (T.del k) L ∧ L.length ≤ n ∧ (∀ j u, T.del k j = some u → 0 ≤ u ∧ u ≤ 9007199254740992) from ⟨h1.nodup, h1.rise, h1.look, h1.step, h1.few, h1.lim⟩)
  obtain ⟨a0, c0, rfl, _⟩ := id hord.slice
  have HB := Lib.hid hblk
  have HT := Lib.hid htks
  have HO := Lib.hid hord
  have HS := Lib.hid hS2
  have HN := Lib.hid hnew
  have hc := hblk.cell
  have hlen : L.length ≤ 1099511627776 := Nat.le_trans h1.few hn
  clear h1 st1 ho2 hS2 hblk htks hord hnew
  go_wp2_with (
    refine wpList_put rfl _ _ _ 89 rfl Tryz.underlying89 Tryz.underlying9 HT.out rfl (k := k) rfl rfl ?_
    intro w2 hm2 st2
    replace hm2 : MBlk o2 w2 (r ++ [0]) m2 (mput tks k (.int .i64 t)) := hm2
    have hb2 := HB.out.keep st2 npb
    have ho2 := HO.out.keep st2 (npa (by decide))
    have HB2 := Lib.hid hb2
    have HM2 := Lib.hid hm2
    have HO2 := Lib.hid ho2
    have HS2 := Lib.hid (HS.out.trans (st2.wide (List.prefix_append _ _)))
    have HSZ := Lib.hid st2.size
    have hc2 := hb2.cell
    clear hb2 ho2 hm2 st2 HB HO HS HT hc)
  obtain ⟨w3, hw3⟩ : ∃ w3, w3 = w2.alloc (.cells #[.int .i64 t, .string ⟨k.toArray⟩] 173) := ⟨_, rfl⟩
  rw [← hw3]
  have hB3 : Below w2.heap.size w2 w3 := by rw [hw3]; exact lit_below _ _
  have hE3 : Blk o2 w3 (spare r) w2.heap.size #[.int .i64 t, .string ⟨k.toArray⟩] 173 := by rw [hw3]; exact ⟨heap_alloc_new _ _, HN.out _ HSZ.out⟩
  have HB3 := Lib.hid (HB2.out.below hB3)
  have HM3 := Lib.hid (HM2.out.below hB3)
  have HO3 := Lib.hid (HO2.out.below' hB3)
  have HS3 := Lib.hid (HS2.out.trans (Stp.ofBelow r o2 hB3))
  have HE3 := Lib.hid hE3
  have HSZ3 := Lib.hid (Nat.le_trans HSZ.out hB3.size)
  clear hw3 hB3 hE3 HB2 HM2 HO2 HS2 HSZ hc2
  generalize w2.heap.size = eb at *
  try clear w2
  have hS3 : w3.cell? ⟨d, 1, none⟩ = some (.slice a0 L.length c0) ∧ w3.cell? ⟨eb, 0, none⟩ = some (.int .i64 t) ∧ w3.cell? ⟨eb, 1, none⟩ = some (.string ⟨k.toArray⟩) := ⟨HB3.out.cell 1, HE3.out.cell 0, HE3.out.cell 1⟩
  have HBS := Lib.hid (show ∀ W, Below w3.heap.size w3 W → _ from fun W hW => bsearch_ok ((HO3.out.below' hW).vw) HP.out.2.1 (by omega) (t, k))
  unfold entV at HBS
  dsimp only at HBS
  go_region_held (fun W => W.cell? ⟨d, 1, none⟩ = some (.slice a0 L.length c0) ∧ W.cell? ⟨eb, 0, none⟩ = some (.int .i64 t) ∧ W.cell? ⟨eb, 1, none⟩ = some (.string ⟨k.toArray⟩))
    (first | exact hS3 | exact hS3b | (go_simp; done)) (
    ((with_reducible refine (HBS.out _ ?_).mono ?_)
     · repeat (first | exact Below.refl _ _ | refine Below.drew ?_ | refine below_drewN ?_ _)
     rintro e w4 ⟨b4, rfl, hB4⟩
     have hB4' : Below w3.heap.size w3 w4 := Below.trans (by repeat (first | exact Below.refl _ _ | refine Below.drew ?_ | refine below_drewN ?_ _)) hB4
     have hS3b : w4.cell? ⟨d, 1, none⟩ = some (.slice a0 L.length c0) ∧ w4.cell? ⟨eb, 0, none⟩ = some (.int .i64 t) ∧ w4.cell? ⟨eb, 1, none⟩ = some (.string ⟨k.toArray⟩) := ⟨cell_below hB4' hS3.1, cell_below hB4' hS3.2.1, cell_below hB4' hS3.2.2⟩
     have HBB := Lib.hid hB4'
     clear hB4 hB4' HBS))
  have hB4' := HBB.out
  have hpl := posE_le L (t, k)
  have HB4 := Lib.hid (HB3.out.below hB4')
  have HM4 := Lib.hid (HM3.out.below hB4')
  have HO4 := Lib.hid (HO3.out.below' hB4')
  have HS4 := Lib.hid (HS3.out.trans (Stp.ofBelow r o2 hB4'))
  have HE4 := Lib.hid (HE3.out.below hB4')
  have HSZ4 := Lib.hid (Nat.le_trans HSZ3.out hB4'.size)
  clear hB4' HBB HB3 HM3 HO3 HS3 HE3 HSZ3 hS3 hS3b
  have HIN := Lib.hid (show ∀ (W : World), Below w4.heap.size w4 W → Calls Tryz.prog 146 #[.slice a0 L.length c0, .int .i64 ((posE L (t, k) : Nat) : Int), .slice (some ⟨W.heap.size, 0, none⟩) 1 1] (W.alloc (.cells #[.int .i64 t, .string ⟨k.toArray⟩] 173)) (InsDid o2 (W.alloc (.cells #[.int .i64 t, .string ⟨k.toArray⟩] 173)) (r ++ [1]) L (posE L (t, k)) (t, k)) from fun W hW =>
    insertE_ok (HO4.out.below' (hW.alloc hW.size _)) (posE L (t, k)) hpl hlen (t, k) (heap_alloc_new W _) (by rw [HN.out _ (Nat.le_trans HSZ4.out hW.size)]; simp))
  have HFIN := Lib.hid (show ∀ (W w5 : World) (o5 : Roles) (a5 : Option Addr) (c5 : Nat), Below w4.heap.size w4 W → Row o5 w5 (r ++ [1]) 173 2 (.slice a5 (L.length + 1) c5) (L.length + 1) (entsC (L.take (posE L (t, k)) ++ (t, k) :: L.drop (posE L (t, k)))) → Stp (r ++ [1]) o2 W o5 w5 →
      SetDidD o w r d (T.put k t) (n + 1) (.returned (.int .i64 0)) (w5.setCell ⟨d, 1, none⟩ (.slice a5 (L.length + 1) c5)) ∧ Blk o5 w5 r d #[.map (some m2), .slice a0 L.length c0] 115 ∧ Blk o5 w5 (spare r) eb #[.int .i64 t, .string ⟨k.toArray⟩] 173 from fun W w5 o5 a5 c5 hW hrow hst => by
    have hb5 := (HB4.out.below hW).keep hst npb
    have hm5 := (HM4.out.below hW).keep hst (npa (by decide))
    have he5 := (HE4.out.below hW).keep hst (npa (by decide))
    refine ⟨⟨rfl, o5, ⟨m2, mput tks k (.int .i64 t), _, insE L (t, k), hb5.setCell 1 _, hm5.setCell _ _ (by show o5 d ≠ _; rw [hb5.role]; simp), by
        rw [insE_len]; exact hrow.setCell _ _ (by show o5 d ≠ _; rw [hb5.role]; simp), nodup_put HP.out.1 _ _, insE_rising HP.out.2.1 (fun hm => by
          have := (HP.out.2.2.2.1 (t, k)).1 hm
          unfold TK.del at this
          rw [if_pos rfl] at this; cases this), fun j => ?_, ?_, by rw [insE_len]; have := HP.out.2.2.2.2.1; omega, fun j u hu => ?_⟩,
        (HS4.out.trans ((Stp.ofBelow r o2 hW).trans (hst.wide (List.prefix_append _ _)))).setCell (by show r <+: o5 d; rw [hb5.role]; exact List.prefix_refl _) _⟩, hb5, he5⟩
    · rw [mfind_put]
      unfold TK.put
      by_cases hj : j = k
      · rw [if_pos hj, if_pos hj]; rfl
      · rw [if_neg hj, if_neg hj, HP.out.2.2.1 j]; unfold TK.del; rw [if_neg hj]
    · have := HP.out.2.2.2.1.put t (show (T.del k) k = none from if_pos rfl)
      rw [TK.put_del] at this
      exact this
    · unfold TK.put at hu
      by_cases hj : j = k
      · rw [if_pos hj] at hu; cases hu; exact HDL.out
      · rw [if_neg hj] at hu
        exact HP.out.2.2.2.2.2 j u (by unfold TK.del; rw [if_neg hj]; exact hu))
  have HIN1 := Lib.hid (HIN.out w4.drew (Below.refl _ w4).drew)
  have HEN := Lib.hid (show ∀ us w, (callFunc 146 us).run Tryz.prog w = .ok (.enter 146 us) w from enters_of Tryz.func146 (by kernel_rfl) rfl)
  have HBA := Lib.hid (show Below w4.heap.size w4 (w4.drew.alloc (.cells #[.int .i64 t, .string ⟨k.toArray⟩] 173)) from (Below.refl _ w4).drew.alloc (Nat.le_refl _) _)
  clear HIN
  generalize posE L (t, k) = i at *
  have hS4 : w4.cell? ⟨d, 1, none⟩ = some (.slice a0 L.length c0) ∧ w4.cell? ⟨eb, 0, none⟩ = some (.int .i64 t) ∧ w4.cell? ⟨eb, 1, none⟩ = some (.string ⟨k.toArray⟩) ∧ w4.frozen? ⟨d, 1, none⟩ = false := ⟨HB4.out.cell 1, HE4.out.cell 0, HE4.out.cell 1, HB4.out.free 1⟩
  clear HB4 HM4 HO4 HS4 HE4 HSZ4 hpl HP HN HDL
  obtain ⟨hd1, he0, he1, hdf⟩ := hS4
  have ha1 : (w4.alloc (.cells #[.int .i64 t, .string ⟨k.toArray⟩] 173)).cell? ⟨d, 1, none⟩ = some (.slice a0 L.length c0) := cell_below (lit_below w4 _) hd1
  have ha2 : (w4.alloc (.cells #[.int .i64 t, .string ⟨k.toArray⟩] 173)).cell? ⟨eb, 0, none⟩ = some (.int .i64 t) := cell_below (lit_below w4 _) he0
  have ha3 : (w4.alloc (.cells #[.int .i64 t, .string ⟨k.toArray⟩] 173)).cell? ⟨eb, 1, none⟩ = some (.string ⟨k.toArray⟩) := cell_below (lit_below w4 _) he1
  go_wp2_with fail
  go_region_law (
    refine step_call (f := 146) rfl _ _ rfl (by rfl) HEN.out HIN1.out ?_
    rintro e w5 ⟨v5, o5, rfl, hrow5, hst5⟩
    obtain ⟨a5, c5, rfl, _⟩ := id hrow5.slice
    refine ⟨_, rfl, ?_⟩
    obtain ⟨D0, hb5, _⟩ := HFIN.out _ w5 o5 a5 c5 HBA.out hrow5 hst5
    have hd5 : w5.cell? ⟨d, 1, none⟩ = some (.slice a0 L.length c0) := hb5.cell 1
    have hf5 : w5.frozen? ⟨d, 1, none⟩ = false := hb5.free 1
    have D := Lib.hid D0
    clear D0 hb5 hrow5 hst5)
  all_goals (
    clear HFIN HIN1 HEN HBA
    go_wp2_with fail
    go_ret
    exact D.out)
end
end Go.Proofs.YtcgecgilkapjaaaGreatDoor
