import Derived.Test.YtgmmeeikjofefaaGreatDoorDq
namespace Go.Proofs.YtgmmeeikjofefaaGreatDoor
open Go Go.RowKit
section
variable {o : Roles} {w : World} {r : List Nat} {d B : Nat} {l : List (List UInt8)}
theorem cutT (g n cap : Nat) (h1 : 1 ≤ n) (h2 : n ≤ cap) (I : Int) (hI : I = (n : Int) - 1) (W : World) : (Instr.slice 22 (.slice (some ⟨g, 0, none⟩) n cap) (some (.int .i64 I)) none none).run Tryz.prog W = .ok (.slice (some ⟨g, n - 1, none⟩) 1 (cap - (n - 1))) W := by
  obtain ⟨m, rfl⟩ : ∃ m, n = m + 1 := ⟨n - 1, by omega⟩
  have hI' : I = (m : Int) := by omega
  subst hI'
  obtain ⟨i0, hi0, hz0, hz1, hz2⟩ := info_parts infoS
  simp [Instr.slice, run_underlying Tryz.underlying22, Instr.sliceBounds, Instr.sliceBound, asIntOf, sizeOf, typeInfo, hi0, hz1, addr_add]
  intro h; omega
theorem cutH (g n cap : Nat) (h1 : 1 ≤ n) (h2 : n ≤ cap) (I : Int) (hI : I = (n : Int) - 1) (W : World) : (Instr.slice 22 (.slice (some ⟨g, 0, none⟩) n cap) none (some (.int .i64 I)) none).run Tryz.prog W = .ok (.slice (some ⟨g, 0, none⟩) (n - 1) cap) W := by
  obtain ⟨m, rfl⟩ : ∃ m, n = m + 1 := ⟨n - 1, by omega⟩
  have hI' : I = (m : Int) := by omega
  subst hI'
  obtain ⟨i0, hi0, hz0, hz1, hz2⟩ := info_parts infoS
  simp [Instr.slice, run_underlying Tryz.underlying22, Instr.sliceBounds, Instr.sliceBound, asIntOf, sizeOf, typeInfo, hi0, addr_add]
  intro h; omega
theorem Row.cut {o : Roles} {w : World} {r : List Nat} {e : TypeId} {g n cap m : Nat} {xs : List Value} (h : Row o w r e 1 (.slice (some ⟨g, 0, none⟩) n cap) n xs) (hm : m ≤ n) : Row o w r e 1 (.slice (some ⟨g, 0, none⟩) m cap) m (xs.take m) := by
  rcases h.form with ⟨h1, _, _⟩ | ⟨g', cap', cur, h1, hb, h3, h4, h5, h6⟩
  · cases h1
  · injection h1 with e1 _ e3
    injection e1 with e1
    injection e1 with e1
    subst e1 e3
    refine ⟨⟨by rw [List.length_take, h.len]; omega, .inr ⟨g, cap, cur, rfl, Nat.zero_le _, hb.heap, by omega, h4, h5, ?_⟩⟩, h.role⟩
    rw [← h6, List.take_take]
    congr 1
    omega
set_option maxRecDepth 10000 in
theorem rev1_ok {A : Nat → Prop} {w : World} {v : Value} {xs : List Value} (h : Vw A w v 1 1 xs) : Calls Tryz.prog 127 #[v] w fun e w' => e = .returned (.tuple #[]) ∧ w' = w := by
  obtain ⟨a, c, rfl, _⟩ := h.slice
  clear h
  go_enter Tryz.func127, Tryz.ntmps127
  go_wp2_with fail
  go_loopw [2, 3] (fun i j wr => wr = w ∧ i = .int .i64 0 ∧ j = .int .i64 0) (fun i _ _ => (intOf i).toNat)
  case atStart => exact ⟨rfl, rfl, rfl⟩
  case round =>
    obtain ⟨rfl, rfl, rfl⟩ := hrel
    go_wp2_with fail
    go_end0
    exact ⟨rfl, rfl⟩
set_option maxRecDepth 10000 in
set_option maxHeartbeats 1000000 in
theorem dpopBack_ok {x : List UInt8} {t : List (List UInt8)} (h : DeqI o w r d B (t ++ [x])) (hB : B ≤ 1099511627776) :
    Calls Tryz.prog 71 #[.pointer (some ⟨d, 0, none⟩), .int .i64 1] w fun e w' => ∃ v' o', e = .returned v' ∧ DeqI o' w' r d B t ∧ Vw (fun b => w.heap.size ≤ b) w' v' 1 1 [txt x] ∧ Stp r o w o' w' := by
  have HLN := Lib.hid (dlen_ok h)
  obtain ⟨sv, junk, h⟩ := h
  have hf := h.few
  rw [List.length_append, List.length_singleton] at hf
  have hk : junk.length + t.length < junk.length + (t ++ [x]).length := by simp
  obtain ⟨g, cap, hsv, hcap, hog, _, _, _⟩ := h.row.set1 hk (.string ⟨#[]⟩)
  subst hsv
  have em : min (1 : Int) ((t ++ [x]).length : Int) = 1 := by simp; omega
  have em2 : max (0 : Int) 1 = 1 := rfl
  have em3 : ((max (0 : Int) 1) == 0) = false := rfl
  have HH := Lib.hid h
  have hNN : junk.length + (t ++ [x]).length = junk.length + t.length + 1 := by simp; omega
  have hb := h.blk.cell
  clear h hk
  rw [hNN] at hcap HH hb
  have hjt : junk.length + t.length + 1 ≤ B := by omega
  obtain ⟨N, hN⟩ : ∃ N, N = junk.length + t.length + 1 := ⟨_, rfl⟩
  rw [← hN] at hcap HH hb hjt
  have hc1 := cutT g N cap (by omega) hcap _ rfl
  have hc2 := cutH g N cap (by omega) hcap _ rfl
  have hgl : g < w.heap.size := HH.out.row.lt g rfl
  have hcellx : w.cell? ⟨g, N - 1, none⟩ = some (txt x) := by
    have hk2 : N - 1 < junk.length + (t ++ [x]).length := by rw [hNN]; omega
    have hr := HH.out.row
    rw [hNN, ← hN] at hr
    obtain ⟨g2, c2, e, _, _, _, hce, _⟩ := hr.set1 (k := N - 1) (by omega) (.string ⟨#[]⟩)
    injection e with e1 _ _
    injection e1 with e1
    injection e1 with e1 _ _
    subst e1
    rw [hce, hN]
    rw [List.map_append, ← List.append_assoc, List.getElem?_append_right (by simp)]
    simp
  have hcapm : cap ≤ maxLen := by
    obtain ⟨a0, c0, e0, _, h0, _⟩ := HH.out.row.slice
    injection e0 with _ _ e2
    omega
  have HN := Lib.hid hN
  have HNN := Lib.hid (show junk.length + (t ++ [x]).length = N from hNN.trans hN.symm)
  clear hN hNN hf
  generalize (t ++ [x]).length = n at *
  have hN1 : 1 ≤ N := by have := HN.out; omega
  go_enter Tryz.func71, Tryz.ntmps71
  go_wp2_with fail
  refine HLN.out.mono ?_; rintro e w1 ⟨rfl, k, rfl⟩
  have hvk : Vw (fun b => o b = r ++ [0]) (w.drewN k) (.slice (some ⟨g, N - 1, none⟩) 1 (cap - (N - 1))) 1 1 ([x].map txt) := by
    refine ⟨⟨_, _, rfl, by omega, ?_, .inr ⟨g, N - 1, rfl, hgl, hog, fun j u hj => ?_⟩⟩, rfl⟩
    · omega
    · have e : j = 0 := by have := (List.getElem?_eq_some_iff.1 hj).1; simp at this; exact this
      subst e
      cases hj
      exact hcellx
  have HC := Lib.hid (cloneS_ok hvk (one_list [x]) (by decide))
  have HCX := Lib.hid hcellx
  clear hvk HLN hcellx
  go_wp2_with fail
  refine HC.out.mono ?_; rintro e w3 ⟨v', rfl, hF⟩
  have hB3 : Below w.heap.size w w3 := (below_drewN (Below.refl _ w) k).trans hF.below
  have hv' : Vw (fun b => w.heap.size ≤ b) w3 v' 1 1 [txt x] := hF.vw
  obtain ⟨a6, c6, rfl, _⟩ := id hv'.slice
  have h3 := HH.out.below hB3
  have hb3 := h3.blk.cell
  have HV := Lib.hid hv'
  have HB3 := Lib.hid hB3
  clear hF hv' hB3 HC hb
  go_wp2_with fail
  refine (rev1_ok HV.out).mono ?_; rintro e w4 ⟨rfl, rfl⟩
  have hr4 : Row o w4 (r ++ [0]) 9 1 (.slice (some ⟨g, 0, none⟩) N cap) N (junk.map txt ++ (t ++ [x]).map txt) := by
    have := h3.row
    rw [show junk.length + (t ++ [x]).length = N by have := HN.out; simp; omega] at this
    exact this
  obtain ⟨g2, cap2, hsv2, _, _, hfz, hce, hrow⟩ := hr4.set1 (k := N - 1) (by omega) (.string ⟨#[]⟩)
  injection hsv2 with e1 _ e3
  injection e1 with e1
  injection e1 with e1 _ _
  subst e1 e3
  have hcell : (w4.cell? ⟨g, N - 1, none⟩).isSome = true := by
    rw [hce, List.getElem?_eq_getElem (by have := HN.out; simp; omega)]; rfl
  have hne : d ≠ g := fun e => by
    have h1 := h3.blk.role
    rw [e, hog] at h1
    simp at h1
  have hblk5 : Blk o (w4.setCell ⟨g, N - 1, none⟩ (.string ⟨#[]⟩)) r d _ _ := h3.blk.setOther ⟨g, N - 1, none⟩ (.string ⟨#[]⟩) hne
  have HB5 := Lib.hid hblk5
  have HROW := Lib.hid (hrow.cut (m := N - 1) (by omega))
  clear h3 hr4 hce hrow hblk5 em em2 em3
  go_wp2_with (
    refine wpList_clear1 rfl _ rfl rfl hcell hfz ?_
    have hb5 := HB5.out.cell
    have hf5 := HB5.out.free
    generalize hW5 : w4.setCell ⟨g, N - 1, none⟩ (.string ⟨#[]⟩) = w5 at *
    clear hb3 hcell hfz)
  go_ret
  refine ⟨_, o, rfl, ?_, ?_, ?_⟩
  · have e1 : ((junk.map txt ++ (t ++ [x]).map txt).set (N - 1) (.string ⟨#[]⟩)).take (N - 1) = junk.map txt ++ t.map txt := by
      rw [List.take_set, List.set_eq_of_length_le (by simp; omega), List.map_append, ← List.append_assoc, List.take_append_of_le_length (by have := HN.out; simp; omega), List.take_of_length_le (by have := HN.out; simp; omega)]
    have e2 : N - 1 = junk.length + t.length := by have := HN.out; omega
    refine ⟨.slice (some ⟨g, 0, none⟩) (N - 1) cap, junk, ?_, ?_, by have := HN.out; omega⟩
    · have := HB5.out.setCell 0 (.slice (some ⟨g, 0, none⟩) (N - 1) cap)
      simpa using this
    · have hr := HROW.out.setCell ⟨d, 0, none⟩ (.slice (some ⟨g, 0, none⟩) (N - 1) cap) (by show o d ≠ r ++ [0]; rw [HB5.out.role]; exact np2.symm)
      rw [e1] at hr
      rw [← e2]
      exact hr
  · refine HV.out.stay (by rw [← hW5]; simp) (fun b hb _ => ?_)
    have hd : d < w.heap.size := HH.out.blk.lt
    rw [← hW5, heap_set_far (by show b ≠ d; omega), heap_set_far (by show b ≠ g; omega)]
  · rw [← hW5]
    refine Stp.setCell (Stp.setCell (Stp.ofBelow r o HB3.out) (by show r <+: o g; rw [hog]; exact List.prefix_append _ _) _) (by show r <+: o d; rw [HB5.out.role]; exact List.prefix_refl _) _
end
end Go.Proofs.YtgmmeeikjofefaaGreatDoor
