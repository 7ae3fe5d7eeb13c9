import Derived.Test.YtgmmeeikjofefaaGreatDoorDs
import Derived.Lib.SliceRun
namespace Go.Proofs.YtgmmeeikjofefaaGreatDoor
open Go Go.RowKit
/-! PopFront, PopBack, PushFront. -/
section
variable {o : Roles} {w : World} {r : List Nat} {d B : Nat} {l : List (List UInt8)}
theorem set_append_mid {α : Type} (a b : List α) (x y : α) : (a ++ x :: b).set a.length y = a ++ y :: b := by
  rw [List.set_append, if_neg (by omega)]; simp
/-- One place of a row is written. -/
theorem Row.set1 {o : Roles} {w : World} {r : List Nat} {e : TypeId} {v : Value} {n : Nat} {xs : List Value} (h : Row o w r e 1 v n xs) {k : Nat} (hk : k < n) (u : Value) :
    ∃ g cap, v = .slice (some ⟨g, 0, none⟩) n cap ∧ n ≤ cap ∧ o g = r ∧ w.frozen? ⟨g, k, none⟩ = false ∧ (w.cell? ⟨g, k, none⟩ = xs[k]?) ∧ Row o (w.setCell ⟨g, k, none⟩ u) r e 1 v n (xs.set k u) := by
  rcases h.form with ⟨_, h2, _⟩ | ⟨g, cap, cur, h1, hb, h3, h4, h5, h6⟩
  · omega
  · subst h1
    have hcell : w.cell? ⟨g, k, none⟩ = xs[k]? := by
      rw [hb.cell, ← h6, List.getElem?_take, if_pos (by omega)]; simp
    refine ⟨g, cap, rfl, h3, hb.role, hb.free k, hcell, ⟨⟨by simpa using h.own.1, .inr ⟨g, cap, cur.setIfInBounds k u, rfl, Nat.zero_le _, (hb.setCell k u).heap, h3, h4, by simpa using h5, ?_⟩⟩, h.role⟩⟩
    rw [Array.toList_setIfInBounds, List.take_set, h6]
theorem vw_head {A : Nat → Prop} {w : World} {a : Option Addr} {n c : Nat} {xs : List Value} (h : Vw A w (.slice a n c) 1 n xs) (hi : Nat) (h1 : hi ≤ n) : Vw A w (.slice a hi c) 1 hi (xs.take hi) := by
  obtain ⟨⟨a0, c0, e, g1, g2, g3⟩, g4⟩ := h
  injection e with e1 e2 e3
  subst e1 e3
  refine ⟨⟨a, c, rfl, by omega, g2, ?_⟩, by simp [g4]; omega⟩
  rcases g3 with g3 | ⟨b, off, e, g5, g6, g7⟩
  · left; omega
  · exact .inr ⟨b, off, e, g5, g6, fun k u hk => g7 k u (by
      have hk' : k < hi := by have := (List.getElem?_eq_some_iff.1 hk).1; simp at this; omega
      rw [List.getElem?_take, if_pos hk'] at hk; exact hk)⟩
theorem cut1 (g n cap lo : Nat) (h1 : lo + 1 ≤ n) (h2 : n ≤ cap) (I J : Int) (hI : I = lo) (hJ : J = lo + 1) (W : World) : (Instr.slice 22 (.slice (some ⟨g, 0, none⟩) n cap) (some (.int .i64 I)) (some (.int .i64 J)) none).run Tryz.prog W = .ok (.slice (some ⟨g, lo, none⟩) 1 (cap - lo)) W := by
  subst hI hJ
  obtain ⟨i0, hi0, hz0, hz1, hz2⟩ := info_parts infoS
  simp [Instr.slice, run_underlying Tryz.underlying22, Instr.sliceBounds, Instr.sliceBound, asIntOf, sizeOf, typeInfo, hi0, hz1, addr_add]
  rw [if_pos (by omega)]
  simp
  omega
theorem zeroStr (w : World) : (zeroValue 9).run Tryz.prog w = .ok (.string ⟨#[]⟩) w := by
  obtain ⟨i, hi, hz, _, _⟩ := info_parts infoS
  simp [zeroValue, typeInfo, hi, hz]
theorem wpList_clear1 {ops : Array Oper} {rest : List Oper} {op : Oper} {a : Act} {Q : Exit → Act → World → Prop} {w : World} (hg : op.guard = none) (x : Operand) (hop : op.op = .call { callee := .builtin .clear, args := #[x], argTypes := #[22] })
    {b off c : Nat} (hx : a.eval x = .slice (some ⟨b, off, none⟩) 1 c) (hc : (w.cell? ⟨b, off, none⟩).isSome = true) (hf : w.frozen? ⟨b, off, none⟩ = false)
    (hK : wpList Tryz.prog ops Q rest (a.put op.dst (.tuple #[])) (w.setCell ⟨b, off, none⟩ (.string ⟨#[]⟩))) : wpList Tryz.prog ops Q (op :: rest) a w := by
  refine wpList_plain hg fun K' hK' => ?_
  have hc1 : ∀ j, j < 1 → (w.cell? ⟨b, off + j, none⟩).isSome = true := fun j hj => by
    have e : j = 0 := by omega
    rw [e]; exact hc
  have hf1 : ∀ j, j < 1 → w.frozen? ⟨b, off + j, none⟩ = false := fun j hj => by
    have e : j = 0 := by omega
    rw [e]; exact hf
  have hrun := Lib.run_clear_slice (P := Tryz.prog) w 22 9 op.type (.string ⟨#[]⟩) Tryz.underlying22 zeroStr rfl rfl b off 1 c (by decide) hc1 hf1
  unfold Oper.wp execOp
  simp only [hop, resolve, invoke, builtin, Sem.run_bind, Sem.run_pure, Result.andThen_ok, List.map_toArray, List.map_cons, List.map_nil, hx, hrun]
  exact hK' _ _ hK
set_option maxRecDepth 10000 in
set_option maxHeartbeats 1000000 in
theorem dpopFront_ok {x : List UInt8} {t : List (List UInt8)} (h : DeqI o w r d B (x :: t)) (hB : B ≤ 1099511627776) :
    Calls Tryz.prog 70 #[.pointer (some ⟨d, 0, none⟩), .int .i64 1] w fun e w' => ∃ v' o', e = .returned v' ∧ DeqI o' w' r d B t ∧ Vw (fun b => w.heap.size ≤ b) w' v' 1 1 [txt x] ∧ Stp r o w o' w' := by
  have HLN := Lib.hid (dlen_ok h)
  have HAL := Lib.hid (fun k => dall_ok (h.below (below_drewN (Below.refl _ w) k)))
  obtain ⟨sv, junk, h⟩ := h
  have hf := h.few
  rw [List.length_cons] at hf
  have hk : junk.length < junk.length + (x :: t).length := by simp
  obtain ⟨g, cap, hsv, hcap, hog, hfz, hce, hrow⟩ := h.row.set1 hk (.string ⟨#[]⟩)
  subst hsv
  have em : min (1 : Int) ((x :: t).length : Int) = 1 := by simp; omega
  have em2 : max (0 : Int) 1 = 1 := rfl
  have em3 : ((max (0 : Int) 1) == 0) = false := rfl
  have HH := Lib.hid h
  have hl1 : 1 ≤ (x :: t).length := by simp
  clear h hrow hce hfz hk
  generalize hN : (x :: t).length = n at *
  go_enter Tryz.func70, Tryz.ntmps70
  go_wp2_with fail
  refine HLN.out.mono ?_; rintro e w1 ⟨rfl, k, rfl⟩
  go_wp2_with fail
  refine (HAL.out k).mono ?_; rintro e w2 ⟨a2, c2, k2, rfl, rfl, hv⟩
  rw [hN]
  have hcap2 : (1 : Int) ≤ (c2 : Int) := by
    obtain ⟨a0, c0, e0, h0, _⟩ := hv.slice
    injection e0 with _ _ e2
    omega
  have hv3 := vw_head hv 1 (by rw [hN]; exact hl1)
  have hv4 : Vw (fun b => o b = r ++ [0]) (w.drewN (k + k2)) (.slice a2 1 c2) 1 1 ([x].map txt) := hv3.stay (Nat.le_refl _) (fun _ _ _ => rfl)
  have HC := Lib.hid (cloneS_ok hv4 (one_list [x]) (by decide))
  clear hv hv3 hv4 HLN HAL
  go_wp2_with fail
  refine HC.out.mono ?_; rintro e w3 ⟨v', rfl, hF⟩
  have hB3 : Below w.heap.size w w3 := (below_drewN (Below.refl _ w) (k + k2)).trans hF.below
  have hv' : Vw (fun b => w.heap.size ≤ b) w3 v' 1 1 [txt x] := hF.vw
  obtain ⟨a6, c6, rfl, _⟩ := id hv'.slice
  have h3 := HH.out.below hB3
  have h3D : Deq o (World.drew w3) r d B _ junk (x :: t) := h3.below (Below.refl _ w3).drew
  have hk : junk.length < junk.length + (x :: t).length := by simp
  obtain ⟨g2, cap2, hsv2, _, _, hfz, hce, hrow⟩ := h3D.row.set1 hk (.string ⟨#[]⟩)
  rw [hN] at hsv2
  injection hsv2 with e1 e2 e3
  injection e1 with e1
  injection e1 with e1 _ _
  subst e1 e3
  have hcell : ((World.drew w3).cell? ⟨g, junk.length, none⟩).isSome = true := by rw [hce]; simp
  have hcutc := cut1 g (junk.length + n) cap junk.length (by omega) hcap _ _ rfl rfl
  have hb3 := h3.blk.cell
  have hne : d ≠ g := fun e => by
    have h1 := h3.blk.role
    rw [e, hog] at h1
    simp at h1
  have hblk5 : Blk o ((World.drew w3).setCell ⟨g, junk.length, none⟩ (.string ⟨#[]⟩)) r d _ _ := h3D.blk.setOther ⟨g, junk.length, none⟩ (.string ⟨#[]⟩) hne
  have HB5 := Lib.hid hblk5
  have HROW := Lib.hid hrow
  have HV := Lib.hid hv'
  have HB3 := Lib.hid hB3
  have hg3 : g < w.heap.size := HH.out.row.lt g rfl
  clear hF h3 h3D hk hce hrow hblk5 hv' hB3 HC e2 em em2 em3
  have ew : IntKind.i64.wrap ((junk.length : Int) + 1) = (junk.length : Int) + 1 := by rw [IntKind.wrap_i64]; omega
  go_wp2_with fail
  go_still_tail 15, (by kernel_rfl)
  change wpList _ _ _ _ _ (World.drew w3)
  refine wpList_clear1 rfl _ rfl rfl hcell hfz ?_
  have hb5 := HB5.out.cell
  have hf5 := HB5.out.free
  generalize hW5 : (World.drew w3).setCell ⟨g, junk.length, none⟩ (.string ⟨#[]⟩) = w5 at *
  clear hb3 hcell hfz
  go_wp2_with fail
  go_ret
  refine ⟨_, o, rfl, ?_, ?_, ?_⟩
  · refine ⟨.slice (some ⟨g, 0, none⟩) (junk.length + n) cap, junk ++ [[]], ?_, ?_, by simp; omega⟩
    · have := HB5.out.setCell 1 (.int .i64 ((junk.length : Int) + 1))
      simpa using this
    · have hr := HROW.out.setCell ⟨d, 1, none⟩ (.int .i64 ((junk.length : Int) + 1)) (by show o d ≠ r ++ [0]; rw [HB5.out.role]; exact np2.symm)
      rw [hN] at hr
      have e1 : (junk.map txt ++ (x :: t).map txt).set junk.length (.string ⟨#[]⟩) = (junk ++ [[]]).map txt ++ t.map txt := by
        have := set_append_mid (junk.map txt) (t.map txt) (txt x) (.string ⟨#[]⟩)
        simp only [List.length_map] at this
        rw [List.map_cons, this]
        simp [txt]
      have e2 : junk.length + n = (junk ++ [[]]).length + t.length := by rw [← hN]; simp; omega
      rw [e1, e2] at hr
      rw [e2]
      exact hr
  · refine HV.out.stay (by rw [← hW5]; simp) (fun b hb _ => ?_)
    have hd : d < w.heap.size := HH.out.blk.lt
    rw [← hW5, heap_set_far (by show b ≠ d; omega), heap_set_far (by show b ≠ g; omega)]
    rfl
  · rw [← hW5]
    refine Stp.setCell (Stp.setCell ((Stp.ofBelow r o HB3.out).drew) (by show r <+: o g; rw [hog]; exact List.prefix_append _ _) _) (by show r <+: o d; rw [HB5.out.role]; exact List.prefix_refl _) _
end
end Go.Proofs.YtgmmeeikjofefaaGreatDoor
