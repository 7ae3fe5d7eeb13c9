import Derived.Test.YtgmmeeikjofefaaGreatDoorTb
import Derived.Lib.AppendZeros
namespace Go.Proofs.YtgmmeeikjofefaaGreatDoor
open Go Go.RowKit
/-! slices.Grow and slices.Concat at the table's rows. -/
abbrev zSpec : Value := .agg #[.string ⟨#[]⟩, .int .i64 0, .bool false, .bool false, .int .i64 0, .int .i64 0, .int .i64 0]
theorem infoSpec : (Tryz.prog.info? 107).map (fun i => (i.zero, i.size, i.bytes)) = some (some zSpec, 7, 56) := by kernel_rfl
set_option maxRecDepth 10000 in
theorem growNil_ok (w : World) (n : Nat) (h0 : 0 < n) (h1 : n ≤ 1048576) : Calls Tryz.prog 174 #[.slice none 0 0, .int .i64 n] w fun e w' => ∃ v' o', e = .returned v' ∧ Row o' w' [9] 107 7 v' 0 [] ∧ Stp [9] none0 w o' w' := by
  obtain ⟨i0, hi0, hz0, hz1, hz2⟩ := info_parts infoSpec
  have hrun := Lib.run_append_nil_zeros (P := Tryz.prog) w 160 3 160 107 i0 zSpec .i64 .i64 Tryz.underlying160 Tryz.underlying3 hi0 hz0 n h0 (by omega) (by omega) (by rw [hz2]; omega)
  have hge := grownCap_ge w n 0 107
  have hle := grownCap_le_maxLen w n 0 107 (by unfold maxLen; omega)
  generalize hG : grownCap w n 0 107 = G at *
  have hs1 : ∀ W, (Instr.slice 160 (.slice none 0 0) none (some (.int .i64 0)) none).run Tryz.prog W = .ok (.slice none 0 0) W := fun W => by
    simp [Instr.slice, run_underlying Tryz.underlying160, Instr.sliceBounds, Instr.sliceBound, asIntOf, sizeOf, typeInfo, hi0]
  have hs2 : ∀ W, (Instr.slice 160 (.slice (some ⟨w.heap.size, 0, none⟩) n G) none (some (.int .i64 0)) none).run Tryz.prog W = .ok (.slice (some ⟨w.heap.size, 0, none⟩) 0 G) W := fun W => by
    simp [Instr.slice, run_underlying Tryz.underlying160, Instr.sliceBounds, Instr.sliceBound, asIntOf, sizeOf, typeInfo, hi0, Addr.add]
  have hR : Row (none0.put w.heap.size [9]) (w.drew.alloc (.cells (Builtin.zeroCells zSpec.cells n ++ Builtin.zeroCells zSpec.cells (G - n)) 107)) [9] 107 7 (.slice (some ⟨w.heap.size, 0, none⟩) 0 G) 0 [] := by
    refine ⟨⟨by simp, .inr ⟨w.heap.size, G, _, rfl, Nat.zero_le _, heap_alloc_new w.drew _, Nat.zero_le _, hle, ?_, by simp⟩⟩, fun g hg => ?_⟩
    · simp only [Array.size_append, size_zeroCells, Value.cells, List.size_toArray, List.length_cons, List.length_nil]
      omega
    · simp only [Value.ownBlock, Option.some.injEq] at hg
      subst hg; exact Roles.put_same _ _ _
  have hST : Stp [9] none0 w (none0.put w.heap.size [9]) (w.drew.alloc (.cells (Builtin.zeroCells zSpec.cells n ++ Builtin.zeroCells zSpec.cells (G - n)) 107)) := (Stp.refl [9] none0 w).drew.alloc (r' := [9]) _ w.heap.size rfl
  have HR := Lib.hid hR
  have HST := Lib.hid hST
  have d0 : decide ((n : Int) < 0) = false := by simp
  have d1 : decide (0 < (n : Int)) = true := by simpa using h0
  clear hR hST hi0 hz0 hz1 hz2 hG hge hle
  go_enter Tryz.func174, Tryz.ntmps174
  go_wp2_with (
    at_builtin
    refine Lib.wpList_append_run _ rfl _ _ 160 3 rfl _ _ rfl rfl _ _ hrun ?_)
  go_ret
  exact ⟨_, _, rfl, HR.out, HST.out⟩
theorem specsC_one (l : List SpecM) : ∀ u ∈ specsC l, u.oneCell' = true := by
  intro u hu
  obtain ⟨x, _, hx⟩ := List.mem_flatMap.1 hu
  simp [specC] at hx
  rcases hx with rfl | rfl | rfl | rfl | rfl | rfl | rfl <;> rfl
abbrev catN (vs : List (Value × List SpecM)) : Nat := (vs.map fun p => p.2.length).sum
theorem catN_take {vs : List (Value × List SpecM)} {k : Nat} {x : Value × List SpecM} (h : vs[k]? = some x) : catN (vs.take (k + 1)) = catN (vs.take k) + x.2.length := by
  unfold catN; rw [List.take_add_one, h]; simp
theorem catN_le (vs : List (Value × List SpecM)) (k : Nat) : catN (vs.take k) ≤ catN vs := by
  unfold catN
  induction vs generalizing k with
  | nil => simp
  | cons y t ih => cases k with
    | zero => simp
    | succ k => have := ih k; simp only [List.take_succ_cons, List.map_cons, List.sum_cons]; omega
abbrev catL (vs : List (Value × List SpecM)) : List SpecM := (vs.map (·.2)).flatten
theorem catL_take {vs : List (Value × List SpecM)} {k : Nat} {x : Value × List SpecM} (h : vs[k]? = some x) : catL (vs.take (k + 1)) = catL (vs.take k) ++ x.2 := by
  unfold catL; rw [List.take_add_one, h]; simp
theorem catL_len (vs : List (Value × List SpecM)) : (catL vs).length = catN vs := by
  unfold catL catN
  induction vs with
  | nil => rfl
  | cons y t ih => simp only [List.map_cons, List.flatten_cons, List.length_append, List.sum_cons, ih]
theorem specsC_app (a b : List SpecM) : specsC (a ++ b) = specsC a ++ specsC b := by unfold specsC; exact List.flatMap_append
structure CatArg (A : Nat → Prop) (w : World) (b off : Nat) (vs : List (Value × List SpecM)) : Prop where
  cell : ∀ (i : Nat) x, vs[i]? = some x → w.cell? ⟨b, off + i, none⟩ = some x.1 ∧ Vw A w x.1 7 x.2.length (specsC x.2)
  lt : b < w.heap.size
def CatRel (w : World) (vs : List (Value × List SpecM)) (v i : Value) (wr : World) : Prop :=
  ∃ k o', k ≤ vs.length ∧ i = .int .i64 ((k : Nat) : Int) ∧ Row o' wr [9] 107 7 v (catN (vs.take k)) (specsC (catL (vs.take k))) ∧ Stp [9] none0 w o' wr
set_option maxRecDepth 10000 in
set_option maxHeartbeats 1000000 in
theorem concat_ok {A : Nat → Prop} {w : World} {b off cap : Nat} {vs : List (Value × List SpecM)} (h : CatArg A w b off vs) (h0 : 0 < catN vs) (h1 : catN vs ≤ 1048576) (hl : vs.length ≤ 1048576) :
    Calls Tryz.prog 147 #[.slice (some ⟨b, off, none⟩) vs.length cap] w fun e w' => ∃ v', e = .returned v' ∧ Fresh w w' 107 7 v' (catN vs) (specsC (catL vs)) := by
  have HG := Lib.hid (growNil_ok w (catN vs) h0 h1)
  have HH := Lib.hid h
  clear h
  go_enter Tryz.func147, Tryz.ntmps147
  go_wp2_with fail
  go_loopw [3, 11] (fun s i wr => wr = w ∧ ∃ k : Nat, k ≤ vs.length ∧ i = .int .i64 (k : Int) ∧ s = .int .i64 (catN (vs.take k) : Nat)) (fun _ i _ => vs.length - (intOf i).toNat)
  case atStart => exact ⟨rfl, 0, Nat.zero_le _, rfl, rfl⟩
  case round =>
    obtain ⟨hwr, k, hk, rfl, rfl⟩ := hrel
    obtain rfl : w = wr := hwr.symm
    clear hwr
    by_cases hkl : k < vs.length
    · obtain ⟨x, hx⟩ : ∃ x, vs[k]? = some x := ⟨_, List.getElem?_eq_getElem hkl⟩
      obtain ⟨hc, hv⟩ := HH.out.cell k x hx
      obtain ⟨ax, cx, hxv, _⟩ := hv.slice
      rw [hxv] at hc
      have hct := catN_take hx
      have hcl := catN_le vs (k + 1)
      rw [hct] at hcl
      have hkI : (0 : Int) ≤ k ∧ (k : Int) < vs.length := by omega
      have HCT := Lib.hid hct
      clear hct hv hx hxv
      have d2 : decide ((catN (vs.take k) : Int) + (x.2.length : Int) < 0) = false := by simp; omega
      generalize catN (vs.take k) = N at *
      go_wp2_with fail
      go_roundw
      case rel => exact ⟨trivial, k + 1, hkl, by go_num, by rw [HCT.out]; go_num⟩
      case measure => simp [intOf]; omega
    · obtain rfl : k = vs.length := by omega
      rw [List.take_length] at *
      go_wp2_with fail
      refine HG.out.mono ?_; rintro e w2 ⟨v2, o2, rfl, hR2, hS2⟩
      obtain ⟨a2, c2, rfl, _⟩ := id hR2.slice
      have hat : CatRel w vs (.slice a2 0 c2) (.int .i64 0) w2 := ⟨0, o2, Nat.zero_le _, rfl, hR2, hS2⟩
      clear hR2 hS2 HG
      go_wp2_with fail
      go_loopw [6, 27] (fun v i wi => CatRel w vs v i wi) (fun _ i _ => vs.length - (intOf i).toNat)
      case atStart => exact hat
      case round =>
        obtain ⟨k, o3, hk3, rfl, hR, hS⟩ := hrel
        clear hat
        by_cases hkl : k < vs.length
        · obtain ⟨x, hx⟩ : ∃ x, vs[k]? = some x := ⟨_, List.getElem?_eq_getElem hkl⟩
          have hB := hS.below0
          obtain ⟨hc0, hv0⟩ := HH.out.cell k x hx
          have hv := hv0.below hB
          have hc : wr.cell? ⟨b, off + k, none⟩ = some x.1 := by rw [hB.cell (p := ⟨b, off + k, none⟩) HH.out.lt]; exact hc0
          have hsrc := hv.src (P := Tryz.prog) Tryz.underlying160 (specsC_one _)
          obtain ⟨ax, cx, hxv, _⟩ := hv.slice
          rw [hxv] at hc hsrc
          have hct := catN_take hx
          have hcl := catN_le vs (k + 1)
          rw [hct] at hcl
          have hkI : (0 : Int) ≤ k ∧ (k : Int) < vs.length := by omega
          have hlt := catL_take hx
          have hNL : catN (vs.take (k + 1)) = catN (vs.take k) + x.2.length ∧ specsC (catL (vs.take (k + 1))) = specsC (catL (vs.take k)) ++ specsC x.2 := ⟨hct, by rw [hlt, specsC_app]⟩
          have HNL := Lib.hid hNL
          have HR := Lib.hid hR
          have HS := Lib.hid hS
          have HSRC := Lib.hid hsrc
          obtain ⟨av, cv, rfl, _⟩ := id hR.slice
          obtain ⟨i0, hi0, hz0, hz1, hz2⟩ := info_parts infoSpec
          clear hv hv0 hc0 hx hxv hct hlt hNL hR hS hsrc hB
          generalize catN (vs.take k) = N at *
          generalize specsC (catL (vs.take k)) = X at *
          go_wp2_with (
            at_builtin
            refine wpList_app _ rfl _ _ 160 160 rfl 107 i0 _ 7 56 Tryz.underlying160 hi0 hz0 hz1 hz2 rfl rfl HR.out rfl HSRC.out (by unfold maxLen; omega) (by omega) ?_
            intro v' w3 o4 hrow hst
            obtain ⟨av3, cv3, rfl, _⟩ := id hrow.slice
            have HROW := Lib.hid hrow
            have HST := Lib.hid (HS.out.trans hst)
            clear hrow hst HR HSRC)
          go_roundw
          case rel => exact ⟨k + 1, o4, hkl, by go_num, by rw [HNL.out.1, HNL.out.2]; exact HROW.out, HST.out⟩
          case measure => simp [intOf]; omega
        · obtain rfl : k = vs.length := by omega
          rw [List.take_length] at *
          obtain ⟨av, cv, rfl, _⟩ := id hR.slice
          have HF := Lib.hid (hR.fresh hS)
          clear hR hS
          go_wp2_with fail
          go_ret
          exact ⟨_, rfl, HF.out⟩
end Go.Proofs.YtgmmeeikjofefaaGreatDoor
