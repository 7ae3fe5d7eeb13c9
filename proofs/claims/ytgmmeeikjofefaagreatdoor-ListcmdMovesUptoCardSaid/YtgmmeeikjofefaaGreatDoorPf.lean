import Derived.Test.YtgmmeeikjofefaaGreatDoorDr2
import Derived.OwnWalk
namespace Go.Proofs.YtgmmeeikjofefaaGreatDoor
open Go Go.RowKit
section
theorem deq_push {o : Roles} {w : World} {r : List Nat} {d B g N cap : Nat} {junk l : List (List UInt8)} (h : Deq o w r d B (.slice (some ⟨g, 0, none⟩) N cap) junk l) (hj : junk ≠ []) (x : List UInt8) :
    Deq o (((w.setCell ⟨d, 1, none⟩ (.int .i64 ((junk.length - 1 : Nat) : Int))).drew).setCell ⟨g, junk.length - 1, none⟩ (txt x)) r d B (.slice (some ⟨g, 0, none⟩) N cap) junk.dropLast (x :: l) := by
  obtain ⟨j0, y, rfl⟩ : ∃ j0 y, junk = j0 ++ [y] := ⟨junk.dropLast, junk.getLast hj, (List.dropLast_concat_getLast hj).symm⟩
  have hblk := h.blk.setCell 1 (.int .i64 (((j0 ++ [y]).length - 1 : Nat) : Int))
  have hrow := (h.row.setCell ⟨d, 1, none⟩ (.int .i64 (((j0 ++ [y]).length - 1 : Nat) : Int)) (by show o d ≠ r ++ [0]; rw [h.blk.role]; exact np2.symm)).drew
  obtain ⟨g2, c2, e, _, hog, _, _, hrow2⟩ := hrow.set1 (k := (j0 ++ [y]).length - 1) (by simp; omega) (txt x)
  injection e with e1 e2 e3
  injection e1 with e1
  injection e1 with e1 _ _
  subst e1
  have hne : d ≠ g := fun e => by
    have h1 := h.blk.role
    rw [e, hog] at h1
    simp at h1
  have hl : (j0 ++ [y]).length - 1 = j0.length := by simp
  rw [hl] at hblk hrow2 ⊢
  have hx : ((j0 ++ [y]).map txt ++ l.map txt).set j0.length (txt x) = j0.map txt ++ (x :: l).map txt := by
    have := set_append_mid (j0.map txt) (l.map txt) (txt y) (txt x)
    simp only [List.length_map] at this
    simp [this]
  refine ⟨?_, ?_, ?_⟩
  · have := hblk.drew.setOther ⟨g, j0.length, none⟩ (txt x) hne
    rw [List.dropLast_concat]
    simpa using this
  · rw [hx] at hrow2
    rw [List.dropLast_concat]
    have e2' : j0.length + (x :: l).length = (j0 ++ [y]).length + l.length := by simp; omega
    rw [e2']
    exact hrow2
  · have := h.few
    rw [List.dropLast_concat]
    simp at this ⊢
    omega
def PfRel (w : World) (r : List Nat) (d B : Nat) (sv : Value) (ws l : List (List UInt8)) (o0 : Roles) (i : Value) (wr : World) : Prop :=
  ∃ k junk o', k ≤ ws.length ∧ i = .int .i64 ((k : Nat) : Int) ∧ Deq o' wr r d B sv junk ((ws.take k).reverse ++ l) ∧ ws.length ≤ junk.length + k ∧ Stp r o0 w o' wr
theorem idx_last (g N cap n : Nat) (h1 : 1 ≤ n) (h2 : n ≤ N) (W : World) : (Instr.indexAt 22 (.slice (some ⟨g, 0, none⟩) N cap) (.int .i64 ((n : Int) - 1))).run Tryz.prog W = .ok (.pointer (some ⟨g, n - 1, none⟩)) W := by
  obtain ⟨m, rfl⟩ : ∃ m, n = m + 1 := ⟨n - 1, by omega⟩
  have e : (((m + 1 : Nat) : Int) - 1) = (m : Int) := by omega
  rw [e]
  obtain ⟨i0, hi0, hz0, hz1, hz2⟩ := info_parts infoS
  simp [Instr.indexAt, run_underlying Tryz.underlying22, asIntOf, sizeOf, typeInfo, hi0, hz1, addr_add]
  omega
set_option maxRecDepth 10000 in
set_option maxHeartbeats 2000000 in


theorem dpushFront_room {A : Nat → Prop} {o : Roles} {w : World} {r : List Nat} {d B : Nat} {sv : Value} {junk l : List (List UInt8)} (h : Deq o w r d B sv junk l) (hB : B ≤ 1099511627776) {v : Value} {ws : List (List UInt8)} (hv : Vw A w v 1 ws.length (ws.map txt)) (hA : ∀ b, A b → ¬ r <+: o b) (h0 : ws ≠ []) (hr : ws.length ≤ junk.length) :
    Calls Tryz.prog 64 #[.pointer (some ⟨d, 0, none⟩), v] w fun e w' => e = .returned (.tuple #[]) ∧ ∃ o', DeqI o' w' r d B (ws.reverse ++ l) ∧ Stp r o w o' w' := by
  have hf := h.few
  have hw1 : 1 ≤ ws.length := by cases ws with | nil => exact absurd rfl h0 | cons x t => simp
  have hb := h.blk.cell
  obtain ⟨g, cap, hsv, hcap, _, _, _, _⟩ := h.row.set1 (k := 0) (by omega) (.string ⟨#[]⟩)
  have hat : PfRel w r d B sv ws l o (.int .i64 0) w := ⟨0, junk, o, Nat.zero_le _, rfl, by simpa using h, by omega, Stp.refl _ _ _⟩
  subst hsv
  obtain ⟨av, cv, rfl, _⟩ := hv.slice
  have HV := Lib.hid hv
  have HA := Lib.hid hA
  have e0 : ((ws.length : Int) == 0) = false := beq_eq_false_iff_ne.2 (by omega)
  have d0 : decide ((junk.length : Int) < ws.length) = false := decide_eq_false (by omega)
  have d1 : decide (junk.length < ws.length) = false := decide_eq_false (by omega)
  clear h hv hA h0
  generalize hN : junk.length + l.length = N at *
  go_enter Tryz.func64, Tryz.ntmps64
  go_wp2_with fail
  go_loopw [48] (fun i wr => PfRel w r d B (.slice (some ⟨g, 0, none⟩) N cap) ws l o i wr) (fun i _ => ws.length - (intOf i).toNat)
  case atStart => exact hat
  case round =>
    obtain ⟨k, jk, o3, hk, rfl, hd, hjk, hst⟩ := hrel
    clear hat
    by_cases hkl : k < ws.length
    · obtain ⟨x, hx⟩ : ∃ x, ws[k]? = some x := ⟨_, List.getElem?_eq_getElem hkl⟩
      have hvr := HV.out.stay (w' := wr) hst.size (fun b hAb hb => hst.block b hb (HA.out b hAb))
      obtain ⟨⟨a1, c1, e4, hc1, _, hcells⟩, _⟩ := hvr
      injection e4 with e5 e6 e7
      subst e5 e7
      rcases hcells with hcells | ⟨bv, ov, rfl, hbv, _, hcv⟩
      · omega
      have hcell : wr.cell? ⟨bv, ov + k, none⟩ = some (.string ⟨x.toArray⟩) := hcv k (txt x) (by rw [List.getElem?_map, hx]; rfl)
      have hfew := hd.few
      have hjk1 : 1 ≤ jk.length := by omega
      have hjne : jk ≠ [] := by intro e; rw [e] at hjk1; simp at hjk1
      obtain ⟨g2, c2, e, hc2, hog, hfz, hce, _⟩ := hd.row.set1 (k := jk.length - 1) (by omega) (txt x)
      injection e with e1 e2 e3
      injection e1 with e1
      injection e1 with e1 _ _
      subst e1 e3
      have hsome : ∃ u, wr.cell? ⟨g, jk.length - 1, none⟩ = some u := ⟨_, by rw [hce, List.getElem?_append_left (by simp; omega)]; exact List.getElem?_eq_getElem (by simp; omega)⟩
      obtain ⟨u, hu⟩ := hsome
      have hpush := deq_push hd hjne x
      have hb := hd.blk.cell
      have hf := hd.blk.free
      have hne : d ≠ g := fun e => by
        have h1 := hd.blk.role
        rw [e, hog] at h1
        simp at h1
      have hst2 := (hst.setCell (a := ⟨d, 1, none⟩) (by show r <+: o3 d; rw [hd.blk.role]; exact List.prefix_refl _) (.int .i64 ((jk.length - 1 : Nat) : Int))).drew
      have hpush2 : Deq o3 (((wr.setCell ⟨d, 1, none⟩ (.int .i64 ((jk.length - 1 : Nat) : Int))).setCell ⟨g, jk.length - 1, none⟩ (.string ⟨x.toArray⟩)).drew) r d B (.slice (some ⟨g, 0, none⟩) N cap) jk.dropLast ((ws.take (k + 1)).reverse ++ l) := by
        have e : ((ws.take k ++ [x]).reverse ++ l) = x :: ((ws.take k).reverse ++ l) := by simp
        rw [List.take_add_one, hx]
        show Deq _ _ _ _ _ _ _ ((ws.take k ++ [x]).reverse ++ l)
        rw [e]
        exact hpush
      have hst3 : Stp r o w o3 (((wr.setCell ⟨d, 1, none⟩ (.int .i64 ((jk.length - 1 : Nat) : Int))).setCell ⟨g, jk.length - 1, none⟩ (.string ⟨x.toArray⟩)).drew) := hst2.setCell (a := ⟨g, jk.length - 1, none⟩) (by show r <+: o3 g; rw [hog]; exact List.prefix_append _ _) (txt x)
      have D := Lib.hid (show PfRel w r d B (.slice (some ⟨g, 0, none⟩) N cap) ws l o (.int .i64 ((k : Int) + 1)) (((wr.setCell ⟨d, 1, none⟩ (.int .i64 ((jk.length - 1 : Nat) : Int))).setCell ⟨g, jk.length - 1, none⟩ (.string ⟨x.toArray⟩)).drew) from ⟨k + 1, jk.dropLast, o3, hkl, by go_num, hpush2, by rw [List.length_dropLast]; omega, hst3⟩)
      have hJ : ((jk.length - 1 : Nat) : Int) = (jk.length : Int) - 1 := by omega
      have hNc : N ≤ cap := by rw [e2]; exact hc2
      have hjN : (jk.length : Int) - 1 < N := by omega
      have hj0 : (0 : Int) ≤ (jk.length : Int) - 1 := by omega
      have hb5 := (hd.blk.setCell 1 (.int .i64 ((jk.length - 1 : Nat) : Int))).cell
      have hu5 : (wr.setCell ⟨d, 1, none⟩ (.int .i64 ((jk.length - 1 : Nat) : Int))).cell? ⟨g, jk.length - 1, none⟩ = some u := by
        rw [World.cell?_setCell_other _ _ _ _ (by intro e; injection e with e1 _ _; exact hne e1)]; exact hu
      have hz5 : (wr.setCell ⟨d, 1, none⟩ (.int .i64 ((jk.length - 1 : Nat) : Int))).frozen? ⟨g, jk.length - 1, none⟩ = false := by rw [World.frozen?_setCell]; exact hfz
      have hidx := idx_last g N cap jk.length hjk1 (by omega)
      clear hpush hpush2 hst3 hst2 hd hst hcv hx hce e2 hfew
      rw [hJ] at D hb5 hu5 hz5
      go_wp2_with fail
      clear hb hf hu hfz hcell
      generalize wr.setCell ⟨d, 1, none⟩ (.int .i64 ((jk.length : Int) - 1)) = w5 at *
      go_still_tail 10, (by kernel_rfl)
      change wpList _ _ _ _ _ (World.drew w5)
      go_wp2_with fail
      go_roundw
      case rel => exact D.out
      case measure => simp [intOf]; omega
    · obtain rfl : k = ws.length := by omega
      rw [List.take_length] at hd
      have D := Lib.hid (show ∃ o', DeqI o' wr r d B (ws.reverse ++ l) ∧ Stp r o w o' wr from ⟨o3, ⟨_, jk, hd⟩, hst⟩)
      clear hd hst
      go_wp2_with fail
      go_end0
      exact ⟨rfl, D.out⟩
end
end Go.Proofs.YtgmmeeikjofefaaGreatDoor
