import Derived.Test.YtgmmeeikjofefaaGreatDoorGC
import Derived.Shelf.Abstract
namespace Go.Proofs.YtgmmeeikjofefaaGreatDoor
open Go Go.RowKit
section
theorem step_dall {ops : Array Oper} {op : Oper} {a : Act} {K : Act → World → Prop} {Q : Exit → Act → World → Prop} {E : Prop} {w : World} {u : Value} {Post : Ending → World → Prop} (hgd : op.guard = none) (x : Operand)
    (ho : op.op = .call { callee := .value (.func 121), args := #[x], argTypes := #[110] }) (hx : a.eval x = u) (hc : Calls Tryz.prog 121 #[u] w Post) (h : ∀ e w', Post e w' → ∃ v, e = .returned v ∧ K (a.put op.dst v) w') :
    if Region.wanted op (yielded ops a.tmps) = true then Oper.wp Tryz.prog op a w K Q else E := by
  have hw : Region.wanted op (yielded ops a.tmps) = true := by simp [Region.wanted, hgd]
  have hen : (callFunc 121 #[u]).run Tryz.prog w = .ok (.enter 121 #[u]) w := enters_of Tryz.func121 (by kernel_rfl) rfl #[u] w
  rw [if_pos hw]
  have hr : (execOp a.eval op).run Tryz.prog w = .ok (.enter 121 #[u]) w := by
    unfold execOp
    simp only [ho, resolve]
    have e1 : a.eval (.func 121) = .func (.func 121) #[] #[] := rfl
    have e2 : Array.map a.eval #[x] = #[u] := by simp [hx]
    rw [e1, e2]
    exact hen
  unfold Oper.wp
  rw [hr, Oper.upon_enter]
  refine hc.mono fun e w' hp => ?_
  obtain ⟨v, rfl, hk⟩ := h e w' hp
  exact hk
theorem yields_slice {ρ : Operand → Value} {op : Oper} {x l : Operand} {X L v : Value} {W : World} (ho : op.op = .slice 22 x (some l) none none) (hx : ρ x = X) (hl : ρ l = L) (h : (Instr.slice 22 X (some L) none none).run Tryz.prog W = .ok v W) : (execOp ρ op).run Tryz.prog W = .ok (.value v) W := by
  unfold execOp
  simp only [ho]
  simp [hx, hl, Instr.sliceAt, run_underlying Tryz.underlying22, h]
set_option maxRecDepth 10000 in
set_option maxHeartbeats 4000000 in
theorem dpushFront_grow {A : Nat → Prop} {o : Roles} {w : World} {r : List Nat} {d B : Nat} {sv : Value} {junk l : List (List UInt8)} (h : Deq o w r d B sv junk l) {v : Value} {ws : List (List UInt8)} (hv : Vw A w v 1 ws.length (ws.map txt)) (hA : ∀ b, A b → ¬ r <+: o b) (hB : ws.length + 2 * B ≤ 1099511627776) (hr : junk.length < ws.length) :
    Calls Tryz.prog 64 #[.pointer (some ⟨d, 0, none⟩), v] w fun e w' => e = .returned (.tuple #[]) ∧ ∃ o', DeqI o' w' r d (ws.length + 2 * B) (ws.reverse ++ l) ∧ Stp r o w o' w' := by
  have hf := h.few
  have hb := h.blk.cell
  have HLN := Lib.hid (fun k => dlen_ok (show DeqI o (w.drewN k) r d B l from ⟨sv, junk, h.below (below_drewN (Below.refl _ w) k)⟩))
  obtain ⟨av, cv, rfl, _⟩ := hv.slice
  obtain ⟨as_, cs_, hsv, _⟩ := h.row.slice
  subst hsv
  obtain ⟨i0, hi0, hz0, hz1, hz2⟩ := info_parts infoS
  have HV := Lib.hid hv
  have HA := Lib.hid hA
  have HD := Lib.hid h
  have e0 : ((ws.length : Int) == 0) = false := beq_eq_false_iff_ne.2 (by omega)
  have d0 : decide ((junk.length : Int) < ws.length) = true := decide_eq_true (by omega)
  have d1 : decide (junk.length < ws.length) = true := decide_eq_true (by omega)
  obtain ⟨M, hM⟩ : ∃ M, M = ws.length + l.length + l.length := ⟨_, rfl⟩
  have HM := Lib.hid hM
  have hMI : (ws.length : Int) + l.length + l.length = (M : Int) := by omega
  have hMb : M ≤ 1099511627776 := by omega
  have hroom : ((ws.length + l.length : Nat) : Int) = (ws.length : Int) + l.length := by omega
  clear h hv hA hM
  go_enter Tryz.func64, Tryz.ntmps64
  go_wp2_with fail
  refine (HLN.out 0).mono ?_; rintro e w1 ⟨rfl, k1, rfl⟩
  go_wp2_with fail
  refine (HLN.out k1).mono ?_; rintro e w2 ⟨rfl, k2, rfl⟩
  go_wp2_with (
    refine wpList_make_full _ rfl _ _ 22 rfl w.heap.size 9 i0 (.string ⟨#[]⟩) 1 Tryz.underlying22 hi0 hz0 hz1 .i64 .i64 _ _ M rfl rfl rfl rfl (by rw [hz2]; omega) (by unfold maxLen; omega) (Nat.le_refl _) ?_
    intro w3 hown hgr)
  have hr3 : Row (o.put w.heap.size (r ++ [0])) w3 (r ++ [0]) 9 1 (.slice (some ⟨w.heap.size, 0, none⟩) M M) M ((List.replicate M ([] : List UInt8)).map txt) := by
    have hown' := hown
    rw [made_txt] at hown'
    rcases hown'.2 with ⟨h1, _⟩ | ⟨g, cap, cur, h1, h2, rest⟩
    · cases h1
    · refine ⟨⟨hown'.1, .inr ⟨g, cap, cur, h1, Nat.zero_le _, rest⟩⟩, fun k hk => ?_⟩
      simp only [Value.ownBlock, Option.some.injEq] at hk
      subst hk; exact Roles.put_same _ _ _
  have hB3 : Below w.heap.size w w3 := ⟨hgr.os, hgr.tape, hgr.output, hgr.size, fun b hb => hgr.block b hb (by simp)⟩
  have hst3 : Stp r o w (o.put w.heap.size (r ++ [0])) w3 := (Stp.ofBelow r o hB3).name w.heap.size (r ++ [0]) (Nat.le_refl _)
  have hD3 : Deq (o.put w.heap.size (r ++ [0])) w3 r d B (.slice as_ (junk.length + l.length) cs_) junk l := by
    have h3 := HD.out.below hB3
    exact ⟨⟨h3.blk.heap, by rw [Roles.put_other (by have := HD.out.blk.lt; omega)]; exact h3.blk.role⟩, ⟨h3.row.own, fun g hg => by have := HD.out.row.lt g hg; rw [Roles.put_other (by omega)]; exact h3.row.role g hg⟩, h3.few⟩
  obtain ⟨a4, hcutr, ha4⟩ := cutR w.heap.size M (ws.length + l.length) (by have := HM.out; omega)
  rw [show M - (ws.length + l.length) = l.length by have := HM.out; omega] at hcutr
  rw [hroom] at hcutr
  have HAL := Lib.hid (dall_ok (w := World.drew w3) (o := o.put w.heap.size (r ++ [0])) ⟨_, junk, hD3.below (Below.refl _ w3).drew⟩)
  have HR3 := Lib.hid hr3
  have hr4 := hr3
  have HD3 := Lib.hid hD3
  have HST3 := Lib.hid hst3
  have HA4 := Lib.hid ha4
  generalize hg2 : w.heap.size = g2 at *
  clear hown hgr hr3 hD3 hst3 HLN ha4
  go_wp2_with fail
  refine wp_region_any (by kernel_rfl) ?_
  change wpAny _ _ _ _ (5 + 1) _ _ (World.drew w3)
  refine wpAny_take (i := 0) (v := .slice (some ⟨g2, 0, none⟩) M M) rfl (by kernel_rfl) (by kernel_rfl) (by kernel_rfl) (fun _ _ _ h => h) (Or.inl ⟨rfl, fun _ => rfl⟩) ?_
  refine wpAny_take (fuel := 4) (i := 1) (v := .int .i64 ((ws.length : Int) + l.length)) rfl (by kernel_rfl) (by kernel_rfl) (by kernel_rfl) (fun _ _ _ h => h) (Or.inl ⟨rfl, fun _ => rfl⟩) ?_
  refine wpAny_take (fuel := 3) (i := 2) (v := .slice a4 l.length l.length) rfl (by kernel_rfl) (by kernel_rfl) (by kernel_rfl) (fun _ _ _ h => h) (Or.inl ⟨rfl, fun W => by
    have h1 := hcutr W
    exact yields_slice rfl rfl rfl h1⟩) ?_
  refine wpAny_take (fuel := 2) (i := 3) (v := .pointer (some ⟨d, 0, none⟩)) rfl (by kernel_rfl) (by kernel_rfl) (by kernel_rfl) (fun _ _ _ h => h) (Or.inl ⟨rfl, fun _ => rfl⟩) ?_
  refine wpAny_ready (fuel := 1) (rs := [4]) (by kernel_rfl) (by simp) (AllReady.cons rfl (fun K' hK' => ?_) AllReady.nil)
  refine step_dall rfl _ rfl rfl HAL.out ?_
  rintro e w5 ⟨a5, c5, k5, rfl, rfl, hv5⟩
  refine ⟨_, rfl, hK' _ _ ?_⟩
  refine wpAny_ready (fuel := 0) (rs := [5]) (by kernel_rfl) (by simp) (AllReady.cons rfl (fun K2 hK2 => ?_) AllReady.nil)
  refine step_copy rfl _ _ rfl rfl rfl (fun ty => copy_run (hr4.below (below_drewN (Below.refl _ w3).drew k5)) (by have := HM.out; omega) (HA4.out) (hv5.drewN k5) ty) ?_
  refine hK2 _ _ (wpAny_done (by kernel_rfl) ?_ _)
  have hB6 : Below w3.heap.size w3 ((World.drew w3).drewN k5) := below_drewN (Below.refl _ w3).drew k5
  have hrow6 := (hr4.below hB6).fill (k := ws.length + l.length) (vs := l.map txt) (by have := HM.out; simp; omega)
  have hxs : ((List.replicate M ([] : List UInt8)).map txt).take (ws.length + l.length) ++ l.map txt ++ ((List.replicate M ([] : List UInt8)).map txt).drop (ws.length + l.length + (l.map txt).length) = (List.replicate (ws.length + l.length) ([] : List UInt8)).map txt ++ l.map txt := by
    have := HM.out
    rw [List.drop_of_length_le (by simp; omega), List.append_nil, ← List.map_take, List.take_replicate, Nat.min_eq_left (by omega)]
  rw [hxs] at hrow6
  have hblk6 : Blk (o.put g2 (r ++ [0])) (((World.drew w3).drewN k5).setCells g2 (ws.length + l.length) (l.map txt)) r d #[.slice as_ (junk.length + l.length) cs_, .int .i64 ((junk.length : Nat) : Int)] 166 := by
    have hb4 := HD3.out.blk.below hB6
    refine ⟨?_, hb4.role⟩
    rw [heap_setCells_far g2 (fun e => ?_)]
    · exact hb4.heap
    · have h1 := hb4.role
      rw [e, Roles.put_same] at h1
      simp at h1
  have hst6 : Stp r o w (o.put g2 (r ++ [0])) (((World.drew w3).drewN k5).setCells g2 (ws.length + l.length) (l.map txt)) :=
    Stp.setCells ((HST3.out.drew).drewN k5) (by rw [Roles.put_same]; exact List.prefix_append _ _) _ _
  generalize ((World.drew w3).drewN k5).setCells g2 (ws.length + l.length) (l.map txt) = w6 at *
  have hb6 := hblk6.cell
  have hf6 := hblk6.free
  have H6 := Lib.hid hblk6
  have HR6 := Lib.hid hrow6
  have HS6 := Lib.hid hst6
  clear hv5 hB6 hrow6 hxs hblk6 hst6 hr4 hcutr hb HAL HR3 HD3 HST3 HA4
  have hrM : (List.replicate (ws.length + l.length) ([] : List UInt8)).length + l.length = M := by have := HM.out; simp; omega
  have hat : PfRel w r d (ws.length + 2 * B) (.slice (some ⟨g2, 0, none⟩) M M) ws l o (.int .i64 0) ((w6.setCell ⟨d, 0, none⟩ (.slice (some ⟨g2, 0, none⟩) M M)).setCell ⟨d, 1, none⟩ (.int .i64 ((ws.length : Int) + l.length))) := by
    have hrole := H6.out.role
    have hblk7 := (H6.out.setCell 0 (.slice (some ⟨g2, 0, none⟩) M M)).setCell 1 (.int .i64 ((ws.length : Int) + l.length))
    have hrow7 := (HR6.out.setCell ⟨d, 0, none⟩ (.slice (some ⟨g2, 0, none⟩) M M) (by rw [hrole]; exact np2.symm)).setCell ⟨d, 1, none⟩ (.int .i64 ((ws.length : Int) + l.length)) (by rw [hrole]; exact np2.symm)
    have hst7 := (HS6.out.setCell (a := ⟨d, 0, none⟩) (by rw [hrole]; exact List.prefix_refl _) (.slice (some ⟨g2, 0, none⟩) M M)).setCell (a := ⟨d, 1, none⟩) (by rw [hrole]; exact List.prefix_refl _) (.int .i64 ((ws.length : Int) + l.length))
    refine ⟨0, List.replicate (ws.length + l.length) [], _, Nat.zero_le _, rfl, ⟨?_, ?_, ?_⟩, ?_, hst7⟩
    · have e : (((List.replicate (ws.length + l.length) ([] : List UInt8)).length : Nat) : Int) = (ws.length : Int) + l.length := by simp
      rw [e]
      exact hblk7
    · show Row _ _ _ _ _ _ ((List.replicate (ws.length + l.length) ([] : List UInt8)).length + l.length) _
      rw [hrM]
      exact hrow7
    · show (List.replicate (ws.length + l.length) ([] : List UInt8)).length + l.length ≤ _
      rw [hrM]; have := HM.out; omega
    · simp
  clear HR6 HS6
  have hMk : ∀ n : Nat, n + 0 = n := fun n => rfl
  go_wp2_with fail
  clear H6 hb6 hf6 hrM
  go_loopw [48] (fun i wr => PfRel w r d (ws.length + 2 * B) (.slice (some ⟨g2, 0, none⟩) M M) ws l o i wr) (fun i _ => ws.length - (intOf i).toNat)
  case atStart => exact hat
  case round =>
    obtain ⟨k, jk, o3, hk, rfl, hd, hjk, hst⟩ := hrel
    clear hat
    by_cases hkl : k < ws.length
    · obtain ⟨x, hx⟩ : ∃ x, ws[k]? = some x := ⟨_, List.getElem?_eq_getElem hkl⟩
      have hvr := HV.out.stay (w' := wr) hst.size (fun b hAb hb => hst.block b hb (HA.out b hAb))
      obtain ⟨⟨a1, c1, e4, hc1, _, hcells⟩, _⟩ := hvr
      injection e4 with e5 e6 e7
      subst e5 e7
      rcases hcells with hcells | ⟨bv, ov, rfl, hbv, _, hcv⟩
      · omega
      have hcell : wr.cell? ⟨bv, ov + k, none⟩ = some (.string ⟨x.toArray⟩) := hcv k (txt x) (by rw [List.getElem?_map, hx]; rfl)
      have hfew := hd.few
      have hjk1 : 1 ≤ jk.length := by omega
      have hjne : jk ≠ [] := by intro e; rw [e] at hjk1; simp at hjk1
      obtain ⟨g3, c2, e, hc2, hog, hfz, hce, _⟩ := hd.row.set1 (k := jk.length - 1) (by omega) (txt x)
      injection e with e1 e2 e3
      injection e1 with e1
      injection e1 with e1 _ _
      subst e1
      have hsome : ∃ u, wr.cell? ⟨g2, jk.length - 1, none⟩ = some u := ⟨_, by rw [hce, List.getElem?_append_left (by simp; omega)]; exact List.getElem?_eq_getElem (by simp; omega)⟩
      obtain ⟨u, hu⟩ := hsome
      have hpush := deq_push hd hjne x
      have hb := hd.blk.cell
      have hf := hd.blk.free
      have hne : d ≠ g2 := fun e => by
        have h1 := hd.blk.role
        rw [e, hog] at h1
        simp at h1
      have hst2 := (hst.setCell (a := ⟨d, 1, none⟩) (by show r <+: o3 d; rw [hd.blk.role]; exact List.prefix_refl _) (.int .i64 ((jk.length - 1 : Nat) : Int))).drew
      have hpush2 : Deq o3 (((wr.setCell ⟨d, 1, none⟩ (.int .i64 ((jk.length - 1 : Nat) : Int))).setCell ⟨g2, jk.length - 1, none⟩ (.string ⟨x.toArray⟩)).drew) r d (ws.length + 2 * B) (.slice (some ⟨g2, 0, none⟩) M M) jk.dropLast ((ws.take (k + 1)).reverse ++ l) := by
        have e : ((ws.take k ++ [x]).reverse ++ l) = x :: ((ws.take k).reverse ++ l) := by simp
        rw [List.take_add_one, hx]
        show Deq _ _ _ _ _ _ _ ((ws.take k ++ [x]).reverse ++ l)
        rw [e]
        exact hpush
      have hst3 : Stp r o w o3 (((wr.setCell ⟨d, 1, none⟩ (.int .i64 ((jk.length - 1 : Nat) : Int))).setCell ⟨g2, jk.length - 1, none⟩ (.string ⟨x.toArray⟩)).drew) := hst2.setCell (a := ⟨g2, jk.length - 1, none⟩) (by show r <+: o3 g2; rw [hog]; exact List.prefix_append _ _) (txt x)
      have D := Lib.hid (show PfRel w r d (ws.length + 2 * B) (.slice (some ⟨g2, 0, none⟩) M M) ws l o (.int .i64 ((k : Int) + 1)) (((wr.setCell ⟨d, 1, none⟩ (.int .i64 ((jk.length - 1 : Nat) : Int))).setCell ⟨g2, jk.length - 1, none⟩ (.string ⟨x.toArray⟩)).drew) from ⟨k + 1, jk.dropLast, o3, hkl, by go_num, hpush2, by rw [List.length_dropLast]; omega, hst3⟩)
      have hJ : ((jk.length - 1 : Nat) : Int) = (jk.length : Int) - 1 := by omega
      have hjN : (jk.length : Int) - 1 < M := by omega
      have hj0 : (0 : Int) ≤ (jk.length : Int) - 1 := by omega
      have hb5 := (hd.blk.setCell 1 (.int .i64 ((jk.length - 1 : Nat) : Int))).cell
      have hu5 : (wr.setCell ⟨d, 1, none⟩ (.int .i64 ((jk.length - 1 : Nat) : Int))).cell? ⟨g2, jk.length - 1, none⟩ = some u := by
        rw [World.cell?_setCell_other _ _ _ _ (by intro e; injection e with e1 _ _; exact hne e1)]; exact hu
      have hz5 : (wr.setCell ⟨d, 1, none⟩ (.int .i64 ((jk.length - 1 : Nat) : Int))).frozen? ⟨g2, jk.length - 1, none⟩ = false := by rw [World.frozen?_setCell]; exact hfz
      have hidx := idx_last g2 M M jk.length hjk1 (by omega)
      clear hpush hpush2 hst3 hst2 hd hst hcv hx hce e2 e3 hfew hc2
      rw [hJ] at D hb5 hu5 hz5
      go_wp2_with fail
      clear hb hf hu hfz hcell
      generalize wr.setCell ⟨d, 1, none⟩ (.int .i64 ((jk.length : Int) - 1)) = w5 at *
      go_still_tail 10, (by kernel_rfl)
      change wpList _ _ _ _ _ (World.drew w5)
      go_wp2_with fail
      go_roundw
      case rel => exact D.out
      case measure => simp [intOf]; omega
    · obtain rfl : k = ws.length := by omega
      rw [List.take_length] at hd
      have D := Lib.hid (show ∃ o', DeqI o' wr r d (ws.length + 2 * B) (ws.reverse ++ l) ∧ Stp r o w o' wr from ⟨o3, ⟨_, jk, hd⟩, hst⟩)
      clear hd hst
      go_wp2_with fail
      go_end0
      exact ⟨rfl, D.out⟩

end
end Go.Proofs.YtgmmeeikjofefaaGreatDoor
namespace Go.Proofs.YtgmmeeikjofefaaGreatDoor
open Go Go.RowKit
section
set_option maxRecDepth 10000 in
set_option maxHeartbeats 2000000 in
theorem dpushFront_ok {A : Nat → Prop} {o : Roles} {w : World} {r : List Nat} {d B : Nat} {l : List (List UInt8)} (h : DeqI o w r d B l) {v : Value} {ws : List (List UInt8)} (hv : Vw A w v 1 ws.length (ws.map txt)) (hA : ∀ b, A b → ¬ r <+: o b) (hB : ws.length + 2 * B ≤ 1099511627776) :
    Calls Tryz.prog 64 #[.pointer (some ⟨d, 0, none⟩), v] w fun e w' => e = .returned (.tuple #[]) ∧ ∃ o', DeqI o' w' r d (ws.length + 2 * B) (ws.reverse ++ l) ∧ Stp r o w o' w' := by
  obtain ⟨sv, junk, hd⟩ := h
  by_cases h0 : ws = []
  · subst h0
    obtain ⟨av, cv, rfl, _⟩ := hv.slice
    have D := Lib.hid (show ∃ o', DeqI o' w r d (([] : List (List UInt8)).length + 2 * B) (([] : List (List UInt8)).reverse ++ l) ∧ Stp r o w o' w from ⟨o, ⟨sv, junk, hd.blk, hd.row, by have := hd.few; simp; omega⟩, Stp.refl _ _ _⟩)
    clear hv hA hd
    go_enter Tryz.func64, Tryz.ntmps64
    go_wp2_with fail
    refine bodyPost_ret (v := .tuple #[]) (by simp [results, Tryz.results64]) rfl ?_
    exact ⟨rfl, D.out⟩
  · by_cases hr : ws.length ≤ junk.length
    · refine (dpushFront_room hd (by omega) hv hA h0 hr).mono ?_
      rintro e w' ⟨rfl, o', ⟨s2, j2, h2⟩, hs⟩
      exact ⟨rfl, o', ⟨s2, j2, h2.blk, h2.row, by have := h2.few; omega⟩, hs⟩
    · exact dpushFront_grow hd hv hA hB (by omega)
end
end Go.Proofs.YtgmmeeikjofefaaGreatDoor
namespace Go.Proofs.YtgmmeeikjofefaaGreatDoor
open Go Go.RowKit
abbrev repV (k : Nat) (t : List UInt8) (n : Int) (l : Value) : Value := .agg #[.int .i64 (k : Int), .string ⟨t.toArray⟩, .int .i64 n, l]
theorem infoRp : (Tryz.prog.info? 29).map (fun i => (i.zero, i.size, i.bytes)) = some (some (repV 0 [] 0 (.slice none 0 0)), 4, 56) := by kernel_rfl
set_option maxRecDepth 10000 in
theorem lfault_ok (w : World) (s : List UInt8) : Calls Tryz.prog 62 #[txt s] w fun e w' => e = .returned (repV 2 s 0 (.slice none 0 0)) ∧ Below w.heap.size w w' := by
  unfold txt
  go_enter Tryz.func62, Tryz.ntmps62
  go_wp2_with fail
  exact bodyPost_ret (v := (repV 2 s 0 (.slice none 0 0))) (by simp [results, Tryz.results62, go_sem]) rfl ⟨rfl, (Below.refl _ _).alloc (Nat.le_refl _) _⟩
set_option maxRecDepth 10000 in
theorem lbulk_ok (w : World) (s : List UInt8) : Calls Tryz.prog 73 #[txt s] w fun e w' => e = .returned (repV 4 s 0 (.slice none 0 0)) ∧ Below w.heap.size w w' := by
  unfold txt
  go_enter Tryz.func73, Tryz.ntmps73
  go_wp2_with fail
  exact bodyPost_ret (v := (repV 4 s 0 (.slice none 0 0))) (by simp [results, Tryz.results73, go_sem]) rfl ⟨rfl, (Below.refl _ _).alloc (Nat.le_refl _) _⟩
set_option maxRecDepth 10000 in
theorem lnumber_ok (w : World) (n : Int) : Calls Tryz.prog 63 #[.int .i64 n] w fun e w' => e = .returned (repV 3 [] n (.slice none 0 0)) ∧ Below w.heap.size w w' := by
  go_enter Tryz.func63, Tryz.ntmps63
  go_wp2_with fail
  exact bodyPost_ret (v := (repV 3 [] n (.slice none 0 0))) (by simp [results, Tryz.results63, go_sem]) rfl ⟨rfl, (Below.refl _ _).alloc (Nat.le_refl _) _⟩
set_option maxRecDepth 10000 in
theorem lnull_ok (w : World) : Calls Tryz.prog 69 #[] w fun e w' => e = .returned (repV 5 [] 0 (.slice none 0 0)) ∧ Below w.heap.size w w' := by
  go_enter Tryz.func69, Tryz.ntmps69
  go_wp2_with fail
  exact bodyPost_ret (v := (repV 5 [] 0 (.slice none 0 0))) (by simp [results, Tryz.results69, go_sem]) rfl ⟨rfl, (Below.refl _ _).alloc (Nat.le_refl _) _⟩
end Go.Proofs.YtgmmeeikjofefaaGreatDoor
namespace Go.Proofs.YtgmmeeikjofefaaGreatDoor
open Go Go.RowKit
/-! take and lay: an element at an end of a deque. -/
theorem vw_new1 (w : World) (x : List UInt8) (T : TypeId) : Vw (fun b => b = w.heap.size) (w.alloc (.cells #[txt x] T)) (.slice (some ⟨w.heap.size, 0, none⟩) 1 1) 1 1 ([x].map txt) := by
  refine ⟨⟨_, 1, rfl, Nat.le_refl _, by unfold maxLen; omega, .inr ⟨w.heap.size, 0, rfl, by simp, rfl, fun k u hk => ?_⟩⟩, rfl⟩
  have : k = 0 := by have := (List.getElem?_eq_some_iff.1 hk).1; simp at this; omega
  subst this
  simp at hk
  subst hk
  unfold World.cell?
  rw [show (w.alloc (.cells #[txt x] T)).heap[w.heap.size]? = some (.cells #[txt x] T (0, 0)) from heap_alloc_new w _]
  rfl
theorem vw_one {A : Nat → Prop} {w : World} {v : Value} {y : Value} (h : Vw A w v 1 1 [y]) : ∃ b off cap, v = .slice (some ⟨b, off, none⟩) 1 cap ∧ 1 ≤ cap ∧ w.cell? ⟨b, off, none⟩ = some y := by
  obtain ⟨⟨a, cap, h1, h2, h3, h4⟩, h5⟩ := h
  rcases h4 with h4 | ⟨b, off, rfl, g2, g3, g4⟩
  · omega
  · exact ⟨b, off, cap, h1, h2, by simpa using g4 0 y rfl⟩
theorem DeqI.mono {o : Roles} {w : World} {r : List Nat} {d B B' : Nat} {l : List (List UInt8)} (h : DeqI o w r d B l) (hB : B ≤ B') : DeqI o w r d B' l := by
  obtain ⟨sv, j, h⟩ := h
  exact ⟨sv, j, h.blk, h.row, by have := h.few; omega⟩
section
variable {o : Roles} {w : World} {r : List Nat} {d B : Nat}
theorem DeqI.alloc {l : List (List UInt8)} (h : DeqI o w r d B l) (x : Obj) (s : List Nat) : DeqI (o.put w.heap.size s) (w.alloc x) r d B l := by
  obtain ⟨sv, junk, h⟩ := h
  exact ⟨sv, junk, h.blk.alloc x _ s rfl, h.row.alloc x _ s rfl, h.few⟩
set_option maxRecDepth 10000 in
theorem takeL_ok {x : List UInt8} {t : List (List UInt8)} (h : DeqI o w r d B (x :: t)) (hB : B ≤ 1099511627776) :
    Calls Tryz.prog 74 #[.pointer (some ⟨d, 0, none⟩), .bool true] w fun e w' => e = .returned (txt x) ∧ ∃ o', DeqI o' w' r d B t ∧ Stp r o w o' w' := by
  have H := Lib.hid (dpopFront_ok h hB)
  clear h
  unfold txt at *
  go_enter Tryz.func74, Tryz.ntmps74
  go_wp2_with fail
  refine H.out.mono ?_; rintro e w1 ⟨v1, o1, rfl, hd, hv, hs⟩
  obtain ⟨b, off, cap, rfl, hcap, hc⟩ := vw_one hv
  have HD := Lib.hid hd
  have HS := Lib.hid hs
  clear hd hv hs
  go_wp2_with fail
  go_ret
  exact ⟨rfl, o1, HD.out, HS.out⟩
set_option maxRecDepth 10000 in
theorem takeR_ok {x : List UInt8} {t : List (List UInt8)} (h : DeqI o w r d B (t ++ [x])) (hB : B ≤ 1099511627776) :
    Calls Tryz.prog 74 #[.pointer (some ⟨d, 0, none⟩), .bool false] w fun e w' => e = .returned (txt x) ∧ ∃ o', DeqI o' w' r d B t ∧ Stp r o w o' w' := by
  have H := Lib.hid (dpopBack_ok h hB)
  clear h
  unfold txt at *
  go_enter Tryz.func74, Tryz.ntmps74
  go_wp2_with fail
  refine H.out.mono ?_; rintro e w1 ⟨v1, o1, rfl, hd, hv, hs⟩
  obtain ⟨b, off, cap, rfl, hcap, hc⟩ := vw_one hv
  have HD := Lib.hid hd
  have HS := Lib.hid hs
  clear hd hv hs
  go_wp2_with fail
  go_ret
  exact ⟨rfl, o1, HD.out, HS.out⟩
set_option maxRecDepth 10000 in
theorem layL_ok {l : List (List UInt8)} (h : DeqI o w r d B l) (h0 : r ≠ []) (x : List UInt8) (hB : 1 + 2 * B ≤ 1099511627776) :
    Calls Tryz.prog 75 #[.pointer (some ⟨d, 0, none⟩), .bool true, txt x] w fun e w' => e = .returned (.tuple #[]) ∧ ∃ o', DeqI o' w' r d (1 + 2 * B) (x :: l) ∧ Stp r o w o' w' := by
  have H := Lib.hid (dpushFront_ok (h.alloc (.cells #[txt x] 9) []) (ws := [x]) (vw_new1 w x 9) (fun b hb hp => by subst hb; rw [Roles.put_same] at hp; exact h0 (List.prefix_nil.1 hp)) hB)
  have HS := Lib.hid ((Stp.refl r o w).alloc (r' := []) (.cells #[txt x] 9) w.heap.size rfl)
  clear h
  unfold txt at *
  go_enter Tryz.func75, Tryz.ntmps75
  go_wp2_with fail
  refine H.out.mono ?_; rintro e w1 ⟨rfl, o1, hd, hs⟩
  have HD := Lib.hid hd
  have HS2 := Lib.hid (HS.out.trans hs)
  clear hd hs
  go_wp2_with fail
  go_end0
  exact ⟨rfl, o1, HD.out, HS2.out⟩
set_option maxRecDepth 10000 in
theorem layR_ok {l : List (List UInt8)} (h : DeqI o w r d B l) (x : List UInt8) (hB : 1 + B ≤ 1099511627776) :
    Calls Tryz.prog 75 #[.pointer (some ⟨d, 0, none⟩), .bool false, txt x] w fun e w' => e = .returned (.tuple #[]) ∧ ∃ o', DeqI o' w' r d (B + 1) (l ++ [x]) ∧ Stp r o w o' w' := by
  have H := Lib.hid (dpushBack_ok (h.alloc (.cells #[txt x] 9) []) (ws := [x]) (vw_new1 w x 9) (by simp; omega))
  have HS := Lib.hid ((Stp.refl r o w).alloc (r' := []) (.cells #[txt x] 9) w.heap.size rfl)
  clear h
  unfold txt at *
  go_enter Tryz.func75, Tryz.ntmps75
  go_wp2_with fail
  refine H.out.mono ?_; rintro e w1 ⟨rfl, o1, hd, hs⟩
  have HD := Lib.hid hd
  have HS2 := Lib.hid (HS.out.trans hs)
  clear hd hs
  go_wp2_with fail
  go_end0
  exact ⟨rfl, o1, HD.out, HS2.out⟩
/-- What stands at an end, and the rest. -/
def endL (left : Bool) (x : List UInt8) (t : List (List UInt8)) : List (List UInt8) := if left then x :: t else t ++ [x]
theorem endL_len (left : Bool) (x : List UInt8) (t : List (List UInt8)) : (endL left x t).length = t.length + 1 := by unfold endL; cases left <;> simp
theorem take_ok {left : Bool} {x : List UInt8} {t : List (List UInt8)} (h : DeqI o w r d B (endL left x t)) (hB : B ≤ 1099511627776) :
    Calls Tryz.prog 74 #[.pointer (some ⟨d, 0, none⟩), .bool left] w fun e w' => e = .returned (txt x) ∧ ∃ o', DeqI o' w' r d B t ∧ Stp r o w o' w' := by
  cases left with
  | true => exact takeL_ok h hB
  | false => exact takeR_ok h hB
theorem lay_ok' {left : Bool} {l : List (List UInt8)} (h : DeqI o w r d B l) (h0 : r ≠ []) (x : List UInt8) (hB : 1 + 2 * B ≤ 1099511627776) :
    Calls Tryz.prog 75 #[.pointer (some ⟨d, 0, none⟩), .bool left, txt x] w fun e w' => e = .returned (.tuple #[]) ∧ ∃ o', DeqI o' w' r d (1 + 2 * B) (endL left x l) ∧ Stp r o w o' w' := by
  cases left with
  | true => exact layL_ok h h0 x hB
  | false =>
    refine (layR_ok h x (by omega)).mono ?_
    rintro e w' ⟨rfl, o', hd, hs⟩
    exact ⟨rfl, o', hd.mono (by omega), hs⟩
end
end Go.Proofs.YtgmmeeikjofefaaGreatDoor
