import Derived.Test.YtgmmeeikjofefaaGreatDoorRp
import Derived.Deep.RegionLaw
import Derived.Deep.DrawnRows
import Derived.Shelf.Abstract
namespace Go.Proofs.YtgmmeeikjofefaaGreatDoor
open Go Go.RowKit
attribute [local go_sem ↓] Go.wp_at_zero Go.wp_at_succ
/-! Replies: their lists. -/
structure Rf where
  kind : Nat
  text : List UInt8
  n : Int
abbrev rfC (x : Rf) : List Value := [.int .i64 (x.kind : Int), .string ⟨x.text.toArray⟩, .int .i64 x.n, .slice none 0 0]
def rfsC (l : List Rf) : List Value := l.flatMap rfC
theorem rfsC_app (a b : List Rf) : rfsC (a ++ b) = rfsC a ++ rfsC b := by unfold rfsC; exact List.flatMap_append
theorem rfsC_len (l : List Rf) : (rfsC l).length = l.length * 4 := by
  unfold rfsC
  induction l with
  | nil => rfl
  | cons x t ih => simp only [List.flatMap_cons, List.length_append, List.length_cons, ih]; simp; omega
theorem rfsC_one (l : List Rf) : ∀ u ∈ rfsC l, u.oneCell' = true := by
  intro u hu
  obtain ⟨x, _, hx⟩ := List.mem_flatMap.1 hu
  simp [rfC] at hx
  rcases hx with rfl | rfl | rfl | rfl <;> rfl
def bulkF (s : List UInt8) : Rf := ⟨4, s, 0⟩
def numF (n : Int) : Rf := ⟨3, [], n⟩
def BulksRel (w : World) (l : List (List UInt8)) (i : Value) (wr : World) : Prop :=
  ∃ k v o', k ≤ l.length ∧ i = .int .i64 ((k : Nat) : Int) ∧ Blk o' wr [9, 1] (w.heap.size + 1) #[.int .i64 6, .string ⟨#[]⟩, .int .i64 0, v] 29 ∧ Blk o' wr [9, 2] w.heap.size #[.int .i64 0, .string ⟨#[]⟩, .int .i64 0, .slice none 0 0] 29 ∧ Row o' wr [9, 0] 29 4 v k (rfsC ((l.take k).map bulkF)) ∧ Stp [9] none0 w o' wr
/-- A call at a step of a region that draws its order. -/
theorem step_call {P : Program} {f : FuncId} {ops : Array Oper} {op : Oper} {a : Act} {K : Act → World → Prop} {Q : Exit → Act → World → Prop} {E : Prop} {w : World} {us : List Value} {Post : Ending → World → Prop} (hgd : op.guard = none) (xs : List Operand) (ts : Array TypeId)
    (ho : op.op = .call { callee := .value (.func f), args := xs.toArray, argTypes := ts }) (hx : xs.map a.eval = us) (hen : ∀ us w, (callFunc f us).run P w = .ok (.enter f us) w) (hc : Calls P f us.toArray w Post) (h : ∀ e w', Post e w' → ∃ v, e = .returned v ∧ K (a.put op.dst v) w') :
    if Region.wanted op (yielded ops a.tmps) = true then Oper.wp P op a w K Q else E := by
  have hw : Region.wanted op (yielded ops a.tmps) = true := by simp [Region.wanted, hgd]
  rw [if_pos hw]
  have hr : (execOp a.eval op).run P w = .ok (.enter f us.toArray) w := by
    unfold execOp
    simp only [ho, resolve]
    have e1 : a.eval (.func f) = .func (.func f) #[] #[] := rfl
    have e2 : xs.toArray.map a.eval = us.toArray := by simp [hx]
    rw [e1, e2]
    simp [Deferred.ofValue, invoke, hen]
  unfold Oper.wp
  rw [hr, Oper.upon_enter]
  refine hc.mono fun e w' hp => ?_
  obtain ⟨v, rfl, hk⟩ := h e w' hp
  exact hk
theorem vw_newK (w : World) (cs : Array Value) (T : TypeId) (sz : Nat) (h : cs.size = sz) : Vw (fun b => b = w.heap.size) (w.alloc (.cells cs T)) (.slice (some ⟨w.heap.size, 0, none⟩) 1 1) sz 1 cs.toList := by
  refine ⟨⟨_, 1, rfl, Nat.le_refl _, by unfold maxLen; omega, .inr ⟨w.heap.size, 0, rfl, by simp, rfl, fun k u hk => ?_⟩⟩, by simp [h]⟩
  unfold World.cell?
  rw [show (w.alloc (.cells cs T)).heap[w.heap.size]? = some (.cells cs T (0, 0)) from heap_alloc_new w _]
  simpa using hk
theorem Row.fresh2 {o' : Roles} {w w' : World} {r t : List Nat} {a n sz : Nat} {e : TypeId} {v : Value} {xs : List Value} (h : Row o' w' r e sz v n xs) (h0 : r ≠ []) (st : Stp (a :: t) none0 w o' w') : Fresh w w' e sz v n xs := by
  refine ⟨?_, st.below0⟩
  rcases h.own.2 with h1 | ⟨g, cap, cur, h1, h2, h3, rest⟩
  · exact ⟨h.own.1, .inl h1⟩
  · refine ⟨h.own.1, .inr ⟨g, cap, cur, h1, ?_, h3, rest⟩⟩
    rcases Nat.lt_or_ge g w.heap.size with hg | hg
    · have e1 := h.role g (by simp [h1, Value.ownBlock])
      rw [st.old g hg] at e1
      exact absurd e1.symm h0
    · exact hg
def BulksDid (w : World) (l : List (List UInt8)) (e : Ending) (w' : World) : Prop := ∃ v, e = .returned (repV 6 [] 0 v) ∧ Fresh w w' 29 4 v l.length (rfsC (l.map bulkF))
set_option maxRecDepth 10000 in
set_option maxHeartbeats 4000000 in
theorem lbulks_ok {A : Nat → Prop} {w : World} {v : Value} {l : List (List UInt8)} (hv : Vw A w v 1 l.length (l.map txt)) (hn : l.length ≤ 1099511627776) : Calls Tryz.prog 72 #[v] w (BulksDid w l) := by
  obtain ⟨a, cap, rfl, _⟩ := id hv.slice
  have HV := Lib.hid hv
  clear hv
  have hat : BulksRel w l (.int .i64 0) ((w.alloc (.cells #[.int .i64 0, .string ⟨#[]⟩, .int .i64 0, .slice none 0 0] 29)).alloc (.cells #[.int .i64 6, .string ⟨#[]⟩, .int .i64 0, .slice none 0 0] 29)) := by
    have h0 : (w.alloc (.cells #[.int .i64 0, .string ⟨#[]⟩, .int .i64 0, .slice none 0 0] 29)).heap.size = w.heap.size + 1 := by simp
    have b1 := Blk.new none0 w [9, 2] #[.int .i64 0, .string ⟨#[]⟩, .int .i64 0, .slice none 0 0] 29 w.heap.size rfl
    have s1 := (Stp.refl [9] none0 w).alloc (r' := [9, 2]) (.cells #[.int .i64 0, .string ⟨#[]⟩, .int .i64 0, .slice none 0 0] 29) w.heap.size rfl
    have b2 := Blk.new (none0.put w.heap.size [9, 2]) _ [9, 1] #[.int .i64 6, .string ⟨#[]⟩, .int .i64 0, .slice none 0 0] 29 (w.heap.size + 1) h0.symm
    have s2 := s1.alloc (r' := [9, 1]) (.cells #[.int .i64 6, .string ⟨#[]⟩, .int .i64 0, .slice none 0 0] 29) (w.heap.size + 1) h0.symm
    exact ⟨0, _, _, Nat.zero_le _, rfl, b2, b1.alloc _ _ [9, 1] h0.symm, Row.nil _ _ _ _ _, s2⟩
  go_enter Tryz.func72, Tryz.ntmps72
  go_wp2_with fail
  go_loopw [9] (fun i wr => BulksRel w l i wr) (fun i _ => l.length - (intOf i).toNat)
  case atStart => exact hat
  case round =>
    obtain ⟨k, v, o1, hk, rfl, hblk, hres, hrow, hst⟩ := hrel
    clear hat
    by_cases hkl : k < l.length
    · obtain ⟨x, hx⟩ : ∃ x, l[k]? = some x := ⟨_, List.getElem?_eq_getElem hkl⟩
      have hB := hst.below0
      have hvr := HV.out.below hB
      obtain ⟨⟨a1, c1, e4, hc1, _, hcells⟩, _⟩ := hvr
      injection e4 with e5 e6 e7
      subst e5 e7
      rcases hcells with hcells | ⟨bv, ov, rfl, hbv, _, hcv⟩
      · omega
      have hcell : wr.cell? ⟨bv, ov + k, none⟩ = some (.string ⟨x.toArray⟩) := hcv k (txt x) (by rw [List.getElem?_map, hx]; rfl)
      obtain ⟨av, cav, rfl, _⟩ := id hrow.slice
      have hld := hblk.cell 3
      have hkI : (0 : Int) ≤ k ∧ (k : Int) < l.length := by omega
      have HX := Lib.hid (show (l.take (k + 1)).map bulkF = (l.take k).map bulkF ++ [bulkF x] by rw [List.take_add_one, hx]; simp)
      have HBLK := Lib.hid hblk
      have HRES := Lib.hid hres
      have HROW := Lib.hid hrow
      have HST := Lib.hid hst
      have HEN := Lib.hid (show ∀ us w, (callFunc 73 us).run Tryz.prog w = .ok (.enter 73 us) w from enters_of Tryz.func73 (by kernel_rfl) rfl)
      have HBU := Lib.hid (lbulk_ok (World.drew wr) x)
      obtain ⟨i0, hi0, hz0, hz1, hz2⟩ := info_parts infoRp
      unfold txt at HBU
      clear hblk hres hrow hst hB hcv hx
      simp only [List.getElem?_toArray, List.getElem?_cons_succ, List.getElem?_cons_zero] at hld
      go_wp2_with fail
      go_region_law (first
        | (refine step_call (f := 73) rfl _ _ rfl (by rfl) HEN.out HBU.out ?_
           rintro e w3 ⟨rfl, hB3⟩
           refine ⟨_, rfl, ?_⟩
           have hB3' : Below wr.heap.size wr w3 := (Below.refl _ wr).drew.trans hB3
           have hld3 : w3.cell? ⟨w.heap.size + 1, 3, none⟩ = some (.slice av k cav) := (HBLK.out.below hB3').cell 3
           have hB4 := hB3'.alloc hB3'.size (.cells #[.int .i64 4, .string ⟨x.toArray⟩, .int .i64 0, .slice none 0 0] 29)
           have hld4 : (w3.alloc (.cells #[.int .i64 4, .string ⟨x.toArray⟩, .int .i64 0, .slice none 0 0] 29)).cell? ⟨w.heap.size + 1, 3, none⟩ = some (.slice av k cav) := (HBLK.out.below hB4).cell 3
           have HR4 := Lib.hid (HROW.out.below hB4)
           have HB4 := Lib.hid hB4
           have HSRC := Lib.hid ((vw_newK w3 #[.int .i64 4, .string ⟨x.toArray⟩, .int .i64 0, .slice none 0 0] 29 4 rfl).src (P := Tryz.prog) Tryz.underlying27 (by intro u hu; simp at hu; rcases hu with rfl | rfl | rfl | rfl <;> rfl))
           clear hB3 hB3' hB4)
        | (refine step_app _ rfl _ _ 27 27 rfl 29 i0 _ 4 56 Tryz.underlying27 hi0 hz0 hz1 hz2 rfl rfl HR4.out rfl HSRC.out (by unfold maxLen; omega) (by omega) ?_
           intro v' w5 o5 hrow5 hst5
           obtain ⟨av5, cv5, rfl, _⟩ := id hrow5.slice
           have hbk5 := (HBLK.out.below HB4.out).keep hst5 (by decide)
           have hld5 : w5.cell? ⟨w.heap.size + 1, 3, none⟩ = some (.slice av k cav) := hbk5.cell 3
           have hfr5 := hbk5.free
           have hrs5 := (HRES.out.below HB4.out).keep hst5 (by decide)
           have hs5 := HST.out.trans ((Stp.ofBelow [9] o1 HB4.out).trans (hst5.wide (by decide)))
           have D := Lib.hid (show BulksRel w l (.int .i64 ((k + 1 : Nat) : Int)) (w5.setCell ⟨w.heap.size + 1, 3, none⟩ (.slice av5 (k + 1) cv5)) from
             ⟨k + 1, _, o5, hkl, rfl, hbk5.setCell 3 _, hrs5.setOther _ _ (by simp), by rw [HX.out, rfsC_app]; exact hrow5.setCell _ _ (by show o5 (w.heap.size + 1) ≠ _; rw [hbk5.role]; decide), hs5.setCell (by show [9] <+: o5 (w.heap.size + 1); rw [hbk5.role]; decide) _⟩)
           clear hrow5 hst5 hbk5 hrs5 hs5))
      all_goals (
        clear HBLK HRES HROW HST HEN HBU HX HR4 HB4 HSRC
        go_wp2_with fail
        go_roundw
        case rel => exact D.out
        case measure => simp [intOf]; omega)
    · obtain rfl : k = l.length := by omega
      obtain ⟨av, cav, rfl, _⟩ := id hrow.slice
      have hb := hblk.cell
      have hr := hres.cell
      have hrf := hres.free
      rw [List.take_length] at hrow
      have HD := Lib.hid hrow
      have HBL := Lib.hid hblk
      have HRS := Lib.hid hres
      have HST := Lib.hid hst
      clear hblk hres hrow hst HV
      go_wp2_with fail
      refine bodyPost_ret (v := repV 6 [] 0 (.slice av l.length cav)) (by simp [results, Tryz.results72, go_sem, hr]) rfl ⟨_, rfl, ?_⟩
      have h0 := HRS.out.role
      refine Row.fresh2 (o' := o1) (r := [9, 0]) (a := 9) (t := []) ?_ (by decide) ?_
      · iterate 4 refine Row.setCell ?_ _ _ (by show o1 w.heap.size ≠ _; rw [h0]; decide)
        exact HD.out
      · iterate 4 refine Stp.setCell ?_ (by show [9] <+: o1 w.heap.size; rw [h0]; decide) _
        exact HST.out
end Go.Proofs.YtgmmeeikjofefaaGreatDoor
