import Derived.Test.YtgmmeeikjofefaaGreatDoorGD
import Derived.Deep.RegionLaw
import Derived.Deep.DrawnRows
import Derived.Shelf.Abstract
import Derived.Test.YtgmmeeikjofefaaGreatDoorGB
import Derived.Deep.CutRange
import Derived.Deep.RegionHeld3
import Derived.Deep.DeepCutAuto
namespace Go.Proofs.YtgmmeeikjofefaaGreatDoor
open Go Go.RowKit
attribute [local go_sem ↓] Go.wp_at_zero Go.wp_at_succ
/-! Replies: their lists. -/
structure Rf where
  kind : Nat
  text : List UInt8
  n : Int
abbrev rfC (x : Rf) : List Value := [.int .i64 (x.kind : Int), .string ⟨x.text.toArray⟩, .int .i64 x.n, .slice none 0 0]
def rfsC (l : List Rf) : List Value := l.flatMap rfC
theorem rfsC_app (a b : List Rf) : rfsC (a ++ b) = rfsC a ++ rfsC b := by unfold rfsC; exact List.flatMap_append
theorem rfsC_len (l : List Rf) : (rfsC l).length = l.length * 4 := by
  unfold rfsC
  induction l with
  | nil => rfl
  | cons x t ih => simp only [List.flatMap_cons, List.length_append, List.length_cons, ih]; simp; omega
theorem rfsC_one (l : List Rf) : ∀ u ∈ rfsC l, u.oneCell' = true := by
  intro u hu
  obtain ⟨x, _, hx⟩ := List.mem_flatMap.1 hu
  simp [rfC] at hx
  rcases hx with rfl | rfl | rfl | rfl <;> rfl
def bulkF (s : List UInt8) : Rf := ⟨4, s, 0⟩
def numF (n : Int) : Rf := ⟨3, [], n⟩
def BulksRel (w : World) (l : List (List UInt8)) (i : Value) (wr : World) : Prop :=
  ∃ k v o', k ≤ l.length ∧ i = .int .i64 ((k : Nat) : Int) ∧ Blk o' wr [9, 1] (w.heap.size + 1) #[.int .i64 6, .string ⟨#[]⟩, .int .i64 0, v] 29 ∧ Blk o' wr [9, 2] w.heap.size #[.int .i64 0, .string ⟨#[]⟩, .int .i64 0, .slice none 0 0] 29 ∧ Row o' wr [9, 0] 29 4 v k (rfsC ((l.take k).map bulkF)) ∧ Stp [9] none0 w o' wr
/-- A call at a step of a region that draws its order. -/
theorem step_call {P : Program} {f : FuncId} {ops : Array Oper} {op : Oper} {a : Act} {K : Act → World → Prop} {Q : Exit → Act → World → Prop} {E : Prop} {w : World} {us : List Value} {Post : Ending → World → Prop} (hgd : op.guard = none) (xs : List Operand) (ts : Array TypeId)
    (ho : op.op = .call { callee := .value (.func f), args := xs.toArray, argTypes := ts }) (hx : xs.map a.eval = us) (hen : ∀ us w, (callFunc f us).run P w = .ok (.enter f us) w) (hc : Calls P f us.toArray w Post) (h : ∀ e w', Post e w' → ∃ v, e = .returned v ∧ K (a.put op.dst v) w') :
    if Region.wanted op (yielded ops a.tmps) = true then Oper.wp P op a w K Q else E := by
  have hw : Region.wanted op (yielded ops a.tmps) = true := by simp [Region.wanted, hgd]
  rw [if_pos hw]
  have hr : (execOp a.eval op).run P w = .ok (.enter f us.toArray) w := by
    unfold execOp
    simp only [ho, resolve]
    have e1 : a.eval (.func f) = .func (.func f) #[] #[] := rfl
    have e2 : xs.toArray.map a.eval = us.toArray := by simp [hx]
    rw [e1, e2]
    simp [Deferred.ofValue, invoke, hen]
  unfold Oper.wp
  rw [hr, Oper.upon_enter]
  refine hc.mono fun e w' hp => ?_
  obtain ⟨v, rfl, hk⟩ := h e w' hp
  exact hk
theorem vw_newK (w : World) (cs : Array Value) (T : TypeId) (sz : Nat) (h : cs.size = sz) : Vw (fun b => b = w.heap.size) (w.alloc (.cells cs T)) (.slice (some ⟨w.heap.size, 0, none⟩) 1 1) sz 1 cs.toList := by
  refine ⟨⟨_, 1, rfl, Nat.le_refl _, by unfold maxLen; omega, .inr ⟨w.heap.size, 0, rfl, by simp, rfl, fun k u hk => ?_⟩⟩, by simp [h]⟩
  unfold World.cell?
  rw [show (w.alloc (.cells cs T)).heap[w.heap.size]? = some (.cells cs T (0, 0)) from heap_alloc_new w _]
  simpa using hk
theorem Row.fresh2 {o' : Roles} {w w' : World} {r t : List Nat} {a n sz : Nat} {e : TypeId} {v : Value} {xs : List Value} (h : Row o' w' r e sz v n xs) (h0 : r ≠ []) (st : Stp (a :: t) none0 w o' w') : Fresh w w' e sz v n xs := by
  refine ⟨?_, st.below0⟩
  rcases h.own.2 with h1 | ⟨g, cap, cur, h1, h2, h3, rest⟩
  · exact ⟨h.own.1, .inl h1⟩
  · refine ⟨h.own.1, .inr ⟨g, cap, cur, h1, ?_, h3, rest⟩⟩
    rcases Nat.lt_or_ge g w.heap.size with hg | hg
    · have e1 := h.role g (by simp [h1, Value.ownBlock])
      rw [st.old g hg] at e1
      exact absurd e1.symm h0
    · exact hg
def BulksDid (w : World) (l : List (List UInt8)) (e : Ending) (w' : World) : Prop := ∃ v, e = .returned (repV 6 [] 0 v) ∧ Fresh w w' 29 4 v l.length (rfsC (l.map bulkF))
set_option maxRecDepth 10000 in
set_option maxHeartbeats 4000000 in
theorem lbulks_ok {A : Nat → Prop} {w : World} {v : Value} {l : List (List UInt8)} (hv : Vw A w v 1 l.length (l.map txt)) (hn : l.length ≤ 1099511627776) : Calls Tryz.prog 72 #[v] w (BulksDid w l) := by
  obtain ⟨a, cap, rfl, _⟩ := id hv.slice
  have HV := Lib.hid hv
  clear hv
  have hat : BulksRel w l (.int .i64 0) ((w.alloc (.cells #[.int .i64 0, .string ⟨#[]⟩, .int .i64 0, .slice none 0 0] 29)).alloc (.cells #[.int .i64 6, .string ⟨#[]⟩, .int .i64 0, .slice none 0 0] 29)) := by
    have h0 : (w.alloc (.cells #[.int .i64 0, .string ⟨#[]⟩, .int .i64 0, .slice none 0 0] 29)).heap.size = w.heap.size + 1 := by simp
    have b1 := Blk.new none0 w [9, 2] #[.int .i64 0, .string ⟨#[]⟩, .int .i64 0, .slice none 0 0] 29 w.heap.size rfl
    have s1 := (Stp.refl [9] none0 w).alloc (r' := [9, 2]) (.cells #[.int .i64 0, .string ⟨#[]⟩, .int .i64 0, .slice none 0 0] 29) w.heap.size rfl
    have b2 := Blk.new (none0.put w.heap.size [9, 2]) _ [9, 1] #[.int .i64 6, .string ⟨#[]⟩, .int .i64 0, .slice none 0 0] 29 (w.heap.size + 1) h0.symm
    have s2 := s1.alloc (r' := [9, 1]) (.cells #[.int .i64 6, .string ⟨#[]⟩, .int .i64 0, .slice none 0 0] 29) (w.heap.size + 1) h0.symm
    exact ⟨0, _, _, Nat.zero_le _, rfl, b2, b1.alloc _ _ [9, 1] h0.symm, Row.nil _ _ _ _ _, s2⟩
  go_enter Tryz.func72, Tryz.ntmps72
  go_wp2_with fail
  go_loopw [9] (fun i wr => BulksRel w l i wr) (fun i _ => l.length - (intOf i).toNat)
  case atStart => exact hat
  case round =>
    obtain ⟨k, v, o1, hk, rfl, hblk, hres, hrow, hst⟩ := hrel
    clear hat
    by_cases hkl : k < l.length
    · obtain ⟨x, hx⟩ : ∃ x, l[k]? = some x := ⟨_, List.getElem?_eq_getElem hkl⟩
      have hB := hst.below0
      have hvr := HV.out.below hB
      obtain ⟨⟨a1, c1, e4, hc1, _, hcells⟩, _⟩ := hvr
      injection e4 with e5 e6 e7
      subst e5 e7
      rcases hcells with hcells | ⟨bv, ov, rfl, hbv, _, hcv⟩
      · omega
      have hcell : wr.cell? ⟨bv, ov + k, none⟩ = some (.string ⟨x.toArray⟩) := hcv k (txt x) (by rw [List.getElem?_map, hx]; rfl)
      obtain ⟨av, cav, rfl, _⟩ := id hrow.slice
      have hld := hblk.cell 3
      have hkI : (0 : Int) ≤ k ∧ (k : Int) < l.length := by omega
      have HX := Lib.hid (show (l.take (k + 1)).map bulkF = (l.take k).map bulkF ++ [bulkF x] by rw [List.take_add_one, hx]; simp)
      have HBLK := Lib.hid hblk
      have HRES := Lib.hid hres
      have HROW := Lib.hid hrow
      have HST := Lib.hid hst
      have HEN := Lib.hid (show ∀ us w, (callFunc 73 us).run Tryz.prog w = .ok (.enter 73 us) w from enters_of Tryz.func73 (by kernel_rfl) rfl)
      have HBU := Lib.hid (lbulk_ok (World.drew wr) x)
      obtain ⟨i0, hi0, hz0, hz1, hz2⟩ := info_parts infoRp
      unfold txt at HBU
      clear hblk hres hrow hst hB hcv hx
      simp only [List.getElem?_toArray, List.getElem?_cons_succ, List.getElem?_cons_zero] at hld
      go_wp2_with fail
      go_region_law (first
        | (refine step_call (f := 73) rfl _ _ rfl (by rfl) HEN.out HBU.out ?_
           rintro e w3 ⟨rfl, hB3⟩
           refine ⟨_, rfl, ?_⟩
           have hB3' : Below wr.heap.size wr w3 := (Below.refl _ wr).drew.trans hB3
           have hld3 : w3.cell? ⟨w.heap.size + 1, 3, none⟩ = some (.slice av k cav) := (HBLK.out.below hB3').cell 3
           have hB4 := hB3'.alloc hB3'.size (.cells #[.int .i64 4, .string ⟨x.toArray⟩, .int .i64 0, .slice none 0 0] 29)
           have hld4 : (w3.alloc (.cells #[.int .i64 4, .string ⟨x.toArray⟩, .int .i64 0, .slice none 0 0] 29)).cell? ⟨w.heap.size + 1, 3, none⟩ = some (.slice av k cav) := (HBLK.out.below hB4).cell 3
           have HR4 := Lib.hid (HROW.out.below hB4)
           have HB4 := Lib.hid hB4
           have HSRC := Lib.hid ((vw_newK w3 #[.int .i64 4, .string ⟨x.toArray⟩, .int .i64 0, .slice none 0 0] 29 4 rfl).src (P := Tryz.prog) Tryz.underlying27 (by intro u hu; simp at hu; rcases hu with rfl | rfl | rfl | rfl <;> rfl))
           clear hB3 hB3' hB4)
        | (refine step_app _ rfl _ _ 27 27 rfl 29 i0 _ 4 56 Tryz.underlying27 hi0 hz0 hz1 hz2 rfl rfl HR4.out rfl HSRC.out (by unfold maxLen; omega) (by omega) ?_
           intro v' w5 o5 hrow5 hst5
           obtain ⟨av5, cv5, rfl, _⟩ := id hrow5.slice
           have hbk5 := (HBLK.out.below HB4.out).keep hst5 (by decide)
           have hld5 : w5.cell? ⟨w.heap.size + 1, 3, none⟩ = some (.slice av k cav) := hbk5.cell 3
           have hfr5 := hbk5.free
           have hrs5 := (HRES.out.below HB4.out).keep hst5 (by decide)
           have hs5 := HST.out.trans ((Stp.ofBelow [9] o1 HB4.out).trans (hst5.wide (by decide)))
           have D := Lib.hid (show BulksRel w l (.int .i64 ((k + 1 : Nat) : Int)) (w5.setCell ⟨w.heap.size + 1, 3, none⟩ (.slice av5 (k + 1) cv5)) from
             ⟨k + 1, _, o5, hkl, rfl, hbk5.setCell 3 _, hrs5.setOther _ _ (by simp), by rw [HX.out, rfsC_app]; exact hrow5.setCell _ _ (by show o5 (w.heap.size + 1) ≠ _; rw [hbk5.role]; decide), hs5.setCell (by show [9] <+: o5 (w.heap.size + 1); rw [hbk5.role]; decide) _⟩)
           clear hrow5 hst5 hbk5 hrs5 hs5))
      all_goals (
        clear HBLK HRES HROW HST HEN HBU HX HR4 HB4 HSRC
        go_wp2_with fail
        go_roundw
        case rel => exact D.out
        case measure => simp [intOf]; omega)
    · obtain rfl : k = l.length := by omega
      obtain ⟨av, cav, rfl, _⟩ := id hrow.slice
      have hb := hblk.cell
      have hr := hres.cell
      have hrf := hres.free
      rw [List.take_length] at hrow
      have HD := Lib.hid hrow
      have HBL := Lib.hid hblk
      have HRS := Lib.hid hres
      have HST := Lib.hid hst
      clear hblk hres hrow hst HV
      go_wp2_with fail
      refine bodyPost_ret (v := repV 6 [] 0 (.slice av l.length cav)) (by simp [results, Tryz.results72, go_sem, hr]) rfl ⟨_, rfl, ?_⟩
      have h0 := HRS.out.role
      refine Row.fresh2 (o' := o1) (r := [9, 0]) (a := 9) (t := []) ?_ (by decide) ?_
      · iterate 4 refine Row.setCell ?_ _ _ (by show o1 w.heap.size ≠ _; rw [h0]; decide)
        exact HD.out
      · iterate 4 refine Stp.setCell ?_ (by show [9] <+: o1 w.heap.size; rw [h0]; decide) _
        exact HST.out
end Go.Proofs.YtgmmeeikjofefaaGreatDoor
namespace Go.Proofs.YtgmmeeikjofefaaGreatDoor
open Go Go.RowKit
abbrev callC (p : Nat) (now : Int) (nm : List UInt8) (sv : Value) : Array Value := #[.pointer (some ⟨p, 0, none⟩), .int .i64 now, .string ⟨nm.toArray⟩, sv]
def ListDid (o : Roles) (w : World) (r : List Nat) (V : VV) (ok : Bool) (e : Ending) (w' : World) : Prop :=
  ∃ d o', e = .returned (.tuple #[.pointer (some ⟨d, 0, none⟩), .bool ok, .bool (ok && V.kind != 2)]) ∧ DeqI o' w' r d V.list.length V.list ∧ ∀ s, Stp s o w o' w'
theorem step_dof {ops : Array Oper} {op : Oper} {a : Act} {K : Act → World → Prop} {Q : Exit → Act → World → Prop} {E : Prop} {w : World} {u : Value} {Post : Ending → World → Prop} (hgd : op.guard = none) (x : Operand)
    (ho : op.op = .call { callee := .value (.func 120), args := #[x], argTypes := #[22] }) (hx : a.eval x = u) (hc : Calls Tryz.prog 120 #[u] w Post) (h : ∀ e w', Post e w' → ∃ v, e = .returned v ∧ K (a.put op.dst v) w') :
    if Region.wanted op (yielded ops a.tmps) = true then Oper.wp Tryz.prog op a w K Q else E := by
  have hw : Region.wanted op (yielded ops a.tmps) = true := by simp [Region.wanted, hgd]
  have hen : (callFunc 120 #[u]).run Tryz.prog w = .ok (.enter 120 #[u]) w := enters_of Tryz.func120 (by kernel_rfl) rfl #[u] w
  rw [if_pos hw]
  have hr : (execOp a.eval op).run Tryz.prog w = .ok (.enter 120 #[u]) w := by
    unfold execOp
    simp only [ho, resolve]
    have e1 : a.eval (.func 120) = .func (.func 120) #[] #[] := rfl
    have e2 : Array.map a.eval #[x] = #[u] := by simp [hx]
    rw [e1, e2]
    exact hen
  unfold Oper.wp
  rw [hr, Oper.upon_enter]
  refine hc.mono fun e w' hp => ?_
  obtain ⟨v, rfl, hk⟩ := h e w' hp
  exact hk
theorem step_load {ops : Array Oper} {op : Oper} {a : Act} {K : Act → World → Prop} {Q : Exit → Act → World → Prop} {E : Prop} {w : World} {v : Value} (hgd : op.guard = none)
    (hr : (execOp a.eval op).run Tryz.prog w = .ok (.value v) w) (h : K (a.put op.dst v) w) :
    if Region.wanted op (yielded ops a.tmps) = true then Oper.wp Tryz.prog op a w K Q else E := by
  have hw : Region.wanted op (yielded ops a.tmps) = true := by simp [Region.wanted, hgd]
  rw [if_pos hw]
  simp only [Oper.wp, hr, Oper.upon]
  exact h
theorem exit_frame {K : Act → World → Prop} {Q : Exit → Act → World → Prop} {a b : Act} {w : World} (h : a = b) (hk : Exit.then K Q Exit.normal b w) : Exit.then K Q Exit.normal a w := h ▸ hk
def ListR (w : World) (V : VV) (ok : Bool) (s7 s8 : Value) (wx : World) : Prop :=
  ∃ g a1 c1 f r, s7 = .pointer (some ⟨g, 0, none⟩) ∧ s8 = .bool ok ∧ wx.heap[g]? = some (.cells #[.int .i64 V.kind, .string ⟨V.text.toArray⟩, .slice a1 V.list.length c1, f, r] 49 (0, 0)) ∧ Vw (fun b => w.heap.size ≤ b) wx (.slice a1 V.list.length c1) 1 V.list.length (V.list.map txt) ∧ Below w.heap.size w wx
section
variable {o : Roles} {w : World} {q : List Nat} {p : Nat} {c : Cnt} {S : SP}
set_option maxRecDepth 10000 in
set_option maxHeartbeats 20000000 in
theorem clist_ok (h : SpJ o w q p S c) {cb : Nat} {ρ : List Nat} {now : Int} {nm : List UInt8} {sv : Value} (hcb : Blk o w ρ cb (callC p now nm sv) 79) (k : List UInt8) (r : List Nat) :
    Calls Tryz.prog 61 #[.pointer (some ⟨cb, 0, none⟩), txt k] w (ListDid o w r ((S.at now k).getD hd0).v (S.at now k).isSome) := by
  have hsm := h.small' now k
  have hB1 : Below w.heap.size w (w.alloc (.cells #[.int .i64 0, .string ⟨#[]⟩, .slice none 0 0, .slice none 0 0, .slice none 0 0] 49)) := (Below.refl _ _).alloc (Nat.le_refl _) _
  have HG1 := Lib.hid (jget_ok (h.below (Below.refl _ w).drew) k now)
  have HG2 := Lib.hid (jget_ok (h.below hB1.drew) k now)
  have HD1 := Lib.hid (show Blk none0 (w.alloc (.cells #[.int .i64 0, .string ⟨#[]⟩, .slice none 0 0, .slice none 0 0, .slice none 0 0] 49)) [] w.heap.size #[.int .i64 0, .string ⟨#[]⟩, .slice none 0 0, .slice none 0 0, .slice none 0 0] 49 from ⟨heap_alloc_new w _, rfl⟩)
  have HB1 := Lib.hid hB1
  have hz : (w.alloc (.cells #[.int .i64 0, .string ⟨#[]⟩, .slice none 0 0, .slice none 0 0, .slice none 0 0] 49)).heap.size = w.heap.size + 1 := by simp
  have HZ := Lib.hid hz
  have hb := hcb.cell
  have hf := hcb.free
  have hl := hcb.lt
  generalize (S.at now k).getD hd0 = H at *
  generalize (S.at now k).isSome = ok at *
  obtain ⟨⟨kind, text, list, fields, ranked⟩, due, ver⟩ := H
  dsimp only at hsm HG1 HG2
  clear h hB1 hz
  unfold txt at *
  go_enter Tryz.func61, Tryz.ntmps61
  go_wp2_with fail
  go_cut [7, 8] from 9 to 21 (fun s7 s8 wx => ListR w ⟨kind, text, list, fields, ranked⟩ ok s7 s8 wx)
  case first =>
    go_region_with (first
      | (go_at_call 119
         (with_reducible refine HG1.out.mono ?_)
         rintro e w2 ⟨l2, f2, r2, rfl, hv2, hB2⟩
         have HV2 := Lib.hid (show Val3 (fun b => w.heap.size ≤ b) w2 ⟨kind, text, list, fields, ranked⟩ l2 f2 r2 from hv2)
         have HB2 := Lib.hid (show Below w.heap.size w w2 from (Below.refl _ w).drew.trans hB2)
         obtain ⟨b1, d1, rfl, _⟩ := id hv2.list.slice
         obtain ⟨b2, d2, rfl, _⟩ := id hv2.fields.slice
         obtain ⟨b3, d3, rfl, _⟩ := id hv2.ranked.slice
         clear hv2 hB2)
      | (go_at_call 119
         (with_reducible refine HG2.out.mono ?_)
         rintro e w2 ⟨l2, f2, r2, rfl, hv2, hB2⟩
         have HV2 := Lib.hid (show Val3 (fun b => w.heap.size + 1 ≤ b) w2 ⟨kind, text, list, fields, ranked⟩ l2 f2 r2 from hv2.imp (fun b hb => Nat.le_trans (Nat.le_of_eq HZ.out.symm) hb))
         have HB2 := Lib.hid (show Below w.heap.size w w2 from HB1.out.trans ((((Below.refl _ _).drew).trans hB2).mono HB1.out.size))
         have HD2 := Lib.hid (HD1.out.below (((Below.refl _ _).drew).trans hB2))
         have hcd := HD2.out.cell
         have hfd := HD2.out.free
         obtain ⟨b1, d1, rfl, _⟩ := id hv2.list.slice
         obtain ⟨b2, d2, rfl, _⟩ := id hv2.fields.slice
         obtain ⟨b3, d3, rfl, _⟩ := id hv2.ranked.slice
         clear hv2 hB2))
    all_goals (
      first
      | (have D : ListR w ⟨kind, text, list, fields, ranked⟩ ok (.pointer (some ⟨w2.heap.size, 0, none⟩)) (.bool ok) (w2.alloc (.cells #[.int .i64 kind, .string ⟨text.toArray⟩, .slice b1 list.length d1, .slice b2 fields.length d2, .slice b3 ranked.length d3] 49)) :=
           ⟨_, b1, d1, _, _, rfl, rfl, heap_alloc_new _ _, HV2.out.list.below ((Below.refl _ w2).alloc (Nat.le_refl _) _), HB2.out.alloc HB2.out.size _⟩
         have HD := Lib.hid D
         clear D HG1 HG2 HD1 HB1 HZ HV2 HB2
         go_wp2_with fail
         go_meet
         exact HD.out)
      | (have h0 : Blk o w2 (o w.heap.size) w.heap.size #[.int .i64 0, .string ⟨#[]⟩, .slice none 0 0, .slice none 0 0, .slice none 0 0] 49 := ⟨HD2.out.heap, rfl⟩
         have D : ListR w ⟨kind, text, list, fields, ranked⟩ ok (.pointer (some ⟨w.heap.size, 0, none⟩)) (.bool ok) (((((w2.setCell ⟨w.heap.size, 0, none⟩ (.int .i64 kind)).setCell ⟨w.heap.size, 1, none⟩ (.string ⟨text.toArray⟩)).setCell ⟨w.heap.size, 2, none⟩ (.slice b1 list.length d1)).setCell ⟨w.heap.size, 3, none⟩ (.slice b2 fields.length d2)).setCell ⟨w.heap.size, 4, none⟩ (.slice b3 ranked.length d3)) := by
           refine ⟨_, b1, d1, _, _, rfl, rfl, (((((h0.setCell 0 (.int .i64 kind)).setCell 1 (.string ⟨text.toArray⟩)).setCell 2 (.slice b1 list.length d1)).setCell 3 (.slice b2 fields.length d2)).setCell 4 (.slice b3 ranked.length d3)).heap, ?_, ?_⟩
           · refine (HV2.out.list.stay (by simp) (fun b hb _ => ?_)).imp (fun b hb => Nat.le_trans (Nat.le_add_right _ _) hb)
             repeat rw [heap_set_far (by show b ≠ w.heap.size; omega)]
           · iterate 5 refine Below.setCell ?_ (by simp) _
             exact HB2.out
         have HD := Lib.hid D
         clear D HG1 HG2 HD1 HB1 HZ HV2 HB2
         go_wp2_with fail
         go_meet
         exact HD.out))
  case rest =>
    obtain ⟨g, a1, c1, f, r0, rfl, rfl, hx, hV, hB⟩ := hcut
    dsimp only at hx hV
    have hB4 : Below w.heap.size w (World.drew wc) := hB.drew
    have hcx : ∀ j, wc.cell? ⟨g, j, none⟩ = (#[.int .i64 kind, .string ⟨text.toArray⟩, .slice a1 list.length c1, f, r0] : Array Value)[j]? := fun j => by simp [World.cell?, hx]
    have HOF := Lib.hid (dof_ok o r (hV.below (Below.refl _ wc).drew) hsm.list)
    have HB4 := Lib.hid hB4
    obtain ⟨s0, hs0⟩ := fresh_role o (g + 1)
    have HO := Lib.hid hs0
    have HX := Lib.hid (show Blk o (World.drew wc) (o g) g #[.int .i64 kind, .string ⟨text.toArray⟩, .slice a1 list.length c1, f, r0] 49 from ⟨hx, rfl⟩)
    clear hs0 HG1 HG2 HD1 HB1 HZ hx hV hB hB4 hb hf hl hcb hsm
    cases ok
    · go_wp2_with fail
      have hld := hcx 2
      refine wp_region_any (by kernel_rfl) ?_
      change wpAny _ _ _ _ (12 + 1) _ _ (World.drew wc)
      refine wpAny_take (i := 0) (v := .pointer (some ⟨g, 2, none⟩)) rfl (by kernel_rfl) (by kernel_rfl) (by kernel_rfl) (fun _ _ _ h => h) (Or.inl ⟨rfl, fun _ => rfl⟩) ?_
      refine wpAny_take (fuel := 11) (i := 3) (v := .bool false) rfl (by kernel_rfl) (by kernel_rfl) (by kernel_rfl) (fun _ _ _ h => h) (Or.inl ⟨rfl, fun _ => rfl⟩) ?_
      refine wpAny_take (fuel := 10) (i := 4) (v := .bool false) rfl (by kernel_rfl) (by kernel_rfl) (by kernel_rfl) (fun _ _ _ h => h) (Or.inl ⟨rfl, fun _ => rfl⟩) ?_
      refine wpAny_ready (fuel := 9) (rs := [1]) (by kernel_rfl) (by simp) (AllReady.cons rfl (fun K' hK' => ?_) AllReady.nil)
      refine step_load (v := .slice a1 list.length c1) rfl (by unfold execOp; simp [go_sem, hld]) (hK' _ _ ?_)
      refine wpAny_ready (fuel := 8) (rs := [2]) (by kernel_rfl) (by simp) (AllReady.cons rfl (fun K2 hK2 => ?_) AllReady.nil)
      refine step_dof rfl _ rfl rfl HOF.out ?_
      rintro e w5 ⟨d, o5, rfl, hd5, hs5⟩
      have HD := Lib.hid (show ∃ o', DeqI o' w5 r d list.length list ∧ ∀ s, Stp s o w o' w5 from ⟨o5, hd5, fun s => (Stp.ofBelow s o HB4.out).trans (hs5 s)⟩)
      clear hd5 hs5
      refine ⟨_, rfl, hK2 _ _ ?_⟩
      refine wpAny_take (fuel := 7) (i := 5) (v := .bool false) rfl (by kernel_rfl) (by kernel_rfl) (by kernel_rfl) (fun _ _ _ h => h) (Or.inl ⟨rfl, fun _ => by kernel_rfl⟩) ?_
      refine wpAny_take (fuel := 6) (i := 6) (v := undef) rfl (by kernel_rfl) (by kernel_rfl) (by kernel_rfl) (fun _ _ _ h => h) (Or.inr ⟨by kernel_rfl, rfl⟩) ?_
      refine wpAny_take (fuel := 5) (i := 7) (v := undef) rfl (by kernel_rfl) (by kernel_rfl) (by kernel_rfl) (fun _ _ _ h => h) (Or.inr ⟨by kernel_rfl, rfl⟩) ?_
      refine wpAny_take (fuel := 4) (i := 8) (v := undef) rfl (by kernel_rfl) (by kernel_rfl) (by kernel_rfl) (fun _ _ _ h => h) (Or.inr ⟨by kernel_rfl, rfl⟩) ?_
      refine wpAny_take (fuel := 3) (i := 9) (v := .bool false) rfl (by kernel_rfl) (by kernel_rfl) (by kernel_rfl) (fun _ _ _ h => h) (Or.inl ⟨rfl, fun _ => by kernel_rfl⟩) ?_
      refine wpAny_take (fuel := 2) (i := 10) (v := .pointer (some ⟨d, 0, none⟩)) rfl (by kernel_rfl) (by kernel_rfl) (by kernel_rfl) (fun _ _ _ h => h) (Or.inl ⟨rfl, fun _ => by kernel_rfl⟩) ?_
      refine wpAny_take (fuel := 1) (i := 11) (v := .bool false) rfl (by kernel_rfl) (by kernel_rfl) (by kernel_rfl) (fun _ _ _ h => h) (Or.inl ⟨rfl, fun _ => by kernel_rfl⟩) ?_
      refine wpAny_take (fuel := 0) (i := 12) (v := .bool false) rfl (by kernel_rfl) (by kernel_rfl) (by kernel_rfl) (fun _ _ _ h => h) (Or.inl ⟨rfl, fun _ => by kernel_rfl⟩) ?_
      refine wpAny_done (by kernel_rfl) (exit_frame (b := ⟨#[.pointer (some ⟨cb, 0, none⟩), .string ⟨k.toArray⟩, undef, undef, .pointer (some ⟨d, 0, none⟩), .bool false, .bool false, .pointer (some ⟨g, 0, none⟩), .bool false, u9, u10, u11, u12, u13, u14, u15, u16, u17, u18, u19, u20, u21,
        .pointer (some ⟨g, 2, none⟩), .slice a1 list.length c1, .pointer (some ⟨d, 0, none⟩), .bool false, .bool false, .bool false, undef, undef, undef, .bool false], []⟩) (by kernel_rfl) ?_) _
      go_wp2_with fail
      obtain ⟨o6, h6, st6⟩ := HD.out
      go_ret3
      exact ⟨_, o6, rfl, h6, st6⟩
    · go_wp2_with fail
      go_region_with (
        go_at_call 120
        (with_reducible refine HOF.out.mono ?_)
        rintro e w5 ⟨d, o5, rfl, hd5, hs5⟩
        have HD := Lib.hid (show ∃ o', DeqI o' w5 r d list.length list ∧ ∀ s, Stp s o w o' w5 from ⟨o5, hd5, fun s => (Stp.ofBelow s o HB4.out).trans (hs5 s)⟩)
        have hx5 := HX.out.keep (hs5 [s0]) (HO.out g (Nat.lt_succ_self g))
        have hcx5 := hx5.cell
        have hfx5 := hx5.free
        clear hx5 hd5 hs5)
      all_goals (
        obtain ⟨o6, h6, st6⟩ := HD.out
        have H6 := Lib.hid h6
        have ST6 := Lib.hid st6
        clear h6 st6 HD
        go_wp2_with fail
        go_ret3
        exact ⟨_, o6, rfl, H6.out, ST6.out⟩)
end
end Go.Proofs.YtgmmeeikjofefaaGreatDoor
namespace Go.Proofs.YtgmmeeikjofefaaGreatDoor
open Go Go.RowKit
abbrev listV (l : List (List UInt8)) : VV := ⟨2, [], l, [], []⟩
def PutL (o : Roles) (w : World) (q : List Nat) (p : Nat) (S : SP) (c : Cnt) (b : Bool) (e : Ending) (w' : World) : Prop :=
  e = .returned (.bool b) ∧ ∃ o', SpJ o' w' q p S c ∧ Stp q o w o' w'
theorem val3_list {A : Nat → Prop} {w : World} {v : Value} {l : List (List UInt8)} (h : Vw A w v 1 l.length (l.map txt)) : Val3 A w (listV l) v (.slice none 0 0) (.slice none 0 0) := ⟨h, Vw.nil _ _ _, Vw.nil _ _ _⟩
section
variable {o : Roles} {w : World} {q : List Nat} {p : Nat} {c : Cnt} {S : SP}
set_option maxRecDepth 10000 in
set_option maxHeartbeats 4000000 in
theorem lcput_ok (h : SpJ o w q p S c) {cb : Nat} {ρ r : List Nat} {now : Int} {nm : List UInt8} {sv : Value} (hcb : Blk o w ρ cb (callC p now nm sv) 79) (k : List UInt8) {d B : Nat} {l : List (List UInt8)} (hd : DeqI o w r d B l)
    (hl : l ≠ []) (hs : ∀ x ∈ l, x.length ≤ 1048576) (hB : B ≤ 1099511627776) (hc : c.num ≤ 1099511627776) :
    Calls Tryz.prog 66 #[.pointer (some ⟨cb, 0, none⟩), txt k, .pointer (some ⟨d, 0, none⟩)] w (PutL o w q p (S.put k ⟨listV l, ((S.at now k).getD hd0).due, c.num + 1⟩) c.next true) := by
  have hlen : l.length ≤ B := by obtain ⟨_, _, h⟩ := hd; have := h.few; omega
  have e0 : ((l.length : Int) == 0) = false := beq_eq_false_iff_ne.2 (by cases l with | nil => exact absurd rfl hl | cons x t => simp; omega)
  have hdue : ((S.at now k).getD hd0).due = 0 := by
    rw [h.at_eq]
    cases e : S k with
    | none => rfl
    | some H => exact h.due0 e
  have HDU := Lib.hid hdue
  have HLN := Lib.hid (dlen_ok hd)
  have HJ := Lib.hid h
  have HCB := Lib.hid hcb
  have HD := Lib.hid hd
  have HS := Lib.hid hs
  have HL := Lib.hid hl
  have hcc := hcb.cell
  clear h hcb hd hs hl hdue
  unfold txt at *
  go_enter Tryz.func66, Tryz.ntmps66
  go_wp2_with fail
  refine HLN.out.mono ?_; rintro e w1 ⟨rfl, k1, rfl⟩
  have HB1 := Lib.hid (below_drewN (Below.refl w.heap.size w) k1)
  generalize w.drewN k1 = w1 at *
  have hcc1 := (HCB.out.below HB1.out).cell
  clear hcc
  have HDUE := Lib.hid (jdue_ok (HJ.out.below HB1.out.drew) k now)
  unfold txt at HDUE
  go_wp2_with fail
  go_cut [7] from 9 to 41 (fun s7 wx => s7 = .int .i64 ((S.at now k).getD hd0).due ∧ Below w.heap.size w wx)
  case first =>
    go_region_with (first
      | (go_at_call 31
         (with_reducible refine HDUE.out.mono ?_)
         rintro e w2 ⟨rfl, hB2⟩
         have HB2 := Lib.hid (HB1.out.trans (((Below.refl _ w1).drew.trans hB2).mono HB1.out.size))
         clear hB2))
    all_goals (
      clear HDUE HLN HJ HCB HD HS HL HB1 hcc1 HDU
      go_wp2_with fail
      go_meet
      exact ⟨rfl, HB2.out⟩)
  case rest =>
    obtain ⟨rfl, hB2⟩ := hcut
    rw [HDU.out]
    have HW := Lib.hid hB2.drew
    have hcc2 := (HCB.out.below hB2).cell
    have HLI := Lib.hid (dlist_ok (HD.out.below hB2.drew) hB)
    clear hB2 HDUE HLN HB1 hcc1
    go_wp2_with fail
    go_region_with (first
      | (go_at_call 123
         (with_reducible refine HLI.out.mono ?_)
         rintro e w3 ⟨v3, rfl, hF⟩
         have hB3 : Below w.heap.size w w3 := HW.out.trans (hF.below.mono HW.out.size)
         obtain ⟨a3, c3, rfl, _⟩ := id hF.vw.slice
         have hcc3 := (HCB.out.below hB3).cell
         have HP := Lib.hid (jput_ok (HJ.out.below hB3) k (val3_list hF.vw) ⟨by simp, by show l.length ≤ _; omega, by simp, by simp⟩ (fun b hb => by have := HJ.out.role.2; have := HW.out.size; omega) 0 rfl
           (fun W hW => vcheck_list (val3_list (hF.vw.below hW)) rfl rfl rfl rfl HL.out HS.out (by show l.length ≤ _; omega)) hc)
         unfold txt at HP
         have HB3 := Lib.hid hB3
         clear hF hB3)
      | (go_at_call 44
         (with_reducible refine HP.out.mono ?_)
         rintro e w4 ⟨rfl, o4, h4, s4⟩
         have D := Lib.hid (show PutL o w q p (S.put k ⟨listV l, ((S.at now k).getD hd0).due, c.num + 1⟩) c.next true (.returned (.bool true)) w4 from ⟨rfl, o4, by rw [HDU.out]; exact h4, (Stp.ofBelow q o HB3.out).trans s4⟩)
         clear h4 s4))
    all_goals (
      clear HP HLI HW HJ HCB HD HS HL HB3
      go_wp2_with fail
      go_ret
      exact D.out)
set_option maxRecDepth 10000 in
set_option maxHeartbeats 4000000 in
theorem lcput_nil (h : SpJ o w q p S c) {cb : Nat} {ρ r : List Nat} {now : Int} {nm : List UInt8} {sv : Value} (hcb : Blk o w ρ cb (callC p now nm sv) 79) (k : List UInt8) {d B : Nat} (hd : DeqI o w r d B [])
    {H : Hd} (hS : S k = some H) (hc : c.num ≤ 1099511627776) :
    Calls Tryz.prog 66 #[.pointer (some ⟨cb, 0, none⟩), txt k, .pointer (some ⟨d, 0, none⟩)] w (PutL o w q p (S.del k) c.next true) := by
  have HLN := Lib.hid (dlen_ok hd)
  have HDR := Lib.hid (fun k1 => jdrop_ok (h.below (below_drewN (Below.refl w.heap.size w) k1)) k hS hc)
  have HCB := Lib.hid hcb
  have hcc := hcb.cell
  clear h hcb hd hS
  unfold txt at *
  go_enter Tryz.func66, Tryz.ntmps66
  go_wp2_with fail
  refine HLN.out.mono ?_; rintro e w1 ⟨rfl, k1, rfl⟩
  go_wp2_with fail
  refine (HDR.out k1).mono ?_; rintro e w2 ⟨rfl, o2, h2, s2⟩
  have D := Lib.hid (show PutL o w q p (S.del k) c.next true (.returned (.bool true)) w2 from ⟨rfl, o2, h2, (Stp.ofBelow q o (below_drewN (Below.refl _ w) k1)).trans s2⟩)
  clear h2 s2 HDR HLN HCB hcc
  go_wp2_with fail
  go_ret
  exact D.out
/-- What a space holds behind a list is put. -/
def SP.setL (S : SP) (now : Int) (k : List UInt8) (l : List (List UInt8)) (n : Nat) : SP := if l = [] then S.del k else S.put k ⟨listV l, ((S.at now k).getD hd0).due, n⟩
theorem lcput_any (h : SpJ o w q p S c) {cb : Nat} {ρ r : List Nat} {now : Int} {nm : List UInt8} {sv : Value} (hcb : Blk o w ρ cb (callC p now nm sv) 79) (k : List UInt8) {d B : Nat} {l : List (List UInt8)} (hd : DeqI o w r d B l)
    (hl : l = [] → (S k).isSome = true) (hs : ∀ x ∈ l, x.length ≤ 1048576) (hB : B ≤ 1099511627776) (hc : c.num ≤ 1099511627776) :
    Calls Tryz.prog 66 #[.pointer (some ⟨cb, 0, none⟩), txt k, .pointer (some ⟨d, 0, none⟩)] w (PutL o w q p (S.setL now k l (c.num + 1)) c.next true) := by
  unfold SP.setL
  by_cases h0 : l = []
  · subst h0
    obtain ⟨H, hH⟩ := Option.isSome_iff_exists.1 (hl rfl)
    rw [if_pos rfl]
    exact lcput_nil h hcb k hd hH hc
  · rw [if_neg h0]
    exact lcput_ok h hcb k hd h0 hs hB hc
end
end Go.Proofs.YtgmmeeikjofefaaGreatDoor
namespace Go.Proofs.YtgmmeeikjofefaaGreatDoor
open Go Go.RowKit
/-! The roles of a call's own blocks. -/
theorem SpJ.from {o : Roles} {w : World} {q : List Nat} {p : Nat} {S : SP} {c : Cnt} {r : List Nat} (h : SpJ o w q p S c) : SpJ (o.from w.heap.size r) w q p S c := by
  obtain ⟨m, d, m2, a, kvs, h⟩ := h
  exact ⟨m, d, m2, a, kvs, h.from⟩
theorem fresh_roles (o : Roles) : ∀ n : Nat, ∃ m, ∀ j b, b < n → ¬ [m + j] <+: o b := by
  have h : ∀ n : Nat, ∃ m, ∀ b, b < n → ∀ k t, o b = k :: t → k < m := by
    intro n
    induction n with
    | zero => exact ⟨0, fun b hb => absurd hb (Nat.not_lt_zero _)⟩
    | succ n ih =>
      obtain ⟨m, hm⟩ := ih
      refine ⟨m + (o n).headD 0 + 1, fun b hb k t e => ?_⟩
      rcases Nat.lt_succ_iff_lt_or_eq.1 hb with h | rfl
      · have := hm b h k t e; omega
      · rw [e]; simp; omega
  intro n
  obtain ⟨m, hm⟩ := h n
  refine ⟨m, fun j b hb hp => ?_⟩
  cases e : o b with
  | nil => rw [e] at hp; simp at hp
  | cons k t =>
    rw [e, List.cons_prefix_cons] at hp
    have := hm b hb k t e
    omega
/-- Roles under which a call begins: what is new bears [m + 2]; nothing bears [m], [m + 1]. -/
structure Begin (o : Roles) (w : World) (q : List Nat) (o1 : Roles) (m : Nat) : Prop where
  old : ∀ b, b < w.heap.size → o1 b = o b
  new : ∀ b, w.heap.size ≤ b → o1 b = [m + 2]
  st : ∀ s, Stp s o w o1 w
  no : ∀ j b, j < 2 → ¬ [m + j] <+: o1 b
  no2 : ∀ j b, b < w.heap.size → ¬ [m + j] <+: o1 b
  ap : ∀ j, Apart [m + j] q
  aq : ∀ j, Apart q [m + j]
theorem begin_roles {o : Roles} {w : World} {q : List Nat} {p : Nat} {S : SP} {c : Cnt} (h : SpJ o w q p S c) (hq : q ≠ []) : ∃ o1 m, Begin o w q o1 m ∧ SpJ o1 w q p S c := by
  obtain ⟨m, hm⟩ := fresh_roles o w.heap.size
  refine ⟨o.from w.heap.size [m + 2], m, ⟨fun b hb => Roles.from_old hb, fun b hb => Roles.from_new hb, fun s => Stp.from0 s o w _, fun j b hj => ?_, fun j b hb => by rw [Roles.from_old hb]; exact hm j b hb, fun j => apart_fresh (hm j) h.role.2 h.role.1 hq, fun j => apart_fresh' (hm j) h.role.2 h.role.1 hq⟩, h.from⟩
  rcases Nat.lt_or_ge b w.heap.size with hb | hb
  · rw [Roles.from_old hb]; exact hm j b hb
  · rw [Roles.from_new hb]; simp; omega
theorem Begin.blk {o o1 : Roles} {w : World} {q r : List Nat} {m b : Nat} {cs : Array Value} {T : TypeId} (h : Begin o w q o1 m) (hb : Blk o w r b cs T) : Blk o1 w r b cs T := ⟨hb.heap, by rw [h.old b hb.lt]; exact hb.role⟩
/-- What was there keeps through steps at blocks that no role of those says. -/
theorem Begin.keepVw {o o1 o2 : Roles} {w w1 w2 : World} {q : List Nat} {m j sz n : Nat} {v : Value} {xs : List Value} (h : Begin o w q o1 m) (hv : Vw (fun b => b < w.heap.size) w1 v sz n xs) {o1' : Roles} (he : ∀ b, b < w.heap.size → o1' b = o1 b) (st : Stp [m + j] o1' w1 o2 w2) : Vw (fun b => b < w.heap.size) w2 v sz n xs :=
  hv.stay st.size (fun b hb hb2 => st.block b hb2 (by rw [he b hb]; exact h.no2 j b hb))
abbrev zRepC : Array Value := #[.int .i64 0, .string ⟨#[]⟩, .int .i64 0, .slice none 0 0]
/-- The block of a result, in a world behind its making. -/
theorem Begin.res {o o1 : Roles} {w : World} {q : List Nat} {m : Nat} (h : Begin o w q o1 m) : Blk o1 (w.alloc (.cells zRepC 29)) [m + 2] w.heap.size zRepC 29 ∧ Below w.heap.size w (w.alloc (.cells zRepC 29)) :=
  ⟨⟨heap_alloc_new w _, h.new _ (Nat.le_refl _)⟩, (Below.refl _ _).alloc (Nat.le_refl _) _⟩
/-- A reply is laid into the result's block. -/
theorem Begin.stored {o o1 o4 : Roles} {w w6 : World} {q : List Nat} {p m R : Nat} {S : SP} {c : Cnt} (h : Begin o w q o1 m) (hj : SpJ o4 w6 q p S c) (hr : Blk o4 w6 [m + 2] R zRepC 29) (hs : Stp q o w o4 w6) (v0 v1 v2 v3 : Value) :
    SpJ o4 ((((w6.setCell ⟨R, 0, none⟩ v0).setCell ⟨R, 1, none⟩ v1).setCell ⟨R, 2, none⟩ v2).setCell ⟨R, 3, none⟩ v3) q p S c ∧ Stp q o w o4 ((((w6.setCell ⟨R, 0, none⟩ v0).setCell ⟨R, 1, none⟩ v1).setCell ⟨R, 2, none⟩ v2).setCell ⟨R, 3, none⟩ v3) := by
  have hst : Stp [m + 2] o4 w6 o4 ((((w6.setCell ⟨R, 0, none⟩ v0).setCell ⟨R, 1, none⟩ v1).setCell ⟨R, 2, none⟩ v2).setCell ⟨R, 3, none⟩ v3) := by
    iterate 4 refine Stp.setCell ?_ (by show [m + 2] <+: o4 R; rw [hr.role]; exact List.prefix_refl _) _
    exact Stp.refl _ _ _
  exact ⟨hj.keep hst (h.ap 2), hs.hide hst (fun b hb => by have := h.no2 2 b hb; rw [h.old b hb] at this; exact this)⟩
/-- What a call of a command keeps: the space, the call's own block, the result's. -/
structure Fr (o : Roles) (w : World) (q : List Nat) (p m : Nat) (ρ : List Nat) (cb : Nat) (cs : Array Value) (S : SP) (c : Cnt) (ox : Roles) (wx : World) : Prop where
  sp : SpJ ox wx q p S c
  call : Blk ox wx ρ cb cs 79
  res : Blk ox wx [m + 2] w.heap.size zRepC 29
  st : Stp q o w ox wx
  far : ∀ j, ¬ [m + j] <+: ρ
section
variable {o ox oy : Roles} {w wx wy : World} {q : List Nat} {p m : Nat} {ρ : List Nat} {cb : Nat} {cs : Array Value} {S S' : SP} {c c' : Cnt} {o1 : Roles}
theorem Fr.begin (h : Begin o w q o1 m) (hj : SpJ o1 w q p S c) (hcb : Blk o w ρ cb cs 79) : Fr o w q p m ρ cb cs S c o1 (w.alloc (.cells zRepC 29)) :=
  ⟨hj.below h.res.2, (h.blk hcb).below h.res.2, h.res.1, (h.st q).trans (Stp.ofBelow q o1 h.res.2), fun j => by rw [← hcb.role, ← h.old cb hcb.lt]; exact h.no2 j cb hcb.lt⟩
theorem Fr.below (h : Fr o w q p m ρ cb cs S c ox wx) (hB : Below wx.heap.size wx wy) : Fr o w q p m ρ cb cs S c ox wy :=
  ⟨h.sp.below hB, h.call.below hB, h.res.below hB, h.st.trans (Stp.ofBelow q ox hB), h.far⟩
theorem Fr.step {j : Nat} (hb : Begin o w q o1 m) (hj : j < 2) (h : Fr o w q p m ρ cb cs S c ox wx) (st : Stp [m + j] ox wx oy wy) : Fr o w q p m ρ cb cs S c oy wy :=
  ⟨h.sp.keep st (hb.ap j), h.call.keep st (h.far j), h.res.keep st (by simp; omega), h.st.hide st (fun b hb2 => by rw [← hb.old b hb2]; exact hb.no2 j b hb2), h.far⟩
theorem Fr.put (hb : Begin o w q o1 m) (hρ : ¬ q <+: ρ) (h : Fr o w q p m ρ cb cs S c ox wx) (hj : SpJ oy wy q p S' c') (hs : Stp q ox wx oy wy) : Fr o w q p m ρ cb cs S' c' oy wy :=
  ⟨hj, h.call.keep hs hρ, h.res.keep hs (hb.aq 2).not, h.st.trans hs, h.far⟩
/-- The end: a reply is laid into the result's block. -/
theorem Fr.fin (hb : Begin o w q o1 m) (h : Fr o w q p m ρ cb cs S c ox wx) (v0 v1 v2 v3 : Value) :
    SpJ ox ((((wx.setCell ⟨w.heap.size, 0, none⟩ v0).setCell ⟨w.heap.size, 1, none⟩ v1).setCell ⟨w.heap.size, 2, none⟩ v2).setCell ⟨w.heap.size, 3, none⟩ v3) q p S c ∧ Stp q o w ox ((((wx.setCell ⟨w.heap.size, 0, none⟩ v0).setCell ⟨w.heap.size, 1, none⟩ v1).setCell ⟨w.heap.size, 2, none⟩ v2).setCell ⟨w.heap.size, 3, none⟩ v3) :=
  hb.stored h.sp h.res h.st v0 v1 v2 v3
end
def RepJ (o : Roles) (w : World) (q : List Nat) (p : Nat) (S : SP) (c : Cnt) (r : Rf) (e : Ending) (w' : World) : Prop :=
  e = .returned (repV r.kind r.text r.n (.slice none 0 0)) ∧ ∃ o', SpJ o' w' q p S c ∧ Stp q o w o' w'
def errF (s : List UInt8) : Rf := ⟨2, s, 0⟩
end Go.Proofs.YtgmmeeikjofefaaGreatDoor
namespace Go.Proofs.YtgmmeeikjofefaaGreatDoor
open Go Go.RowKit
/-! push. -/
/-- A view of blocks that were there. -/
abbrev Old (w : World) : Nat → Prop := fun b => b < w.heap.size
theorem vw_tail3 {A : Nat → Prop} {w : World} {b off n cap : Nat} {k : List UInt8} {t : List (List UInt8)} (h : Vw A w (.slice (some ⟨b, off, none⟩) (n + 1) cap) 1 (n + 1) ((k :: t).map txt)) : Vw A w (.slice (some ⟨b, off + 1, none⟩) n n) 1 n (t.map txt) := by
  obtain ⟨⟨a, c, e, g1, g2, g3⟩, g4⟩ := h
  injection e with e1 e2 e3
  subst e1 e3
  have hn : t.length = n := by simpa using g4
  refine ⟨⟨_, _, rfl, Nat.le_refl _, by omega, ?_⟩, by simp [hn]⟩
  rcases g3 with g3 | ⟨b', off', e, g5, g6, g7⟩
  · omega
  · injection e with e
    injection e with e4 e5 _
    subst e4 e5
    refine .inr ⟨b, off + 1, rfl, g5, g6, fun j u hj => ?_⟩
    have := g7 (j + 1) u (by simpa using hj)
    rw [show off + 1 + j = off + (j + 1) by omega]; exact this
theorem vw_head1 {A : Nat → Prop} {w : World} {v : Value} {n : Nat} {k : List UInt8} {t : List (List UInt8)} (h : Vw A w v 1 (n + 1) ((k :: t).map txt)) : ∃ b off cap, v = .slice (some ⟨b, off, none⟩) (n + 1) cap ∧ n + 1 ≤ cap ∧ A b ∧ w.cell? ⟨b, off, none⟩ = some (.string ⟨k.toArray⟩) := by
  obtain ⟨⟨a, cap, rfl, g1, g2, g3⟩, g4⟩ := h
  rcases g3 with g3 | ⟨b, off, rfl, g5, g6, g7⟩
  · omega
  · exact ⟨b, off, cap, rfl, g1, g6, by simpa [txt] using g7 0 (txt k) rfl⟩
def pushL (left : Bool) (old more : List (List UInt8)) : List (List UInt8) := if left then more.reverse ++ old else old ++ more
def PushR (o : Roles) (w : World) (q : List Nat) (p : Nat) (S : SP) (c : Cnt) (m : Nat) (ρ : List Nat) (cb : Nat) (cs : Array Value) (d B : Nat) (l : List (List UInt8)) (wx : World) : Prop :=
  ∃ o3, DeqI o3 wx [m] d B l ∧ SpJ o3 wx q p S c ∧ Blk o3 wx ρ cb cs 79 ∧ Blk o3 wx [m + 2] w.heap.size zRepC 29 ∧ Stp q o w o3 wx
section
variable {o : Roles} {w : World} {q : List Nat} {p : Nat} {c : Cnt} {S : SP}
set_option maxRecDepth 10000 in
set_option maxHeartbeats 4000000 in
theorem lcpush_ok (h : SpJ o w q p S c) (hq : q ≠ []) {cb : Nat} {ρ : List Nat} {now : Int} {c0 : UInt8} {nr : List UInt8} {sv : Value} (hcb : Blk o w ρ cb (callC p now (c0 :: nr) sv) 79)
    {k : List UInt8} {more : List (List UInt8)} (hv : Vw (Old w) w sv 1 (more.length + 1) ((k :: more).map txt)) (hm : more ≠ [])
    {V : VV} (hV : V = ((S.at now k).getD hd0).v) {ok : Bool} (hok : ok = (S.at now k).isSome) (hwr : (ok && V.kind != 2) = false)
    (hx : ok = true ∨ ((c0 :: nr) == [108, 112, 117, 115, 104, 120]) = false ∧ ((c0 :: nr) == [114, 112, 117, 115, 104, 120]) = false) {left : Bool} (hl : ((c0.toNat : Int) == 108) = left)
    (hs : ∀ x ∈ pushL left V.list more, x.length ≤ 1048576) (hB : more.length + 2 * V.list.length ≤ 1099511627776) (hc : c.num ≤ 1099511627776) :
    Calls Tryz.prog 36 #[.pointer (some ⟨cb, 0, none⟩)] w (RepJ o w q p (S.put k ⟨listV (pushL left V.list more), ((S.at now k).getD hd0).due, c.num + 1⟩) c.next (numF (pushL left V.list more).length)) := by
  obtain ⟨o1, m, hbg, hj⟩ := begin_roles h hq
  have hcb1 := hbg.blk hcb
  have hcc := hcb.cell
  obtain ⟨b, off, cap, rfl, hcap, hbl, hk⟩ := vw_head1 hv
  have hcl := hcb.lt
  have hbl : b < w.heap.size := hbl
  have hm1 : 0 < more.length := List.length_pos_iff.2 hm
  have hvm := vw_tail3 hv
  obtain ⟨hR1, hB1⟩ := hbg.res
  have hli : ∀ (W : World), Below w.heap.size w W → Calls Tryz.prog 61 #[.pointer (some ⟨cb, 0, none⟩), txt k] W (ListDid o1 W [m] V ok) := fun W hW => by
    rw [hV, hok]; exact clist_ok (hj.below hW) (hcb1.below hW) k [m]
  have HLI := Lib.hid hli
  have HB1 := Lib.hid hB1
  have HR1 := Lib.hid hR1
  have HBG := Lib.hid hbg
  have HJ := Lib.hid hj
  have HCB := Lib.hid hcb1
  have HVM := Lib.hid hvm
  have HS := Lib.hid hs
  have HMN := Lib.hid hm
  have HWR := Lib.hid hwr
  have HX := Lib.hid hx
  have HL := Lib.hid hl
  have HPL := Lib.hid (show (pushL left V.list more).length = more.length + V.list.length by unfold pushL; cases left <;> simp <;> omega)
  clear h hcb hvm hbg hj hcb1 hs hm hv hV hok hwr hx hli hB1 hR1 hl
  unfold txt at HLI
  go_enter Tryz.func36, Tryz.ntmps36
  go_wp2_with fail
  go_quiet (fail)
  go_wp2_with fail
  have hBW := below_drewN HB1.out nq
  refine (HLI.out _ hBW).mono ?_; rintro e w2 ⟨d, o2, rfl, hd, hs2⟩
  rw [HWR.out]
  have hcb2 := (HCB.out.below hBW).keep (hs2 [m]) (by rw [← HCB.out.role]; exact HBG.out.no 0 cb (by decide))
  have hcc2 := hcb2.cell
  have HV2 := Lib.hid (HBG.out.keepVw (j := 0) (HVM.out.below hBW) (fun _ _ => rfl) (hs2 [m]))
  have HA2 := Lib.hid (show ∀ b, b < w.heap.size → ¬ [m] <+: o2 b from fun b hb => by rw [(hs2 [m]).old b (Nat.lt_of_lt_of_le hb hBW.size)]; exact HBG.out.no 0 b (by decide))
  have H2 := Lib.hid (show PushR o w q p S c m ρ cb _ d V.list.length V.list w2 from ⟨o2, hd, (HJ.out.below hBW).keep (hs2 [m]) (HBG.out.ap 0), hcb2, (HR1.out.drewN nq).keep (hs2 [m]) (by simp), (HBG.out.st q).trans ((Stp.ofBelow q o1 hBW).trans (hs2 q))⟩)
  clear hd hcb2 hs2 hBW HLI HJ HCB HR1 HB1 HVM hcc hk
  go_upto_region 5 with fail
  go_cut [53] (fun s53 wx => s53 = .bool false ∧ wx = w2)
  case first =>
    have hl0 := HL.out
    clear HV2 H2 HS HMN HPL
    cases ok with
    | true =>
      clear hl0
      go_wp2_with fail
      go_meet
      exact ⟨rfl, rfl⟩
    | false =>
      rcases HX.out with h5 | ⟨h5, h6⟩
      · cases h5
      · clear hl0
        go_wp2_with fail
        go_meet
        exact ⟨rfl, rfl⟩
  case rest =>
    obtain ⟨rfl, rfl⟩ := hcut
    have hix : ((⟨(c0 :: nr).toArray⟩ : ByteArray)[0]'(by simp [ByteArray.size])) = c0 := rfl
    go_upto_if 60 with fail
    go_cut [60] (fun s60 wx => PushR o w q p S c m ρ cb (callC p now (c0 :: nr) (.slice (some ⟨b, off, none⟩) (more.length + 1) cap)) d (more.length + 2 * V.list.length) (pushL left V.list more) wx)
    case first =>
      obtain ⟨o2, hd2, hj2, hcb2, hr2, hs2⟩ := H2.out
      have HPF := Lib.hid (dpushFront_ok hd2 HV2.out (fun b hb => by rw [hs2.old b hb, ← HBG.out.old b hb]; exact HBG.out.no 0 b (by decide)) hB)
      have HPB := Lib.hid (dpushBack_ok hd2 HV2.out (by omega))
      have HK := Lib.hid (show ∀ o3 w3, DeqI o3 w3 [m] d (more.length + 2 * V.list.length) (pushL left V.list more) → Stp [m] o2 wc o3 w3 → PushR o w q p S c m ρ cb (callC p now (c0 :: nr) (.slice (some ⟨b, off, none⟩) (more.length + 1) cap)) d (more.length + 2 * V.list.length) (pushL left V.list more) w3 from
        fun o3 w3 hd3 hs3 => ⟨o3, hd3, hj2.keep hs3 (HBG.out.ap 0), hcb2.keep hs3 (by rw [← hcb2.role, hs2.old cb hcl, ← HBG.out.old cb hcl]; exact HBG.out.no 0 cb (by decide)), hr2.keep hs3 (by simp), hs2.hide hs3 (fun b hb => by rw [← HBG.out.old b hb]; exact HBG.out.no 0 b (by decide))⟩)
      have hl0 := HL.out
      clear hd2 hj2 hcb2 hr2 hs2 H2 HV2 HA2 HS HMN HPL HX HL hcc2
      cases left with
      | true =>
        go_wp2_with fail
        refine HPF.out.mono ?_; rintro e w3 ⟨rfl, o3, hd3, hs3⟩
        have D := Lib.hid (HK.out o3 w3 hd3 hs3)
        clear hd3 hs3 HPF HPB HK
        go_wp2_with fail
        go_meet
        exact D.out
      | false =>
        go_wp2_with fail
        refine HPB.out.mono ?_; rintro e w3 ⟨rfl, o3, hd3, hs3⟩
        have D := Lib.hid (HK.out o3 w3 (hd3.mono (by omega)) hs3)
        clear hd3 hs3 HPF HPB HK
        go_wp2_with fail
        go_meet
        exact D.out
    case rest =>
      obtain ⟨o3, hd3, hj3, hcb3, hr3, hs3⟩ := hcut
      have hne : pushL left V.list more ≠ [] := fun e => by
        have := HPL.out
        rw [e] at this
        simp at this
        omega
      have HP := Lib.hid (lcput_ok hj3 hcb3 k hd3 hne HS.out hB hc)
      have HD3 := Lib.hid hd3
      have HR3 := Lib.hid hr3
      have HS3 := Lib.hid hs3
      clear hd3 hj3 hcb3 hr3 hs3 hne hcc2 HV2 H2 HA2 HS HMN HPL HX HL hix
      unfold txt at HP
      go_wp2_with fail
      refine HP.out.mono ?_; rintro e w4 ⟨rfl, o4, hj4, hs4⟩
      have HLN := Lib.hid (dlen_ok (HD3.out.keep hs4 (HBG.out.aq 0)))
      have HR4 := Lib.hid (HR3.out.keep hs4 (HBG.out.aq 2).not)
      have HJ4 := Lib.hid hj4
      have HS4 := Lib.hid (HS3.out.trans hs4)
      clear hj4 hs4 HD3 HR3 HS3 HP
      go_wp2_with fail
      refine HLN.out.mono ?_; rintro e w5 ⟨rfl, k5, rfl⟩
      go_wp2_with fail
      refine (lnumber_ok _ _).mono ?_; rintro e w6 ⟨rfl, hB6⟩
      have hB6' : Below w4.heap.size w4 w6 := (below_drewN (Below.refl _ _) k5).trans hB6
      have HJ6 := Lib.hid (HJ4.out.below hB6')
      have HR6 := Lib.hid (HR4.out.below hB6')
      have HS6 := Lib.hid (HS4.out.trans (Stp.ofBelow q o4 hB6'))
      have hrc := HR6.out.cell
      have hrf := HR6.out.free
      clear hB6 hB6' HJ4 HR4 HS4 HLN
      go_wp2_with fail
      obtain ⟨hj7, hs7⟩ := HBG.out.stored HJ6.out HR6.out HS6.out (.int .i64 3) (.string ⟨#[]⟩) (.int .i64 (pushL left V.list more).length) (.slice none 0 0)
      exact bodyPost_ret (v := repV 3 [] (pushL left V.list more).length (.slice none 0 0)) (by simp [results, Tryz.results36, go_sem, hrc]) rfl ⟨rfl, o4, hj7, hs7⟩
end
end Go.Proofs.YtgmmeeikjofefaaGreatDoor
