import Derived.Test.YtgmmeeikjofefaaGreatDoorSj
import Derived.Test.YtgmmeeikjofefaaGreatDoorRp
import Derived.Deep.CutRange
import Derived.Deep.RegionHeld3
namespace Go.Proofs.YtgmmeeikjofefaaGreatDoor
open Go Go.RowKit
abbrev callC (p : Nat) (now : Int) (nm : List UInt8) (sv : Value) : Array Value := #[.pointer (some ⟨p, 0, none⟩), .int .i64 now, .string ⟨nm.toArray⟩, sv]
def ListDid (o : Roles) (w : World) (r : List Nat) (V : VV) (ok : Bool) (e : Ending) (w' : World) : Prop :=
  ∃ d o', e = .returned (.tuple #[.pointer (some ⟨d, 0, none⟩), .bool ok, .bool (ok && V.kind != 2)]) ∧ DeqI o' w' r d V.list.length V.list ∧ ∀ s, Stp s o w o' w'
theorem step_dof {ops : Array Oper} {op : Oper} {a : Act} {K : Act → World → Prop} {Q : Exit → Act → World → Prop} {E : Prop} {w : World} {u : Value} {Post : Ending → World → Prop} (hgd : op.guard = none) (x : Operand)
    (ho : op.op = .call { callee := .value (.func 120), args := #[x], argTypes := #[22] }) (hx : a.eval x = u) (hc : Calls Tryz.prog 120 #[u] w Post) (h : ∀ e w', Post e w' → ∃ v, e = .returned v ∧ K (a.put op.dst v) w') :
    if Region.wanted op (yielded ops a.tmps) = true then Oper.wp Tryz.prog op a w K Q else E := by
  have hw : Region.wanted op (yielded ops a.tmps) = true := by simp [Region.wanted, hgd]
  have hen : (callFunc 120 #[u]).run Tryz.prog w = .ok (.enter 120 #[u]) w := enters_of Tryz.func120 (by kernel_rfl) rfl #[u] w
  rw [if_pos hw]
  have hr : (execOp a.eval op).run Tryz.prog w = .ok (.enter 120 #[u]) w := by
    unfold execOp
    simp only [ho, resolve]
    have e1 : a.eval (.func 120) = .func (.func 120) #[] #[] := rfl
    have e2 : Array.map a.eval #[x] = #[u] := by simp [hx]
    rw [e1, e2]
    exact hen
  unfold Oper.wp
  rw [hr, Oper.upon_enter]
  refine hc.mono fun e w' hp => ?_
  obtain ⟨v, rfl, hk⟩ := h e w' hp
  exact hk
theorem step_load {ops : Array Oper} {op : Oper} {a : Act} {K : Act → World → Prop} {Q : Exit → Act → World → Prop} {E : Prop} {w : World} {v : Value} (hgd : op.guard = none)
    (hr : (execOp a.eval op).run Tryz.prog w = .ok (.value v) w) (h : K (a.put op.dst v) w) :
    if Region.wanted op (yielded ops a.tmps) = true then Oper.wp Tryz.prog op a w K Q else E := by
  have hw : Region.wanted op (yielded ops a.tmps) = true := by simp [Region.wanted, hgd]
  rw [if_pos hw]
  simp only [Oper.wp, hr, Oper.upon]
  exact h
theorem exit_frame {K : Act → World → Prop} {Q : Exit → Act → World → Prop} {a b : Act} {w : World} (h : a = b) (hk : Exit.then K Q Exit.normal b w) : Exit.then K Q Exit.normal a w := h ▸ hk
def ListR (w : World) (V : VV) (ok : Bool) (s7 s8 : Value) (wx : World) : Prop :=
  ∃ g a1 c1 f r, s7 = .pointer (some ⟨g, 0, none⟩) ∧ s8 = .bool ok ∧ wx.heap[g]? = some (.cells #[.int .i64 V.kind, .string ⟨V.text.toArray⟩, .slice a1 V.list.length c1, f, r] 49 (0, 0)) ∧ Vw (fun b => w.heap.size ≤ b) wx (.slice a1 V.list.length c1) 1 V.list.length (V.list.map txt) ∧ Below w.heap.size w wx
section
variable {o : Roles} {w : World} {q : List Nat} {p : Nat} {c : Cnt} {S : SP}
set_option maxRecDepth 10000 in
set_option maxHeartbeats 20000000 in
theorem clist_ok (h : SpJ o w q p S c) {cb : Nat} {ρ : List Nat} {now : Int} {nm : List UInt8} {sv : Value} (hcb : Blk o w ρ cb (callC p now nm sv) 79) (k : List UInt8) (r : List Nat) :
    Calls Tryz.prog 61 #[.pointer (some ⟨cb, 0, none⟩), txt k] w (ListDid o w r ((S.at now k).getD hd0).v (S.at now k).isSome) := by
  have hsm := h.small' now k
  have hB1 : Below w.heap.size w (w.alloc (.cells #[.int .i64 0, .string ⟨#[]⟩, .slice none 0 0, .slice none 0 0, .slice none 0 0] 49)) := (Below.refl _ _).alloc (Nat.le_refl _) _
  have HG1 := Lib.hid (jget_ok (h.below (Below.refl _ w).drew) k now)
  have HG2 := Lib.hid (jget_ok (h.below hB1.drew) k now)
  have HD1 := Lib.hid (show Blk none0 (w.alloc (.cells #[.int .i64 0, .string ⟨#[]⟩, .slice none 0 0, .slice none 0 0, .slice none 0 0] 49)) [] w.heap.size #[.int .i64 0, .string ⟨#[]⟩, .slice none 0 0, .slice none 0 0, .slice none 0 0] 49 from ⟨heap_alloc_new w _, rfl⟩)
  have HB1 := Lib.hid hB1
  have hz : (w.alloc (.cells #[.int .i64 0, .string ⟨#[]⟩, .slice none 0 0, .slice none 0 0, .slice none 0 0] 49)).heap.size = w.heap.size + 1 := by simp
  have HZ := Lib.hid hz
  have hb := hcb.cell
  have hf := hcb.free
  have hl := hcb.lt
  generalize (S.at now k).getD hd0 = H at *
  generalize (S.at now k).isSome = ok at *
  obtain ⟨⟨kind, text, list, fields, ranked⟩, due, ver⟩ := H
  dsimp only at hsm HG1 HG2
  clear h hB1 hz
  unfold txt at *
  go_enter Tryz.func61, Tryz.ntmps61
  go_wp2_with fail
  go_cut [7, 8] from 9 to 21 (fun s7 s8 wx => ListR w ⟨kind, text, list, fields, ranked⟩ ok s7 s8 wx)
  case first =>
    go_region_with (first
      | (go_at_call 119
         (with_reducible refine HG1.out.mono ?_)
         rintro e w2 ⟨l2, f2, r2, rfl, hv2, hB2⟩
         have HV2 := Lib.hid (show Val3 (fun b => w.heap.size ≤ b) w2 ⟨kind, text, list, fields, ranked⟩ l2 f2 r2 from hv2)
         have HB2 := Lib.hid (show Below w.heap.size w w2 from (Below.refl _ w).drew.trans hB2)
         obtain ⟨b1, d1, rfl, _⟩ := id hv2.list.slice
         obtain ⟨b2, d2, rfl, _⟩ := id hv2.fields.slice
         obtain ⟨b3, d3, rfl, _⟩ := id hv2.ranked.slice
         clear hv2 hB2)
      | (go_at_call 119
         (with_reducible refine HG2.out.mono ?_)
         rintro e w2 ⟨l2, f2, r2, rfl, hv2, hB2⟩
         have HV2 := Lib.hid (show Val3 (fun b => w.heap.size + 1 ≤ b) w2 ⟨kind, text, list, fields, ranked⟩ l2 f2 r2 from hv2.imp (fun b hb => Nat.le_trans (Nat.le_of_eq HZ.out.symm) hb))
         have HB2 := Lib.hid (show Below w.heap.size w w2 from HB1.out.trans ((((Below.refl _ _).drew).trans hB2).mono HB1.out.size))
         have HD2 := Lib.hid (HD1.out.below (((Below.refl _ _).drew).trans hB2))
         have hcd := HD2.out.cell
         have hfd := HD2.out.free
         obtain ⟨b1, d1, rfl, _⟩ := id hv2.list.slice
         obtain ⟨b2, d2, rfl, _⟩ := id hv2.fields.slice
         obtain ⟨b3, d3, rfl, _⟩ := id hv2.ranked.slice
         clear hv2 hB2))
    all_goals (
      first
      | (have D : ListR w ⟨kind, text, list, fields, ranked⟩ ok (.pointer (some ⟨w2.heap.size, 0, none⟩)) (.bool ok) (w2.alloc (.cells #[.int .i64 kind, .string ⟨text.toArray⟩, .slice b1 list.length d1, .slice b2 fields.length d2, .slice b3 ranked.length d3] 49)) :=
           ⟨_, b1, d1, _, _, rfl, rfl, heap_alloc_new _ _, HV2.out.list.below ((Below.refl _ w2).alloc (Nat.le_refl _) _), HB2.out.alloc HB2.out.size _⟩
         have HD := Lib.hid D
         clear D HG1 HG2 HD1 HB1 HZ HV2 HB2
         go_wp2_with fail
         go_meet
         exact HD.out)
      | (have h0 : Blk o w2 (o w.heap.size) w.heap.size #[.int .i64 0, .string ⟨#[]⟩, .slice none 0 0, .slice none 0 0, .slice none 0 0] 49 := ⟨HD2.out.heap, rfl⟩
         have D : ListR w ⟨kind, text, list, fields, ranked⟩ ok (.pointer (some ⟨w.heap.size, 0, none⟩)) (.bool ok) (((((w2.setCell ⟨w.heap.size, 0, none⟩ (.int .i64 kind)).setCell ⟨w.heap.size, 1, none⟩ (.string ⟨text.toArray⟩)).setCell ⟨w.heap.size, 2, none⟩ (.slice b1 list.length d1)).setCell ⟨w.heap.size, 3, none⟩ (.slice b2 fields.length d2)).setCell ⟨w.heap.size, 4, none⟩ (.slice b3 ranked.length d3)) := by
           refine ⟨_, b1, d1, _, _, rfl, rfl, (((((h0.setCell 0 (.int .i64 kind)).setCell 1 (.string ⟨text.toArray⟩)).setCell 2 (.slice b1 list.length d1)).setCell 3 (.slice b2 fields.length d2)).setCell 4 (.slice b3 ranked.length d3)).heap, ?_, ?_⟩
           · refine (HV2.out.list.stay (by simp) (fun b hb _ => ?_)).imp (fun b hb => Nat.le_trans (Nat.le_add_right _ _) hb)
             repeat rw [heap_set_far (by show b ≠ w.heap.size; omega)]
           · iterate 5 refine Below.setCell ?_ (by simp) _
             exact HB2.out
         have HD := Lib.hid D
         clear D HG1 HG2 HD1 HB1 HZ HV2 HB2
         go_wp2_with fail
         go_meet
         exact HD.out))
  case rest =>
    obtain ⟨g, a1, c1, f, r0, rfl, rfl, hx, hV, hB⟩ := hcut
    dsimp only at hx hV
    have hB4 : Below w.heap.size w (World.drew wc) := hB.drew
    have hcx : ∀ j, wc.cell? ⟨g, j, none⟩ = (#[.int .i64 kind, .string ⟨text.toArray⟩, .slice a1 list.length c1, f, r0] : Array Value)[j]? := fun j => by simp [World.cell?, hx]
    have HOF := Lib.hid (dof_ok o r (hV.below (Below.refl _ wc).drew) hsm.list)
    have HB4 := Lib.hid hB4
    obtain ⟨s0, hs0⟩ := fresh_role o (g + 1)
    have HO := Lib.hid hs0
    have HX := Lib.hid (show Blk o (World.drew wc) (o g) g #[.int .i64 kind, .string ⟨text.toArray⟩, .slice a1 list.length c1, f, r0] 49 from ⟨hx, rfl⟩)
    clear hs0 HG1 HG2 HD1 HB1 HZ hx hV hB hB4 hb hf hl hcb hsm
    cases ok
    · go_wp2_with fail
      have hld := hcx 2
      refine wp_region_any (by kernel_rfl) ?_
      change wpAny _ _ _ _ (12 + 1) _ _ (World.drew wc)
      refine wpAny_take (i := 0) (v := .pointer (some ⟨g, 2, none⟩)) rfl (by kernel_rfl) (by kernel_rfl) (by kernel_rfl) (fun _ _ _ h => h) (Or.inl ⟨rfl, fun _ => rfl⟩) ?_
      refine wpAny_take (fuel := 11) (i := 3) (v := .bool false) rfl (by kernel_rfl) (by kernel_rfl) (by kernel_rfl) (fun _ _ _ h => h) (Or.inl ⟨rfl, fun _ => rfl⟩) ?_
      refine wpAny_take (fuel := 10) (i := 4) (v := .bool false) rfl (by kernel_rfl) (by kernel_rfl) (by kernel_rfl) (fun _ _ _ h => h) (Or.inl ⟨rfl, fun _ => rfl⟩) ?_
      refine wpAny_ready (fuel := 9) (rs := [1]) (by kernel_rfl) (by simp) (AllReady.cons rfl (fun K' hK' => ?_) AllReady.nil)
      refine step_load (v := .slice a1 list.length c1) rfl (by unfold execOp; simp [go_sem, hld]) (hK' _ _ ?_)
      refine wpAny_ready (fuel := 8) (rs := [2]) (by kernel_rfl) (by simp) (AllReady.cons rfl (fun K2 hK2 => ?_) AllReady.nil)
      refine step_dof rfl _ rfl rfl HOF.out ?_
      rintro e w5 ⟨d, o5, rfl, hd5, hs5⟩
      have HD := Lib.hid (show ∃ o', DeqI o' w5 r d list.length list ∧ ∀ s, Stp s o w o' w5 from ⟨o5, hd5, fun s => (Stp.ofBelow s o HB4.out).trans (hs5 s)⟩)
      clear hd5 hs5
      refine ⟨_, rfl, hK2 _ _ ?_⟩
      refine wpAny_take (fuel := 7) (i := 5) (v := .bool false) rfl (by kernel_rfl) (by kernel_rfl) (by kernel_rfl) (fun _ _ _ h => h) (Or.inl ⟨rfl, fun _ => by kernel_rfl⟩) ?_
      refine wpAny_take (fuel := 6) (i := 6) (v := undef) rfl (by kernel_rfl) (by kernel_rfl) (by kernel_rfl) (fun _ _ _ h => h) (Or.inr ⟨by kernel_rfl, rfl⟩) ?_
      refine wpAny_take (fuel := 5) (i := 7) (v := undef) rfl (by kernel_rfl) (by kernel_rfl) (by kernel_rfl) (fun _ _ _ h => h) (Or.inr ⟨by kernel_rfl, rfl⟩) ?_
      refine wpAny_take (fuel := 4) (i := 8) (v := undef) rfl (by kernel_rfl) (by kernel_rfl) (by kernel_rfl) (fun _ _ _ h => h) (Or.inr ⟨by kernel_rfl, rfl⟩) ?_
      refine wpAny_take (fuel := 3) (i := 9) (v := .bool false) rfl (by kernel_rfl) (by kernel_rfl) (by kernel_rfl) (fun _ _ _ h => h) (Or.inl ⟨rfl, fun _ => by kernel_rfl⟩) ?_
      refine wpAny_take (fuel := 2) (i := 10) (v := .pointer (some ⟨d, 0, none⟩)) rfl (by kernel_rfl) (by kernel_rfl) (by kernel_rfl) (fun _ _ _ h => h) (Or.inl ⟨rfl, fun _ => by kernel_rfl⟩) ?_
      refine wpAny_take (fuel := 1) (i := 11) (v := .bool false) rfl (by kernel_rfl) (by kernel_rfl) (by kernel_rfl) (fun _ _ _ h => h) (Or.inl ⟨rfl, fun _ => by kernel_rfl⟩) ?_
      refine wpAny_take (fuel := 0) (i := 12) (v := .bool false) rfl (by kernel_rfl) (by kernel_rfl) (by kernel_rfl) (fun _ _ _ h => h) (Or.inl ⟨rfl, fun _ => by kernel_rfl⟩) ?_
      refine wpAny_done (by kernel_rfl) (exit_frame (b := ⟨#[.pointer (some ⟨cb, 0, none⟩), .string ⟨k.toArray⟩, undef, undef, .pointer (some ⟨d, 0, none⟩), .bool false, .bool false, .pointer (some ⟨g, 0, none⟩), .bool false, u9, u10, u11, u12, u13, u14, u15, u16, u17, u18, u19, u20, u21,
        .pointer (some ⟨g, 2, none⟩), .slice a1 list.length c1, .pointer (some ⟨d, 0, none⟩), .bool false, .bool false, .bool false, undef, undef, undef, .bool false], []⟩) (by kernel_rfl) ?_) _
      go_wp2_with fail
      obtain ⟨o6, h6, st6⟩ := HD.out
      go_ret3
      exact ⟨_, o6, rfl, h6, st6⟩
    · go_wp2_with fail
      go_region_with (
        go_at_call 120
        (with_reducible refine HOF.out.mono ?_)
        rintro e w5 ⟨d, o5, rfl, hd5, hs5⟩
        have HD := Lib.hid (show ∃ o', DeqI o' w5 r d list.length list ∧ ∀ s, Stp s o w o' w5 from ⟨o5, hd5, fun s => (Stp.ofBelow s o HB4.out).trans (hs5 s)⟩)
        have hx5 := HX.out.keep (hs5 [s0]) (HO.out g (Nat.lt_succ_self g))
        have hcx5 := hx5.cell
        have hfx5 := hx5.free
        clear hx5 hd5 hs5)
      all_goals (
        obtain ⟨o6, h6, st6⟩ := HD.out
        have H6 := Lib.hid h6
        have ST6 := Lib.hid st6
        clear h6 st6 HD
        go_wp2_with fail
        go_ret3
        exact ⟨_, o6, rfl, H6.out, ST6.out⟩)
end
end Go.Proofs.YtgmmeeikjofefaaGreatDoor
