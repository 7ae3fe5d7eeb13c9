import Derived.Test.YthojmgjgmbnopaaGreatDoorJI
import Derived.Test.YthojmgjgmbnopaaGreatDoorUb
import Derived.Deep.RegionHeld
import Derived.Deep.DeepCutAuto
namespace Go.Proofs.YthojmgjgmbnopaaGreatDoor
open Go Go.RowKit
/-! The document's space of any values: Put. -/
abbrev xsV (l : Value) (n : Nat) : Array Value := #[l, .int .u64 n, .bool false, .slice none 0 0, .int .u64 0, .slice none 0 0, .slice none 0 0]
/-- Block x is the document's space with no mark: its entries are X, n touches so far. -/
structure XsR (o : Roles) (w : World) (q : List Nat) (x : Nat) (X : List EV) (n : Nat) : Prop where
  blk : ∃ l, Blk o w q x (xsV l n) 79 ∧ Vw (fun b => o b = q ++ [0]) w l 8 X.length (evC X)
  vals : EvsOk (fun b => o b = q ++ [0]) w X
  sort : SortX X
section
variable {o o' : Roles} {w w' : World} {q s : List Nat} {x n : Nat} {X : List EV}
theorem XsR.keep (h : XsR o w q x X n) (st : Stp s o w o' w') (hn : Apart s q) : XsR o' w' q x X n := by
  obtain ⟨⟨l, h1, h2⟩, h3, h4⟩ := h
  exact ⟨⟨l, h1.keep st (by simpa using hn []), h2.keep st (hn _)⟩, fun e he => ⟨(h3 e he).1.keep st (hn _), (h3 e he).2⟩, h4⟩
theorem XsR.below (h : XsR o w q x X n) (hB : Below w.heap.size w w') : XsR o w' q x X n := by
  obtain ⟨⟨l, h1, h2⟩, h3, h4⟩ := h
  exact ⟨⟨l, h1.below hB, h2.below hB⟩, fun e he => ⟨(h3 e he).1.below hB, (h3 e he).2⟩, h4⟩
theorem Vw.lim {A : Nat → Prop} {v : Value} {sz m : Nat} {xs : List Value} (h : Vw A w v sz m xs) : Vw (fun b => A b ∧ b < w.heap.size) w v sz m xs := by
  obtain ⟨⟨a, cap, e, h1, h2, h3⟩, h4⟩ := h
  refine ⟨⟨a, cap, e, h1, h2, ?_⟩, h4⟩
  rcases h3 with h3 | ⟨b, off, g1, g2, g3, g4⟩
  · exact .inl h3
  · exact .inr ⟨b, off, g1, g2, ⟨g3, g2⟩, g4⟩
theorem Val3.lim {A : Nat → Prop} {V : VV} {l f r : Value} (h : Val3 A w V l f r) : Val3 (fun b => A b ∧ b < w.heap.size) w V l f r := ⟨h.list.lim, h.fields.lim, h.ranked.lim⟩
theorem XsR.from {r : List Nat} (h : XsR o w q x X n) : XsR (o.from w.heap.size r) w q x X n := by
  obtain ⟨⟨l, h1, h2⟩, h3, h4⟩ := h
  have hi : ∀ b, (o b = q ++ [0] ∧ b < w.heap.size) → o.from w.heap.size r b = q ++ [0] := fun b hb => by rw [Roles.from_old hb.2]; exact hb.1
  exact ⟨⟨l, h1.from, h2.lim.imp hi⟩, fun e he => ⟨(h3 e he).1.lim.imp hi, (h3 e he).2⟩, h4⟩
end
set_option maxRecDepth 10000 in
theorem ynote_ok {o : Roles} {w : World} {r : List Nat} {x : Nat} {l : Value} {n : Nat} (h : Blk o w r x (xsV l n) 79) (k : List UInt8) (hn : n ≤ 4611686018427387904) : Calls Tryz.prog 93 #[.pointer (some ⟨x, 0, none⟩), txt k] w fun e w' => e = .returned (.tuple #[]) ∧ w' = w.setCell ⟨x, 1, none⟩ (.int .u64 ((n + 1 : Nat) : Int)) := by
  have hcl := h.cell
  have hf := h.free
  have e0 : IntKind.u64.wrap ((n : Int) + 1) = (n : Int) + 1 := by rw [IntKind.wrap_u64]; omega
  clear h
  unfold txt
  go_enter Tryz.func93, Tryz.ntmps93
  go_wp2
  exact bodyPost_ret (v := .tuple #[]) (by simp [results, Tryz.results93]) rfl ⟨rfl, by simp⟩
set_option maxRecDepth 10000 in
theorem ychange_ok {o : Roles} {w : World} {r : List Nat} {x : Nat} {l : Value} {n : Nat} (h : Blk o w r x (xsV l n) 79) (x0 x1 x2 x3 x4 x5 x6 x7 : Value) : Calls Tryz.prog 95 #[.pointer (some ⟨x, 0, none⟩), .agg #[x0, x1, x2, x3, x4, x5, x6, x7]] w fun e w' => e = .returned (.tuple #[]) ∧ Below w.heap.size w w' := by
  have hcl := h.cell
  have hl := h.lt
  clear h
  go_enter Tryz.func95, Tryz.ntmps95
  go_wp2
  go_end0
  exact ⟨rfl, (Below.refl _ _).alloc (Nat.le_refl _) _⟩
def XPut (o : Roles) (w : World) (q : List Nat) (x : Nat) (X : List EV) (n : Nat) (k : Tx) (V : VV) (d : Int) (E : Ending) (w' : World) : Prop :=
  E = .returned (.int .i64 0) ∧ ∃ o' e, e.key = k ∧ e.v = V ∧ e.due = d ∧ e.ver = n + 1 ∧ XsR o' w' q x (putX X e) (n + 1) ∧ Stp q o w o' w'
set_option maxRecDepth 10000 in
set_option maxHeartbeats 4000000 in
theorem xput_fine {A : Nat → Prop} {o : Roles} {w : World} {q : List Nat} {x n : Nat} {X : List EV} {V : VV} {l f r : Value} {d : Int} (h : XsR o w q x X n) (k : Tx) (hv : Val3 A w V l f r) (hs : VSmall V) (hfit : fitV V d = 0) (hn : n ≤ 4611686018427387904) (hX : X.length < 1099511627776) :
    Calls Tryz.prog 59 #[.pointer (some ⟨x, 0, none⟩), txt k, valV V l f r, .int .i64 d] w (XPut o w q x X n k V d) := by
  have h := h.from (r := q ++ [0])
  have hst := Stp.from0 q o w (q ++ [0])
  have hnew : ∀ b, w.heap.size ≤ b → o.from w.heap.size (q ++ [0]) b = q ++ [0] := fun b hb => Roles.from_new hb
  generalize o.from w.heap.size (q ++ [0]) = o1 at *
  obtain ⟨⟨xl, hblk, hview⟩, hvals, hsort⟩ := h
  obtain ⟨a1, c1, e1, _⟩ := hv.list.slice
  obtain ⟨a2, c2, e2, _⟩ := hv.fields.slice
  obtain ⟨a3, c3, e3, _⟩ := hv.ranked.slice
  subst e1 e2 e3
  obtain ⟨ax, cx, rfl, _⟩ := id hview.slice
  have HFI := Lib.hid (fun W (hB : Below w.heap.size w W) => by have := xfit_any (hv.below hB) hs d; rw [hfit] at this; exact this)
  have HCO := Lib.hid (fun W (hB : Below w.heap.size w W) => xcopy_any (hv.below hB) hs)
  have hb : Blk o1 (w.alloc (.cells #[.int .i64 V.kind, .string ⟨V.text.toArray⟩, .slice a1 V.list.length c1, .slice a2 V.fields.length c2, .slice a3 V.ranked.length c3] 43)) (q ++ [0]) w.heap.size #[.int .i64 V.kind, .string ⟨V.text.toArray⟩, .slice a1 V.list.length c1, .slice a2 V.fields.length c2, .slice a3 V.ranked.length c3] 43 := ⟨heap_alloc_new w _, hnew _ (Nat.le_refl _)⟩
  have hB1 : Below w.heap.size w (w.alloc (.cells #[.int .i64 V.kind, .string ⟨V.text.toArray⟩, .slice a1 V.list.length c1, .slice a2 V.fields.length c2, .slice a3 V.ranked.length c3] 43)) := (Below.refl _ _).alloc (Nat.le_refl _) _
  have HX := Lib.hid hblk
  have HXL := Lib.hid hblk.lt
  have HVW := Lib.hid hview
  have HVS := Lib.hid hvals
  have Hb := Lib.hid hb
  have HB1 := Lib.hid hB1
  have HST := Lib.hid hst
  have HNEW := Lib.hid hnew
  have HS := Lib.hid hs
  obtain ⟨kind, text, list, fields, ranked⟩ := V
  dsimp only at *
  clear h hb hB1 hblk hview hvals hst hnew hv hs hfit
  unfold txt
  go_enter Tryz.func59, Tryz.ntmps59
  go_wp2_with fail
  refine (HFI.out _ HB1.out).mono ?_; rintro e w2 ⟨rfl, hB2⟩
  have hb2 := Hb.out.below hB2
  have hc2 := hb2.cell
  have Hb2 := Lib.hid hb2
  have HB2 := Lib.hid (HB1.out.trans (hB2.mono HB1.out.size))
  clear hB2 hb2 HFI Hb HB1
  go_wp2_with fail
  refine (HCO.out _ HB2.out).mono ?_; rintro e w3 ⟨l3, f3, r3, rfl, hv3, hB3⟩
  have hb3 := Hb2.out.below hB3
  have hc3 := hb3.cell
  have hf3 := hb3.free
  have Hb3 := Lib.hid hb3
  have HB3 := Lib.hid (HB2.out.trans (hB3.mono HB2.out.size))
  have HV3 := Lib.hid (hv3.imp (B := fun b => w.heap.size < b) (fun b hb => by have := Hb2.out.lt; omega))
  obtain ⟨b1, d1, rfl, _⟩ := id hv3.list.slice
  obtain ⟨b2, d2, rfl, _⟩ := id hv3.fields.slice
  obtain ⟨b3, d3, rfl, _⟩ := id hv3.ranked.slice
  clear hB3 hb3 HCO Hb2 HB2 hc2 hv3
  go_wp2_with fail
  refine (ynote_ok (o := o1) (r := q) (l := .slice ax X.length cx) (n := n) ?_ k hn).mono ?_
  · iterate 5 refine Blk.setOther ?_ _ _ (by have := HXL.out; show x ≠ w.heap.size; omega)
    exact HX.out.below HB3.out
  rintro e w4 ⟨rfl, hw4⟩
  obtain ⟨m, hm⟩ : ∃ m, m = n + 1 := ⟨_, rfl⟩
  rw [← hm] at hw4
  have hx4 : Blk o1 w4 q x (xsV (.slice ax X.length cx) m) 79 := by
    rw [hw4]
    refine Blk.setCell (cs := xsV (.slice ax X.length cx) n) ?_ 1 _
    iterate 5 refine Blk.setOther ?_ _ _ (by have := HXL.out; show x ≠ w.heap.size; omega)
    exact HX.out.below HB3.out
  have hb4 : Blk o1 w4 (q ++ [0]) w.heap.size #[.int .i64 kind, .string ⟨text.toArray⟩, .slice b1 list.length d1, .slice b2 fields.length d2, .slice b3 ranked.length d3] 43 := by
    rw [hw4]
    refine Blk.setOther ?_ _ _ (by have := HXL.out; show w.heap.size ≠ x; omega)
    exact (((((Hb3.out.setCell 0 _).setCell 1 _).setCell 2 _).setCell 3 _).setCell 4 _)
  have hs4 : Stp q o w o1 w4 := by
    rw [hw4]
    refine Stp.setCell (HST.out.trans (Stp.ofBelow q o1 ?_)) (by show q <+: o1 x; rw [HX.out.role]; exact List.prefix_refl _) _
    iterate 5 refine Below.setCell ?_ (by exact Nat.le_refl _) _
    exact HB3.out
  have hxr : ∀ b, o1 b = q ++ [0] → b ≠ x := fun b hb e => by
    have h1 := HX.out.role
    rw [← e, hb] at h1
    simp at h1
  have hfar : ∀ b, o1 b = q ++ [0] ∧ b < w.heap.size → w4.heap[b]? = w.heap[b]? := fun b hb => by
    rw [hw4, heap_set_far (by show b ≠ x; exact hxr b hb.1)]
    iterate 5 rw [heap_set_far (by show b ≠ w.heap.size; omega)]
    exact HB3.out.block b hb.2
  have hsz4 : w3.heap.size = w4.heap.size := by rw [hw4]; simp
  have hz4 : w.heap.size < w4.heap.size := by have := hb4.lt; omega
  have hle4 : w.heap.size ≤ w4.heap.size := by omega
  have HVW4 := Lib.hid ((HVW.out.lim).stay hle4 (fun b hb _ => hfar b hb))
  have HVS4 := Lib.hid (show EvsOk (fun b => o1 b = q ++ [0] ∧ b < w.heap.size) w4 X from fun e he => ⟨(HVS.out e he).1.lim.stay hle4 (fun b hb _ => hfar b hb), (HVS.out e he).2⟩)
  have HV4 := Lib.hid (show Val3 (fun b => w.heap.size < b) w4 ⟨kind, text, list, fields, ranked⟩ (.slice b1 list.length d1) (.slice b2 fields.length d2) (.slice b3 ranked.length d3) from HV3.out.stay (by omega) (fun b hb _ => by
    rw [hw4, heap_set_far (by show b ≠ x; have := HXL.out; omega)]
    iterate 5 rw [heap_set_far (by show b ≠ w.heap.size; omega)]))
  have HWI := Lib.hid (fun W (hB : Below w4.heap.size w4 W) => show Calls Tryz.prog 94 #[.slice ax X.length cx, .agg #[.string ⟨k.toArray⟩, .int .i64 kind, .string ⟨text.toArray⟩, .slice b1 list.length d1, .slice b2 fields.length d2, .slice b3 ranked.length d3, .int .i64 d, .int .u64 (m : Int)]] W (WithDid W (putX X ⟨k, ⟨kind, text, list, fields, ranked⟩, d, m, .slice b1 list.length d1, .slice b2 fields.length d2, .slice b3 ranked.length d3⟩)) from xwith_any (e := ⟨k, ⟨kind, text, list, fields, ranked⟩, d, m, .slice b1 list.length d1, .slice b2 fields.length d2, .slice b3 ranked.length d3⟩) (HVW4.out.below hB) hsort HVS4.out.form ⟨⟨_, _, _, rfl⟩, ⟨_, _, _, rfl⟩, ⟨_, _, _, rfl⟩⟩ hX)
  have hc4 := hx4.cell
  have hbc4 := hb4.cell
  have HX4 := Lib.hid hx4
  have HB4 := Lib.hid hb4
  have HS4 := Lib.hid hs4
  have HSORT := Lib.hid hsort
  have HLE := Lib.hid hle4
  have HMN := Lib.hid hm
  have HXR := Lib.hid hxr
  clear hw4 hx4 hb4 hs4 hc3 hf3 Hb3 HB3 HX HVW HVS HV3 hfar hsort hle4 hm hxr hsz4 hz4 hX hn
  go_wp2_with fail
  go_region_with (
    go_at_call 94
    (with_reducible refine (HWI.out _ (by first | exact (Below.refl _ w4).drew | exact Below.refl _ _)).mono ?_)
    rintro e w6 ⟨a, c, rfl, hv6, hB6⟩
    have hB6' : Below w4.heap.size w4 w6 := (Below.refl _ w4).drew.trans hB6
    have hx6 := HX4.out.below hB6'
    have hb6 := HB4.out.below hB6'
    have hc6 := hx6.cell
    have hf6 := hx6.free
    have hbc6 := hb6.cell
    have HX6 := Lib.hid hx6
    have HB6 := Lib.hid hB6'
    have HV6 := Lib.hid (hv6.imp (B := fun b => w4.heap.size ≤ b) (fun b hb => hb))
    clear hB6 hB6' hx6 hb6 hv6)
  all_goals (
    clear HWI HX4 HB4
    have hne1 : ¬ (w.heap.size = x) := by have := HXL.out; omega
    have hne2 : ¬ (x = w.heap.size) := by have := HXL.out; omega
    go_wp2_with fail
    refine (ychange_ok (o := o1) (r := q) (l := .slice a _ c) (n := m) (HX6.out.setCell 0 _) _ _ _ _ _ _ _ _).mono ?_
    rintro e w7 ⟨rfl, hB7⟩
    have HB7 := Lib.hid hB7
    clear hB7
    go_wp2_with fail
    go_ret
    refine ⟨rfl, o1, ⟨k, ⟨kind, text, list, fields, ranked⟩, d, m, .slice b1 list.length d1, .slice b2 fields.length d2, .slice b3 ranked.length d3⟩, rfl, rfl, rfl, HMN.out, ?_, ?_⟩
    · rw [← HMN.out]
      refine ⟨⟨.slice a _ c, (Blk.setCell HX6.out 0 _).below HB7.out, ?_⟩, fun e he => ?_, putX_sort HSORT.out _⟩
      · exact ((HV6.out.imp (fun b hb => HNEW.out b (Nat.le_trans HLE.out hb))).stay (by simp) (fun b hb _ => heap_set_far (HXR.out b hb))).below HB7.out
      · rcases putX_mem he with rfl | he
        · exact ⟨(((HV4.out.below HB6.out).imp (fun b hb => HNEW.out b (Nat.le_of_lt hb))).stay (by simp) (fun b hb _ => heap_set_far (HXR.out b hb))).below HB7.out, HS.out⟩
        · exact ⟨((((HVS4.out e he).1.below HB6.out).imp (fun b hb => hb.1)).stay (by simp) (fun b hb _ => heap_set_far (HXR.out b hb))).below HB7.out, (HVS4.out e he).2⟩
    · exact ((HS4.out.trans (Stp.ofBelow q o1 HB6.out)).setCell (by show q <+: o1 x; rw [HX6.out.role]; exact List.prefix_refl _) _).trans (Stp.ofBelow q o1 HB7.out))
set_option maxRecDepth 10000 in
theorem xput_bad {A : Nat → Prop} {w : World} {x : Nat} {V : VV} {l f r : Value} {d : Int} (k : Tx) (hv : Val3 A w V l f r) (hs : VSmall V) (hfit : fitV V d ≠ 0) :
    Calls Tryz.prog 59 #[.pointer (some ⟨x, 0, none⟩), txt k, valV V l f r, .int .i64 d] w (VCh w (fitV V d)) := by
  obtain ⟨a1, c1, e1, _⟩ := hv.list.slice
  obtain ⟨a2, c2, e2, _⟩ := hv.fields.slice
  obtain ⟨a3, c3, e3, _⟩ := hv.ranked.slice
  subst e1 e2 e3
  have HFI := Lib.hid (fun W (hB : Below w.heap.size w W) => xfit_any (hv.below hB) hs d)
  have HB1 := Lib.hid ((Below.refl w.heap.size w).alloc (Nat.le_refl _) (.cells #[.int .i64 V.kind, .string ⟨V.text.toArray⟩, .slice a1 V.list.length c1, .slice a2 V.fields.length c2, .slice a3 V.ranked.length c3] 43))
  have h1 : (fitV V d == 0) = false := by simpa using hfit
  have h2 : (fitV V d != 0) = true := by simpa using hfit
  generalize fitV V d = n at *
  obtain ⟨kind, text, list, fields, ranked⟩ := V
  dsimp only at *
  clear hv hs hfit
  unfold txt
  go_enter Tryz.func59, Tryz.ntmps59
  go_wp2_with fail
  refine (HFI.out _ HB1.out).mono ?_; rintro e w2 ⟨rfl, hB2⟩
  have HB2 := Lib.hid (HB1.out.trans (hB2.mono HB1.out.size))
  clear hB2 HFI HB1
  go_wp2_with fail
  go_ret
  exact ⟨rfl, HB2.out⟩
end Go.Proofs.YthojmgjgmbnopaaGreatDoor
