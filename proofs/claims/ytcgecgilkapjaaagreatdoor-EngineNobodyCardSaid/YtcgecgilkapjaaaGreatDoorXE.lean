import Derived.Test.YtcgecgilkapjaaaGreatDoorXB
import Derived.Test.YtcgecgilkapjaaaGreatDoorXD
import Derived.StillTailTactics
namespace Go.Proofs.YtcgecgilkapjaaaGreatDoor
open Go Go.RowKit
/-! Space.Put and Space.Drop. -/
section
variable {o : Roles} {w w' : World} {q s : List Nat} {p m d a : Nat} {c : Cnt} {kvs : KV} {S : SP}
theorem Vw.from {v : Value} {sz n : Nat} {xs : List Value} {r : List Nat} (h : Vw (fun b => o b = s) w v sz n xs) : Vw (fun b => o.from w.heap.size r b = s) w v sz n xs := by
  obtain ⟨⟨a, cap, h1, h2, h3, h4⟩, h5⟩ := h
  refine ⟨⟨a, cap, h1, h2, h3, ?_⟩, h5⟩
  rcases h4 with h4 | ⟨b, off, g1, g2, g3, g4⟩
  · exact .inl h4
  · exact .inr ⟨b, off, g1, g2, by rw [Roles.from_old g2]; exact g3, g4⟩
theorem SpR.from {r : List Nat} (h : SpR o w q p m d a kvs S c) : SpR (o.from w.heap.size r) w q p m d a kvs S c :=
  ⟨h.blk.from, h.keys.from, h.nodup, h.due.roles (fun _ hb => Roles.from_old hb), fun k => (h.vals k).map fun _ _ _ _ hv => ⟨hv.list.from, hv.fields.from, hv.ranked.from⟩, h.lim⟩
end
def SP.put (S : SP) (k : List UInt8) (h : Hd) : SP := fun j => if j = k then some h else S j
def SP.del (S : SP) (k : List UInt8) : SP := fun j => if j = k then none else S j
theorem np0 {q : List Nat} {a b : Nat} (h : a ≠ b) : ¬ q ++ [a] <+: q ++ [b] := by
  rw [List.prefix_append_right_inj]
  simp [h]
theorem np1 {q : List Nat} {a : Nat} : ¬ q ++ [a] <+: q := by
  intro h
  have := h.length_le
  simp at this
  omega
theorem SP.ticks_put (S : SP) (k : List UInt8) (H : Hd) : (S.put k H).ticks = if H.due = 0 then S.ticks.del k else S.ticks.put k H.due := by
  by_cases h0 : H.due = 0
  · rw [if_pos h0]; funext j
    unfold SP.ticks SP.put TK.del
    by_cases hj : j = k
    · simp [hj, h0]
    · simp [hj]
  · rw [if_neg h0]; funext j
    unfold SP.ticks SP.put TK.put
    by_cases hj : j = k
    · simp [hj, h0]
    · simp [hj]
theorem SP.ticks_del (S : SP) (k : List UInt8) : (S.del k).ticks = S.ticks.del k := by
  funext j
  unfold SP.ticks SP.del TK.del
  by_cases hj : j = k
  · simp [hj]
  · simp [hj]
set_option maxRecDepth 10000 in
theorem tick_ok (w : World) (n : Int) (h0 : 0 ≤ n) (h1 : n ≤ 9007199254740992) : Calls Tryz.prog 40 #[.int .i64 n] w fun e w' => e = .returned (.bool true) ∧ w' = w := by
  have d0 : decide (0 ≤ n) = true := decide_eq_true h0
  have d1 : decide (n ≤ 9007199254740992) = true := decide_eq_true h1
  go_enter Tryz.func40, Tryz.ntmps40
  go_wp2
  go_ret
  exact ⟨rfl, rfl⟩
section
variable {o : Roles} {w : World} {q : List Nat} {p m d a : Nat} {c : Cnt} {kvs : KV} {S : SP}
def Cnt.touch (c : Cnt) : Cnt := ⟨c.num + 1, c.few⟩
theorem SpR.touched (h : SpR o w q p m d a kvs S c) : SpR o (w.setCell ⟨p, 2, none⟩ (.int .u64 ((c.num + 1 : Nat) : Int))) q p m d a kvs S c.touch := by
  have hr := h.blk.role
  have st : Stp q o w o (w.setCell ⟨p, 2, none⟩ (.int .u64 ((c.num + 1 : Nat) : Int))) := (Stp.refl q o w).setCell (by show q <+: o p; rw [hr]; exact List.prefix_refl _) _
  refine ⟨h.blk.setCell 2 _, h.keys.setCell _ _ (by rw [hr]; simp), h.nodup, h.due.stay (fun b hb _ => heap_set_far (fun e => ?_)), fun k => (h.vals k).map fun _ _ _ _ hv => hv.stay (by simp) (fun b hb _ => heap_set_far (fun e => ?_)), h.lim⟩
  · rw [e] at hb
    have h3 : q ++ [1] <+: o p := hb
    rw [hr] at h3
    exact np1 h3
  · have h3 : o p = q ++ [3] := by rw [← hb]; exact congrArg o e.symm
    rw [hr] at h3
    simp at h3
set_option maxRecDepth 10000 in
theorem touch_ok (h : SpR o w q p m d a kvs S c) (k : List UInt8) (hc : c.num ≤ 4611686018427387904) : Calls Tryz.prog 71 #[.pointer (some ⟨p, 0, none⟩), txt k] w fun e w' => e = .returned (.tuple #[]) ∧ w' = w.setCell ⟨p, 2, none⟩ (.int .u64 ((c.num + 1 : Nat) : Int)) := by
  have hcl := h.blk.cell
  have hf := h.blk.free
  have e0 : IntKind.u64.wrap ((c.num : Int) + 1) = (c.num : Int) + 1 := by rw [IntKind.wrap_u64]; omega
  clear h
  unfold txt
  go_enter Tryz.func71, Tryz.ntmps71
  go_wp2
  exact bodyPost_ret (v := .tuple #[]) (by simp [results, Tryz.results71]) rfl ⟨rfl, by simp⟩
set_option maxRecDepth 10000 in
theorem note_ok (h : SpR o w q p m d a kvs S c) (x0 x1 x2 x3 x4 x5 x6 x7 : Value) : Calls Tryz.prog 73 #[.pointer (some ⟨p, 0, none⟩), .agg #[x0, x1, x2, x3, x4, x5, x6, x7]] w fun e w' => e = .returned (.tuple #[]) ∧ Below w.heap.size w w' := by
  have hcl := h.blk.cell
  have hl := h.blk.lt
  clear h
  go_enter Tryz.func73, Tryz.ntmps73
  go_wp2
  go_end0
  exact ⟨rfl, (Below.refl _ _).alloc (Nat.le_refl _) _⟩
/-- The map of keys, then the index of deadlines. -/
def Lay2 (q : List Nat) (o : Roles) (w : World) (o' : Roles) (w' : World) : Prop := ∃ o1 w1, Stp (q ++ [0]) o w o1 w1 ∧ Stp (q ++ [1]) o1 w1 o' w'
theorem Lay2.stp {o o' : Roles} {w w' : World} (h : Lay2 q o w o' w') : Stp q o w o' w' := by
  obtain ⟨o1, w1, h1, h2⟩ := h
  exact (h1.wide (List.prefix_append _ _)).trans (h2.wide (List.prefix_append _ _))
theorem Lay2.blk {o o' : Roles} {w w' : World} {b : Nat} {cs : Array Value} {T : TypeId} (h : Lay2 q o w o' w') (hb : Blk o w (q ++ [3]) b cs T) : Blk o' w' (q ++ [3]) b cs T := by
  obtain ⟨o1, w1, h1, h2⟩ := h
  exact (hb.keep h1 (np0 (by decide))).keep h2 (np0 (by decide))
/-- A space whose index has turned. -/
theorem SpR.dues {o' : Roles} {w' : World} {S' : SP} {c' : Cnt} (h : SpR o w q p m d a kvs S c) (st : Stp (q ++ [1]) o w o' w') (hd : DueI o' w' (q ++ [1]) d S'.ticks c'.few) (hn : c'.num = c.num)
    {kvs' : KV} (hk : MBlk o w (q ++ [0]) m kvs') (hnd : (kvs'.map Prod.fst).Nodup) (hv : ∀ k, HdIs (fun b => o b = q ++ [3]) w (mfind kvs' k) (S' k)) (hl : ∀ k h, S' k = some h → 0 ≤ h.due ∧ h.due ≤ 9007199254740992) : SpR o' w' q p m d a kvs' S' c' :=
  ⟨by rw [hn]; exact h.blk.keep st np1, hk.keep st (np0 (by decide)), hnd, hd, fun k => (hv k).map fun _ _ _ _ hv => hv.keep st (np0 (by decide)), hl⟩
set_option maxRecDepth 10000 in
set_option maxHeartbeats 2000000 in
theorem lay_ok (h : SpR o w q p m d a kvs S c) (hpool : ∀ b, w.heap.size ≤ b → o b = q ++ [3]) (k : List UInt8) {H : Hd} {l f r : Value} (hv : Val3 (fun b => o b = q ++ [3]) w H.v l f r) (hs : VSmall H.v) (hd0 : 0 ≤ H.due) (hd1 : H.due ≤ 9007199254740992) (hfew : c.few ≤ 1099511627776) :
    Calls Tryz.prog 41 #[.pointer (some ⟨p, 0, none⟩), txt k, hdV H l f r] w fun e w' => e = .returned (.tuple #[]) ∧ ∃ o' kvs', SpR o' w' q p m d a kvs' (S.put k H) ⟨c.num, c.few + 1⟩ ∧ Lay2 q o w o' w' := by
  obtain ⟨a1, c1, e1, _⟩ := hv.list.slice
  obtain ⟨a2, c2, e2, _⟩ := hv.fields.slice
  obtain ⟨a3, c3, e3, _⟩ := hv.ranked.slice
  subst e1 e2 e3
  obtain ⟨w1, hw1⟩ : ∃ w1, w1 = w.alloc (.cells #[.int .i64 H.v.kind, .string ⟨H.v.text.toArray⟩, .slice a1 H.v.list.length c1, .slice a2 H.v.fields.length c2, .slice a3 H.v.ranked.length c3, .int .i64 H.due, .int .u64 H.ver] 88) := ⟨_, rfl⟩
  have hB : Below w.heap.size w w1 := by rw [hw1]; exact (Below.refl _ _).alloc (Nat.le_refl _) _
  have h1 := h.below hB
  have hv1 := hv.below hB
  have hbx : Blk o w1 (q ++ [3]) w.heap.size #[.int .i64 H.v.kind, .string ⟨H.v.text.toArray⟩, .slice a1 H.v.list.length c1, .slice a2 H.v.fields.length c2, .slice a3 H.v.ranked.length c3, .int .i64 H.due, .int .u64 H.ver] 88 := ⟨by rw [hw1]; exact heap_alloc_new w _, hpool _ (Nat.le_refl _)⟩
  have HB := Lib.hid hB
  have H1 := Lib.hid (h1.below (Below.refl _ w1).drew)
  have HV := Lib.hid (hv1.below (Below.refl _ w1).drew)
  have HX := Lib.hid hbx
  have hc := h1.blk.cell
  have hbc := hbx.cell
  have hst := Lib.hid (Stp.ofBelow (q ++ [0]) o hB).drew
  obtain ⟨⟨kind, text, list, fields, ranked⟩, due, ver⟩ := H
  dsimp only at hd0 hd1
  have HTK := Lib.hid (S.ticks_put k ⟨⟨kind, text, list, fields, ranked⟩, due, ver⟩)
  have HDD := Lib.hid (show 0 ≤ due ∧ due ≤ 9007199254740992 from ⟨hd0, hd1⟩)
  have hdu : (due == 0) = true ∧ due = 0 ∨ (due == 0) = false ∧ due ≠ 0 := by
    rcases h0 : (due == 0) with _ | _
    · exact .inr ⟨rfl, beq_eq_false_iff_ne.1 h0⟩
    · exact .inl ⟨rfl, by simpa using h0⟩
  have HDU := Lib.hid hdu
  clear h hv hB h1 hv1 hbx hd0 hd1 hdu
  unfold txt at *
  go_enter Tryz.func41, Tryz.ntmps41
  go_wp2_with fail
  rw [← hw1]
  clear hw1
  go_still_tail 6, (by kernel_rfl)
  change wpList _ _ _ _ _ (World.drew w1)
  refine wpList_put rfl _ _ _ 71 rfl Tryz.underlying71 Tryz.underlying9 H1.out.keys rfl (k := k) rfl rfl ?_
  intro w2 hm2 st2
  have HDUE := Lib.hid (H1.out.due.keep st2 (ap_tail (by decide)))
  have HFIN := Lib.hid (fun (o' : Roles) (w' : World) (st : Stp (q ++ [1]) o w2 o' w') (hd : DueI o' w' (q ++ [1]) d (S.put k ⟨⟨kind, text, list, fields, ranked⟩, due, ver⟩).ticks (c.few + 1)) =>
    show ∃ o' kvs', SpR o' w' q p m d a kvs' (S.put k ⟨⟨kind, text, list, fields, ranked⟩, due, ver⟩) ⟨c.num, c.few + 1⟩ ∧ Lay2 q o w o' w' from by
      have h := H1.out
      refine ⟨o', mput kvs k (hdV ⟨⟨kind, text, list, fields, ranked⟩, due, ver⟩ (.slice a1 list.length c1) (.slice a2 fields.length c2) (.slice a3 ranked.length c3)), ⟨(h.blk.keep st2 np1).keep st np1, hm2.keep st (np0 (by decide)), nodup_put h.nodup _ _, hd, fun j => ?_, fun j y hy => ?_⟩, o, w2, hst.out.trans st2, st⟩
      · rw [mfind_put]
        unfold SP.put
        by_cases hj : j = k
        · rw [if_pos hj, if_pos hj]
          exact ⟨_, _, _, rfl, (HV.out.keep st2 (np0 (by decide))).keep st (np0 (by decide)), hs⟩
        · rw [if_neg hj, if_neg hj]
          exact ((h.vals j).map fun _ _ _ _ hv => hv.keep st2 (np0 (by decide))).map fun _ _ _ _ hv => hv.keep st (np0 (by decide))
      · unfold SP.put at hy
        by_cases hj : j = k
        · rw [if_pos hj] at hy; cases hy; exact HDD.out
        · rw [if_neg hj] at hy; exact h.lim j y hy)
  have hblk2 := H1.out.blk.keep st2 np1
  have hbx2 : Blk o w2 (q ++ [3]) w.heap.size _ _ := Blk.keep (w := World.drew w1) ⟨HX.out.heap, HX.out.role⟩ st2 (np0 (by decide))
  have hc2 := hblk2.cell
  have hbc2 := hbx2.cell
  clear hblk2 hbx2 st2 hm2 H1 HV HX hc hbc hst
  rcases HDU.out with ⟨he, rfl⟩ | ⟨he, hne⟩
  · have HD := Lib.hid (due_drop HDUE.out k (by omega))
    unfold txt at HD
    go_wp2_with fail
    refine HD.out.mono ?_; rintro e w3 ⟨rfl, o3, hd3, st3⟩
    have D := Lib.hid (HFIN.out o3 w3 st3 (by rw [HTK.out, if_pos trivial]; exact hd3.mono (Nat.le_succ _)))
    clear hd3 st3 HD HFIN
    go_wp2_with fail
    go_end0
    exact ⟨rfl, D.out⟩
  · have HD := Lib.hid (due_set (HDUE.out.below (Below.refl _ w2).drew) k due HDD.out.1 HDD.out.2 hfew)
    have HNE := Lib.hid hne
    unfold txt at HD
    clear hne
    go_wp2_with fail
    go_still_tail 7, (by kernel_rfl)
    go_wp2_with fail
    refine HD.out.mono ?_; rintro e w3 ⟨rfl, o3, hd3, st3⟩
    have D := Lib.hid (HFIN.out o3 w3 st3.from1 (by rw [HTK.out, if_neg HNE.out]; exact hd3))
    clear hd3 st3 HD HFIN
    go_wp2_with fail
    go_end0
    exact ⟨rfl, D.out⟩
end
end Go.Proofs.YtcgecgilkapjaaaGreatDoor
namespace Go.Proofs.YtcgecgilkapjaaaGreatDoor
open Go Go.RowKit
section
variable {o : Roles} {w : World} {q : List Nat} {p : Nat} {c : Cnt} {S : SP}
def PutDid (o : Roles) (w : World) (q : List Nat) (p : Nat) (S : SP) (c : Cnt) (e : Ending) (w' : World) : Prop :=
  e = .returned (.int .i64 0) ∧ ∃ o', SpI o' w' q p S c ∧ Stp q o w o' w'
set_option maxRecDepth 10000 in
set_option maxHeartbeats 4000000 in
theorem put_ok {A : Nat → Prop} {V : VV} {l f r : Value} (h : SpI o w q p S c) (k : List UInt8) (hv : Val3 A w V l f r) (hs : VSmall V) (hA : ∀ b, A b → b ≠ p) (due : Int) (hd0 : 0 ≤ due) (hd1 : due ≤ 9007199254740992)
    (hck : ∀ W, Below w.heap.size w W → Calls Tryz.prog 39 #[valV V l f r] W fun e w' => e = .returned (.int .i64 0) ∧ Below W.heap.size W w') (hc : c.num ≤ 4611686018427387904) (hfew : c.few ≤ 1099511627776) :
    Calls Tryz.prog 184 #[.pointer (some ⟨p, 0, none⟩), txt k, valV V l f r, .int .i64 due] w (PutDid o w q p (S.put k ⟨V, due, c.num + 1⟩) c.next) := by
  obtain ⟨m, d, a, kvs, h⟩ := h
  obtain ⟨a1, c1, e1, _⟩ := hv.list.slice
  obtain ⟨a2, c2, e2, _⟩ := hv.fields.slice
  obtain ⟨a3, c3, e3, _⟩ := hv.ranked.slice
  subst e1 e2 e3
  have h := h.from (r := q ++ [3])
  have hst := Stp.from0 q o w (q ++ [3])
  have hnew : ∀ b, w.heap.size ≤ b → o.from w.heap.size (q ++ [3]) b = q ++ [3] := fun b hb => Roles.from_new hb
  generalize o.from w.heap.size (q ++ [3]) = o1 at *
  obtain ⟨w1, hw1⟩ : ∃ w1, w1 = w.alloc (.cells #[.int .i64 V.kind, .string ⟨V.text.toArray⟩, .slice a1 V.list.length c1, .slice a2 V.fields.length c2, .slice a3 V.ranked.length c3] 80) := ⟨_, rfl⟩
  have hB : Below w.heap.size w w1 := by rw [hw1]; exact (Below.refl _ _).alloc (Nat.le_refl _) _
  have hbx : Blk o1 w1 (q ++ [3]) w.heap.size #[.int .i64 V.kind, .string ⟨V.text.toArray⟩, .slice a1 V.list.length c1, .slice a2 V.fields.length c2, .slice a3 V.ranked.length c3] 80 := ⟨by rw [hw1]; exact heap_alloc_new w _, hnew _ (Nat.le_refl _)⟩
  have HR1 := Lib.hid (h.below hB)
  have HB1 := Lib.hid hB
  have HX1 := Lib.hid hbx
  have HST := Lib.hid hst
  have HNEW := Lib.hid hnew
  have HCK := Lib.hid (hck w1 hB)
  have HCP := Lib.hid (fun W (hB : Below w.heap.size w W) => hv.below hB)
  have hbc1 := hbx.cell
  obtain ⟨kind, text, list, fields, ranked⟩ := V
  dsimp only at *
  clear h hv hB hbx hst hnew hck
  unfold txt at *
  go_enter Tryz.func184, Tryz.ntmps184
  go_wp2_with fail
  rw [← hw1]
  clear hw1
  refine HCK.out.mono ?_; rintro e w2 ⟨rfl, hB2⟩
  have hR2 := HR1.out.below hB2
  have HX2 := Lib.hid (HX1.out.below hB2)
  have HB2 := Lib.hid (HB1.out.trans (hB2.mono HB1.out.size))
  have HR2 := Lib.hid hR2
  clear hB2 hbc1 HR1 HB1 HX1 HCK hR2
  go_wp2_with fail
  refine (tick_ok _ due hd0 hd1).mono ?_; rintro e w2' ⟨rfl, rfl⟩
  go_wp2_with fail
  refine (touch_ok HR2.out k hc).mono ?_; rintro e w3 ⟨rfl, hw3⟩
  have hR3 : SpR o1 w3 q p m d a kvs S c.touch := by rw [hw3]; exact HR2.out.touched
  have hST3 : Stp q o1 w2' o1 w3 := by rw [hw3]; exact (Stp.refl q o1 w2').setCell (by show q <+: o1 p; rw [HR2.out.blk.role]; exact List.prefix_refl _) _
  have hX3 : Blk o1 w3 (q ++ [3]) w.heap.size #[.int .i64 kind, .string ⟨text.toArray⟩, .slice a1 list.length c1, .slice a2 fields.length c2, .slice a3 ranked.length c3] 80 := by
    rw [hw3]
    refine HX2.out.setOther _ _ (fun e => ?_)
    have h1 := HX2.out.role
    rw [e] at h1
    have h2 : o1 p = q ++ [3] := h1
    rw [HR2.out.blk.role] at h2
    simp at h2
  have hc3 := hR3.blk.cell
  have hbc3 := hX3.cell
  have hs3 : w2'.heap.size = w3.heap.size := by rw [hw3]; simp
  have hcp : Calls Tryz.prog 42 #[.agg #[.int .i64 kind, .string ⟨text.toArray⟩, .slice a1 list.length c1, .slice a2 fields.length c2, .slice a3 ranked.length c3]] (World.drew w3) (CopyDid (World.drew w3) ⟨kind, text, list, fields, ranked⟩) := by
    have hv2 := HCP.out w2' HB2.out
    have hv3 := hv2.stay (w' := w3) (by omega) (fun b hb _ => by rw [hw3]; exact heap_set_far (hA b hb))
    exact copy_ok (V := ⟨kind, text, list, fields, ranked⟩) (hv3.below (Below.refl _ w3).drew) hs
  have HX3 := Lib.hid hX3
  have HR3 := Lib.hid hR3
  have HST3 := Lib.hid (HST.out.trans ((Stp.ofBelow q o1 HB2.out).trans hST3))
  have HSZ := Lib.hid (show w.heap.size ≤ w3.heap.size by have := HB2.out.size; omega)
  have HCP3 := Lib.hid hcp
  clear hw3 hR3 hST3 hX3 hcp HR2 HX2 HB2 HST HCP hs3
  go_wp2_with fail
  go_region_with (first
    | (go_at_call 42
       (with_reducible refine HCP3.out.mono ?_)
       rintro e w4 ⟨l4, f4, r4, rfl, hv4, hB4⟩
       have hB4' : Below w3.heap.size w3 w4 := (Below.refl _ w3).drew.trans hB4
       obtain ⟨b1, d1, rfl, _⟩ := id hv4.list.slice
       obtain ⟨b2, d2, rfl, _⟩ := id hv4.fields.slice
       obtain ⟨b3, d3, rfl, _⟩ := id hv4.ranked.slice
       have hR4 := HR3.out.below hB4'
       have HX4 := Lib.hid (HX3.out.below hB4')
       have hc4 := hR4.blk.cell
       have HLY := Lib.hid (show Calls Tryz.prog 41 #[.pointer (some ⟨p, 0, none⟩), .string ⟨k.toArray⟩, .agg #[.int .i64 kind, .string ⟨text.toArray⟩, .slice b1 list.length d1, .slice b2 fields.length d2, .slice b3 ranked.length d3, .int .i64 due, .int .u64 (c.touch.num : Int)]] w4 _ from lay_ok hR4 (fun b hb => HNEW.out b (Nat.le_trans HSZ.out (Nat.le_trans hB4'.size hb))) k (H := ⟨⟨kind, text, list, fields, ranked⟩, due, c.num + 1⟩) (hv4.imp (fun b hb => HNEW.out b (Nat.le_trans HSZ.out hb))) hs hd0 hd1 hfew)
       have HST4 := Lib.hid (HST3.out.trans (Stp.ofBelow q o1 hB4'))
       clear hv4 hB4 hB4' hR4)
    | (go_at_call 41
       (with_reducible refine HLY.out.mono ?_)
       rintro e w5 ⟨rfl, o5, kvs5, hR5, st5⟩
       have HR5 := Lib.hid hR5
       have HX5 := Lib.hid (st5.blk HX4.out)
       have HST5 := Lib.hid (HST4.out.trans st5.stp)
       clear hR5 st5 HX4 HST4 HLY))
  all_goals (
    have hR5 := HR5.out
    have hc5 := hR5.blk.cell
    have hbc5 := HX5.out.cell
    clear hc3 hbc3 hc4
    go_wp2_with fail
    refine (note_ok hR5 _ _ _ _ _ _ _ _).mono ?_
    rintro e w6 ⟨rfl, hB6⟩
    have HB6 := Lib.hid hB6
    clear hB6 hc5 hbc5
    go_wp2_with fail
    go_ret
    exact ⟨rfl, o5, ⟨m, d, a, kvs5, hR5.below HB6.out⟩, HST5.out.trans (Stp.ofBelow q o5 HB6.out)⟩)
end
end Go.Proofs.YtcgecgilkapjaaaGreatDoor
namespace Go.Proofs.YtcgecgilkapjaaaGreatDoor
open Go Go.RowKit
section
variable {o : Roles} {w : World} {q : List Nat} {p m d a : Nat} {c : Cnt} {kvs : KV} {S : SP}
set_option maxRecDepth 10000 in
theorem free_ok (h : SpR o w q p m d a kvs S c) (k : List UInt8) (hfew : c.few ≤ 1099511627777) : Calls Tryz.prog 72 #[.pointer (some ⟨p, 0, none⟩), txt k] w fun e w' => e = .returned (.tuple #[]) ∧ ∃ o' kvs', SpR o' w' q p m d a kvs' (S.del k) c ∧ Lay2 q o w o' w' := by
  have hc := h.blk.cell
  have HR := Lib.hid h
  clear h
  unfold txt
  go_enter Tryz.func72, Tryz.ntmps72
  go_wp2_with (
    refine wpList_del rfl _ _ 71 9 rfl Tryz.underlying71 Tryz.underlying9 HR.out.keys rfl (k := k) rfl ?_
    intro w2 hm2 st2
    have HD := Lib.hid (due_drop (HR.out.due.keep st2 (ap_tail (by decide))) k hfew)
    have HFIN := Lib.hid (fun (o' : Roles) (w' : World) (st : Stp (q ++ [1]) o w2 o' w') (hd : DueI o' w' (q ++ [1]) d (S.ticks.del k) c.few) =>
      show ∃ o' kvs', SpR o' w' q p m d a kvs' (S.del k) c ∧ Lay2 q o w o' w' from by
        have h := HR.out
        refine ⟨o', mdel kvs k, ⟨(h.blk.keep st2 np1).keep st np1, hm2.keep st (np0 (by decide)), (keys_del kvs k).nodup h.nodup, by rw [S.ticks_del]; exact hd, fun j => ?_, fun j y hy => ?_⟩, o, w2, st2, st⟩
        · rw [mfind_del h.nodup]
          unfold SP.del
          by_cases hj : j = k
          · rw [if_pos hj, if_pos hj]; trivial
          · rw [if_neg hj, if_neg hj]
            exact ((h.vals j).map fun _ _ _ _ hv => hv.keep st2 (np0 (by decide))).map fun _ _ _ _ hv => hv.keep st (np0 (by decide))
        · unfold SP.del at hy
          by_cases hj : j = k
          · rw [if_pos hj] at hy; cases hy
          · rw [if_neg hj] at hy; exact h.lim j y hy)
    have hc2 := (HR.out.blk.keep st2 np1).cell
    clear st2 hm2 HR hc)
  unfold txt at HD
  refine HD.out.mono ?_; rintro e w3 ⟨rfl, o3, hd3, st3⟩
  have D := Lib.hid (HFIN.out o3 w3 st3 hd3)
  clear hd3 st3 HFIN HD
  go_wp2_with fail
  go_end0
  exact ⟨rfl, D.out⟩
set_option maxRecDepth 10000 in
set_option maxHeartbeats 1000000 in
theorem drop_some (h : SpI o w q p S c) (k : List UInt8) {H : Hd} (hS : S k = some H) (hc : c.num ≤ 4611686018427387904) (hfew : c.few ≤ 1099511627777) :
    Calls Tryz.prog 34 #[.pointer (some ⟨p, 0, none⟩), txt k] w fun e w' => e = .returned (.bool true) ∧ ∃ o', SpI o' w' q p (S.del k) c.touch ∧ Stp q o w o' w' := by
  obtain ⟨m, d, a, kvs, h⟩ := h
  have hv := h.vals k
  rw [hS] at hv
  cases hm : mfind kvs k with
  | none => rw [hm] at hv; exact hv.elim
  | some u =>
    rw [hm] at hv
    obtain ⟨l, f, r, rfl, hv3, hsm⟩ := hv
    have hlk := run_look (P := Tryz.prog) h.keys Tryz.underlying71 Tryz.underlying9 k true (zeroHd _)
    rw [hm] at hlk
    obtain ⟨a1, c1, rfl, _⟩ := hv3.list.slice
    obtain ⟨a2, c2, rfl, _⟩ := hv3.fields.slice
    obtain ⟨a3, c3, rfl, _⟩ := hv3.ranked.slice
    obtain ⟨⟨kind, text, list, fields, ranked⟩, due, ver⟩ := H
    have hcl := h.blk.cell
    have h := h.from (r := q ++ [3])
    have hst := Stp.from0 q o w (q ++ [3])
    have hnew : ∀ b, w.heap.size ≤ b → o.from w.heap.size (q ++ [3]) b = q ++ [3] := fun b hb => Roles.from_new hb
    generalize o.from w.heap.size (q ++ [3]) = o1 at *
    obtain ⟨w1, hw1⟩ : ∃ w1, w1 = w.alloc (.cells #[.int .i64 kind, .string ⟨text.toArray⟩, .slice a1 list.length c1, .slice a2 fields.length c2, .slice a3 ranked.length c3, .int .i64 due, .int .u64 ver] 88) := ⟨_, rfl⟩
    have hB : Below w.heap.size w w1 := by rw [hw1]; exact (Below.refl _ _).alloc (Nat.le_refl _) _
    have HR1 := Lib.hid (h.below hB)
    have HST := Lib.hid (hst.trans (Stp.ofBelow q o1 hB))
    clear h hm hS hv3 hsm hst hnew hB
    unfold txt at *
    simp only [Option.getD_some, Option.isSome_some, if_true] at hlk
    go_enter Tryz.func34, Tryz.ntmps34
    go_wp2_with fail
    rw [← hw1]
    clear hw1 hlk hcl
    refine (touch_ok HR1.out k hc).mono ?_; rintro e w3 ⟨rfl, hw3⟩
    have hR3 : SpR o1 w3 q p m d a kvs S c.touch := by rw [hw3]; exact HR1.out.touched
    have hST3 : Stp q o1 w1 o1 w3 := by rw [hw3]; exact (Stp.refl q o1 w1).setCell (by show q <+: o1 p; rw [HR1.out.blk.role]; exact List.prefix_refl _) _
    have HR3 := Lib.hid hR3
    have HST3 := Lib.hid (HST.out.trans hST3)
    clear hw3 hR3 hST3 HST HR1
    go_wp2_with fail
    refine (free_ok HR3.out k hfew).mono ?_; rintro e w4 ⟨rfl, o4, kvs4, hR4, st4⟩
    have HR4 := Lib.hid hR4
    have HST4 := Lib.hid (HST3.out.trans st4.stp)
    clear hR4 st4 HR3 HST3
    go_wp2_with fail
    refine (note_ok HR4.out _ _ _ _ _ _ _ _).mono ?_
    rintro e w6 ⟨rfl, hB6⟩
    have HB6 := Lib.hid hB6
    clear hB6
    go_wp2_with fail
    go_ret
    exact ⟨rfl, o4, ⟨m, d, a, _, HR4.out.below HB6.out⟩, HST4.out.trans (Stp.ofBelow q o4 HB6.out)⟩
end
end Go.Proofs.YtcgecgilkapjaaaGreatDoor
namespace Go.Proofs.YtcgecgilkapjaaaGreatDoor
open Go Go.RowKit
/-! The space as the layers above meet it: what a key holds at a tick. -/
def SpJ (o : Roles) (w : World) (q : List Nat) (p : Nat) (S : SP) (c : Cnt) : Prop := SpI o w q p S c
section
variable {o o' : Roles} {w w' : World} {q s : List Nat} {p : Nat} {c : Cnt} {S : SP}
theorem SpJ.keep (h : SpJ o w q p S c) (st : Stp s o w o' w') (hn : Apart s q) : SpJ o' w' q p S c := SpI.keep h st hn
theorem SpJ.below (h : SpJ o w q p S c) (hB : Below w.heap.size w w') : SpJ o w' q p S c := SpI.below h hB
theorem SpJ.drewN (h : SpJ o w q p S c) (k : Nat) : SpJ o (w.drewN k) q p S c := SpI.drewN h k
theorem SpJ.role (h : SpJ o w q p S c) : o p = q ∧ p < w.heap.size := by
  obtain ⟨m, d, a, kvs, h⟩ := h
  exact ⟨h.blk.role, h.blk.lt⟩
theorem SpJ.mono (h : SpJ o w q p S c) {n : Nat} (hn : c.few ≤ n) : SpJ o w q p S ⟨c.num, n⟩ := by
  obtain ⟨m, d, a, kvs, h⟩ := h
  exact ⟨m, d, a, kvs, h.blk, h.keys, h.nodup, h.due.mono hn, h.vals, h.lim⟩
theorem SpJ.lim (h : SpJ o w q p S c) {k : List UInt8} {H : Hd} (e : S k = some H) : 0 ≤ H.due ∧ H.due ≤ 9007199254740992 := by
  obtain ⟨m, d, a, kvs, h⟩ := h
  exact h.lim k H e
theorem SpJ.lim' (h : SpJ o w q p S c) (now : Int) (k : List UInt8) : 0 ≤ ((S.at now k).getD hd0).due ∧ ((S.at now k).getD hd0).due ≤ 9007199254740992 := by
  cases e : S.at now k with
  | none => exact ⟨by decide, by decide⟩
  | some H => exact h.lim (SP.at_some e).1
theorem SpJ.small (h : SpJ o w q p S c) {now : Int} {k : List UInt8} {H : Hd} (e : S.at now k = some H) : VSmall H.v := by
  have e := (SP.at_some e).1
  obtain ⟨m, d, a, kvs, h⟩ := h
  have hv := h.vals k
  rw [e] at hv
  cases hm : mfind kvs k with
  | none => rw [hm] at hv; exact hv.elim
  | some u => rw [hm] at hv; obtain ⟨_, _, _, _, _, hs⟩ := hv; exact hs
theorem small0 : VSmall hd0.v := ⟨by simp, by simp, by simp, by simp⟩
theorem SpJ.small' (h : SpJ o w q p S c) (now : Int) (k : List UInt8) : VSmall ((S.at now k).getD hd0).v := by
  cases e : S.at now k with
  | none => exact small0
  | some H => exact h.small e
theorem jnew_ok (o : Roles) (w : World) (q : List Nat) : Calls Tryz.prog 12 #[] w fun e w' => ∃ p o', e = .returned (.pointer (some ⟨p, 0, none⟩)) ∧ SpJ o' w' q p (fun _ => none) ⟨0, 0⟩ ∧ Stp q o w o' w' := new_ok o w q
theorem jget_ok (h : SpJ o w q p S c) (k : List UInt8) (now : Int) : Calls Tryz.prog 182 #[.pointer (some ⟨p, 0, none⟩), txt k, .int .i64 now] w (GetDid w ((S.at now k).getD hd0).v (S.at now k).isSome) := get_ok h k now
def DueDid (w : World) (H : Option Hd) (e : Ending) (w' : World) : Prop := e = .returned (.tuple #[.int .i64 (H.getD hd0).due, .bool H.isSome]) ∧ Below w.heap.size w w'
theorem jdue_ok (h : SpJ o w q p S c) (k : List UInt8) (now : Int) : Calls Tryz.prog 179 #[.pointer (some ⟨p, 0, none⟩), txt k, .int .i64 now] w (DueDid w (S.at now k)) := due_ok h k now
def PutJ (o : Roles) (w : World) (q : List Nat) (p : Nat) (S : SP) (c : Cnt) (e : Ending) (w' : World) : Prop :=
  e = .returned (.int .i64 0) ∧ ∃ o', SpJ o' w' q p S c ∧ Stp q o w o' w'
theorem jput_ok {A : Nat → Prop} {V : VV} {l f r : Value} (h : SpJ o w q p S c) (k : List UInt8) (hv : Val3 A w V l f r) (hs : VSmall V) (hA : ∀ b, A b → b ≠ p) (due : Int) (hd : 0 ≤ due ∧ due ≤ 9007199254740992)
    (hck : ∀ W, Below w.heap.size w W → Calls Tryz.prog 39 #[valV V l f r] W fun e w' => e = .returned (.int .i64 0) ∧ Below W.heap.size W w') (hc : c.num ≤ 4611686018427387904) (hf : c.few ≤ 1099511627776) :
    Calls Tryz.prog 184 #[.pointer (some ⟨p, 0, none⟩), txt k, valV V l f r, .int .i64 due] w (PutJ o w q p (S.put k ⟨V, due, c.num + 1⟩) c.next) :=
  put_ok h k hv hs hA due hd.1 hd.2 hck hc hf
theorem jdrop_ok (h : SpJ o w q p S c) (k : List UInt8) {H : Hd} (hS : S k = some H) (hc : c.num ≤ 4611686018427387904) (hf : c.few ≤ 1099511627777) :
    Calls Tryz.prog 34 #[.pointer (some ⟨p, 0, none⟩), txt k] w fun e w' => e = .returned (.bool true) ∧ ∃ o', SpJ o' w' q p (S.del k) c.touch ∧ Stp q o w o' w' := drop_some h k hS hc hf
end
/-- A role that no block bears. -/
theorem fresh_role (o : Roles) : ∀ n : Nat, ∃ m, ∀ b, b < n → ¬ [m] <+: o b := by
  have h : ∀ n : Nat, ∃ m, ∀ b, b < n → ∀ k t, o b = k :: t → k < m := by
    intro n
    induction n with
    | zero => exact ⟨0, fun b hb => absurd hb (Nat.not_lt_zero _)⟩
    | succ n ih =>
      obtain ⟨m, hm⟩ := ih
      refine ⟨m + (o n).headD 0 + 1, fun b hb k t e => ?_⟩
      rcases Nat.lt_succ_iff_lt_or_eq.1 hb with h | rfl
      · have := hm b h k t e; omega
      · rw [e]; simp; omega
  intro n
  obtain ⟨m, hm⟩ := h n
  refine ⟨m, fun b hb hp => ?_⟩
  cases e : o b with
  | nil => rw [e] at hp; simp at hp
  | cons k t =>
    rw [e, List.cons_prefix_cons] at hp
    have := hm b hb k t e
    omega
/-- A step at blocks of a role that no old block bears. -/
theorem Stp.hide {q r : List Nat} {o o1 o2 : Roles} {w w1 w2 : World} (h1 : Stp q o w o1 w1) (h2 : Stp r o1 w1 o2 w2) (hr : ∀ b, b < w.heap.size → ¬ r <+: o b) : Stp q o w o2 w2 :=
  ⟨h2.os.trans h1.os, h2.tape.trans h1.tape, h2.output.trans h1.output, Nat.le_trans h1.size h2.size,
   fun b hb => (h2.old b (Nat.lt_of_lt_of_le hb h1.size)).trans (h1.old b hb),
   fun b hb hq => (h2.block b (Nat.lt_of_lt_of_le hb h1.size) (by rw [h1.old b hb]; exact hr b hb)).trans (h1.block b hb hq)⟩
theorem apart_fresh {m : Nat} {o : Roles} {n p : Nat} {q : List Nat} (hm : ∀ b, b < n → ¬ [m] <+: o b) (hp : p < n) (hq : o p = q) (h0 : q ≠ []) : Apart [m] q := by
  intro t ht
  cases q with
  | nil => exact h0 rfl
  | cons a s =>
    rw [List.cons_append, List.cons_prefix_cons] at ht
    exact hm p hp (by rw [hq, List.cons_prefix_cons]; exact ⟨ht.1, List.nil_prefix⟩)
theorem apart_fresh' {m : Nat} {o : Roles} {n p : Nat} {q : List Nat} (hm : ∀ b, b < n → ¬ [m] <+: o b) (hp : p < n) (hq : o p = q) (h0 : q ≠ []) : Apart q [m] := by
  intro t ht
  cases q with
  | nil => exact h0 rfl
  | cons a s =>
    rw [List.cons_append, List.cons_prefix_cons] at ht
    exact hm p hp (by rw [hq, List.cons_prefix_cons]; exact ⟨ht.1.symm, List.nil_prefix⟩)
end Go.Proofs.YtcgecgilkapjaaaGreatDoor
