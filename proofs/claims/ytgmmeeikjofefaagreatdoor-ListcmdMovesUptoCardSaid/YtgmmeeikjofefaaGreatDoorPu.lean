import Derived.Test.YtgmmeeikjofefaaGreatDoorCk
import Derived.StillTailTactics
namespace Go.Proofs.YtgmmeeikjofefaaGreatDoor
open Go Go.RowKit
/-! Space.Put and Space.Drop. -/
/-- All blocks from base on are to have role r. -/
def Roles.from (o : Roles) (base : Nat) (r : List Nat) : Roles := fun b => if base ≤ b then r else o b
theorem Roles.from_new {o : Roles} {base b : Nat} {r : List Nat} (h : base ≤ b) : o.from base r b = r := if_pos h
theorem Roles.from_old {o : Roles} {base b : Nat} {r : List Nat} (h : b < base) : o.from base r b = o b := if_neg (by omega)
theorem Stp.from0 (s : List Nat) (o : Roles) (w : World) (r : List Nat) : Stp s o w (o.from w.heap.size r) w := ⟨rfl, rfl, rfl, Nat.le_refl _, fun _ hb => Roles.from_old hb, fun _ _ _ => rfl⟩
section
variable {o : Roles} {w w' : World} {q s : List Nat} {p m d m2 a c : Nat} {kvs : KV} {S : SP}
theorem Blk.from {b : Nat} {cs : Array Value} {T : TypeId} {r : List Nat} (h : Blk o w s b cs T) : Blk (o.from w.heap.size r) w s b cs T := ⟨h.heap, by rw [Roles.from_old h.lt]; exact h.role⟩
theorem MBlk.from {b : Nat} {r : List Nat} (h : MBlk o w s b kvs) : MBlk (o.from w.heap.size r) w s b kvs := ⟨h.heap, by rw [Roles.from_old h.lt]; exact h.role⟩
theorem Vw.from {v : Value} {sz n : Nat} {xs : List Value} {r : List Nat} (h : Vw (fun b => o b = s) w v sz n xs) : Vw (fun b => o.from w.heap.size r b = s) w v sz n xs := by
  obtain ⟨⟨a, cap, h1, h2, h3, h4⟩, h5⟩ := h
  refine ⟨⟨a, cap, h1, h2, h3, ?_⟩, h5⟩
  rcases h4 with h4 | ⟨b, off, g1, g2, g3, g4⟩
  · exact .inl h4
  · exact .inr ⟨b, off, g1, g2, by rw [Roles.from_old g2]; exact g3, g4⟩
theorem SpR.from {r : List Nat} (h : SpR o w q p m d m2 a kvs S c) : SpR (o.from w.heap.size r) w q p m d m2 a kvs S c :=
  ⟨h.blk.from, h.keys.from, h.nodup, h.dblk.from, h.dmap.from, fun k => (h.vals k).map fun _ _ _ _ hv => ⟨hv.list.from, hv.fields.from, hv.ranked.from⟩, h.due0⟩
end
def SP.put (S : SP) (k : List UInt8) (h : Hd) : SP := fun j => if j = k then some h else S j
def SP.del (S : SP) (k : List UInt8) : SP := fun j => if j = k then none else S j
theorem np0 {q : List Nat} {a b : Nat} (h : a ≠ b) : ¬ q ++ [a] <+: q ++ [b] := by
  rw [List.prefix_append_right_inj]
  simp [h]
theorem np1 {q : List Nat} {a : Nat} : ¬ q ++ [a] <+: q := by
  intro h
  have := h.length_le
  simp at this
  omega
theorem zeroInt (w : World) : (zeroValue 3).run Tryz.prog w = .ok (.int .i64 0) w := by
  have hI : (Tryz.prog.info? 3).map (fun i => (i.zero, i.size, i.bytes)) = some (some (.int .i64 0), 1, 8) := by kernel_rfl
  obtain ⟨i, hi, hz, _, _⟩ := info_parts hI
  simp [zeroValue, typeInfo, hi, hz]
set_option maxRecDepth 10000 in
theorem dueDrop_none {o : Roles} {w : World} {r r2 : List Nat} {d m2 : Nat} (hd : Blk o w r d #[.map (some m2), .slice none 0 0] 105) (hm : MBlk o w r2 m2 []) (k : List UInt8) :
    Calls Tryz.prog 135 #[.pointer (some ⟨d, 0, none⟩), txt k] w fun e w' => e = .returned (.bool false) ∧ w' = w := by
  have hlk := run_look (P := Tryz.prog) hm Tryz.underlying102 Tryz.underlying9 k true (zeroInt _)
  have hc := hd.cell
  clear hd hm
  unfold txt at *
  simp only [mfind, Option.getD_none, Option.isSome_none, if_true] at hlk
  go_enter Tryz.func135, Tryz.ntmps135
  go_wp2
  go_ret
  exact ⟨rfl, rfl⟩
set_option maxRecDepth 10000 in
theorem tick_ok (w : World) (n : Int) (h0 : 0 ≤ n) (h1 : n ≤ 9007199254740992) : Calls Tryz.prog 88 #[.int .i64 n] w fun e w' => e = .returned (.bool true) ∧ w' = w := by
  have d0 : decide (0 ≤ n) = true := decide_eq_true h0
  have d1 : decide (n ≤ 9007199254740992) = true := decide_eq_true h1
  go_enter Tryz.func88, Tryz.ntmps88
  go_wp2
  go_ret
  exact ⟨rfl, rfl⟩
section
variable {o : Roles} {w : World} {q : List Nat} {p m d m2 a c : Nat} {kvs : KV} {S : SP}
theorem SpR.touched (h : SpR o w q p m d m2 a kvs S c) : SpR o (w.setCell ⟨p, 2, none⟩ (.int .u64 ((c + 1 : Nat) : Int))) q p m d m2 a kvs S (c + 1) := by
  have hr := h.blk.role
  have st : Stp q o w o (w.setCell ⟨p, 2, none⟩ (.int .u64 ((c + 1 : Nat) : Int))) := (Stp.refl q o w).setCell (by show q <+: o p; rw [hr]; exact List.prefix_refl _) _
  refine ⟨h.blk.setCell 2 _, h.keys.setCell _ _ (by rw [hr]; simp), h.nodup, h.dblk.setOther _ _ (fun e => ?_), h.dmap.setCell _ _ (by rw [hr]; simp), fun k => (h.vals k).map fun _ _ _ _ hv => hv.stay (by simp) (fun b hb _ => heap_set_far (fun e => ?_)), h.due0⟩
  · have h2 := h.dblk.role
    rw [e] at h2
    have h3 : o p = q ++ [1] := h2
    rw [hr] at h3
    simp at h3
  · have h3 : o p = q ++ [3] := by rw [← hb]; exact congrArg o e.symm
    rw [hr] at h3
    simp at h3
set_option maxRecDepth 10000 in
theorem touch_ok (h : SpR o w q p m d m2 a kvs S c) (k : List UInt8) (hc : c ≤ 4611686018427387904) : Calls Tryz.prog 89 #[.pointer (some ⟨p, 0, none⟩), txt k] w fun e w' => e = .returned (.tuple #[]) ∧ w' = w.setCell ⟨p, 2, none⟩ (.int .u64 ((c + 1 : Nat) : Int)) := by
  have hcl := h.blk.cell
  have hf := h.blk.free
  have e0 : IntKind.u64.wrap ((c : Int) + 1) = (c : Int) + 1 := by rw [IntKind.wrap_u64]; omega
  clear h
  unfold txt
  go_enter Tryz.func89, Tryz.ntmps89
  go_wp2
  exact bodyPost_ret (v := .tuple #[]) (by simp [results, Tryz.results89]) rfl ⟨rfl, by simp⟩
set_option maxRecDepth 10000 in
theorem note_ok (h : SpR o w q p m d m2 a kvs S c) (x0 x1 x2 x3 x4 x5 x6 x7 : Value) : Calls Tryz.prog 92 #[.pointer (some ⟨p, 0, none⟩), .agg #[x0, x1, x2, x3, x4, x5, x6, x7]] w fun e w' => e = .returned (.tuple #[]) ∧ Below w.heap.size w w' := by
  have hcl := h.blk.cell
  have hl := h.blk.lt
  clear h
  go_enter Tryz.func92, Tryz.ntmps92
  go_wp2
  go_end0
  exact ⟨rfl, (Below.refl _ _).alloc (Nat.le_refl _) _⟩
set_option maxRecDepth 10000 in
set_option maxHeartbeats 1000000 in
theorem lay_ok (h : SpR o w q p m d m2 a kvs S c) (hpool : ∀ b, w.heap.size ≤ b → o b = q ++ [3]) (k : List UInt8) {H : Hd} {l f r : Value} (hv : Val3 (fun b => o b = q ++ [3]) w H.v l f r) (hs : VSmall H.v) (hd : H.due = 0) :
    Calls Tryz.prog 90 #[.pointer (some ⟨p, 0, none⟩), txt k, hdV H l f r] w fun e w' => e = .returned (.tuple #[]) ∧ (∃ kvs', SpR o w' q p m d m2 a kvs' (S.put k H) c) ∧ Stp (q ++ [0]) o w o w' := by
  obtain ⟨a1, c1, e1, _⟩ := hv.list.slice
  obtain ⟨a2, c2, e2, _⟩ := hv.fields.slice
  obtain ⟨a3, c3, e3, _⟩ := hv.ranked.slice
  subst e1 e2 e3
  obtain ⟨w1, hw1⟩ : ∃ w1, w1 = w.alloc (.cells #[.int .i64 H.v.kind, .string ⟨H.v.text.toArray⟩, .slice a1 H.v.list.length c1, .slice a2 H.v.fields.length c2, .slice a3 H.v.ranked.length c3, .int .i64 H.due, .int .u64 H.ver] 95) := ⟨_, rfl⟩
  have hB : Below w.heap.size w w1 := by rw [hw1]; exact (Below.refl _ _).alloc (Nat.le_refl _) _
  have h1 := h.below hB
  have hv1 := hv.below hB
  have hbx : Blk o w1 (q ++ [3]) w.heap.size #[.int .i64 H.v.kind, .string ⟨H.v.text.toArray⟩, .slice a1 H.v.list.length c1, .slice a2 H.v.fields.length c2, .slice a3 H.v.ranked.length c3, .int .i64 H.due, .int .u64 H.ver] 95 := ⟨by rw [hw1]; exact heap_alloc_new w _, hpool _ (Nat.le_refl _)⟩
  have HB := Lib.hid hB
  have H1 := Lib.hid (h1.below (Below.refl _ w1).drew)
  have HV := Lib.hid (hv1.below (Below.refl _ w1).drew)
  have HX := Lib.hid hbx
  have hc := h1.blk.cell
  have hbc := hbx.cell
  have hst := Lib.hid (Stp.ofBelow (q ++ [0]) o hB).drew
  obtain ⟨⟨kind, text, list, fields, ranked⟩, due, ver⟩ := H
  dsimp only at hd
  subst hd
  clear h hv hB h1 hv1 hbx
  unfold txt at *
  go_enter Tryz.func90, Tryz.ntmps90
  go_wp2_with fail
  rw [← hw1]
  clear hw1
  go_still_tail 6, (by kernel_rfl)
  change wpList _ _ _ _ _ (World.drew w1)
  refine wpList_put rfl _ _ _ 69 rfl Tryz.underlying69 Tryz.underlying9 H1.out.keys rfl (k := k) rfl rfl ?_
  intro w2 hm2 st2
  have hr2 : SpR o w2 q p m d m2 a (mput kvs k (hdV ⟨⟨kind, text, list, fields, ranked⟩, 0, ver⟩ (.slice a1 list.length c1) (.slice a2 fields.length c2) (.slice a3 ranked.length c3))) (S.put k ⟨⟨kind, text, list, fields, ranked⟩, 0, ver⟩) c := by
    have h := H1.out
    refine ⟨h.blk.keep st2 np1, hm2, nodup_put h.nodup _ _, h.dblk.keep st2 (np0 (by decide)), h.dmap.keep st2 (np0 (by decide)), fun j => ?_, fun j y hy => ?_⟩
    · rw [mfind_put]
      unfold SP.put
      by_cases hj : j = k
      · rw [if_pos hj, if_pos hj]
        exact ⟨_, _, _, rfl, HV.out.keep st2 (np0 (by decide)), hs⟩
      · rw [if_neg hj, if_neg hj]
        exact (h.vals j).map fun _ _ _ _ hv => hv.keep st2 (np0 (by decide))
    · unfold SP.put at hy
      by_cases hj : j = k
      · rw [if_pos hj] at hy; cases hy; rfl
      · rw [if_neg hj] at hy; exact h.due0 j y hy
  have hbx2 : Blk o w2 (q ++ [3]) w.heap.size _ _ := Blk.keep (w := World.drew w1) ⟨HX.out.heap, HX.out.role⟩ st2 (np0 (by decide))
  have hc2 := hr2.blk.cell
  have hbc2 := hbx2.cell
  have HD := Lib.hid (dueDrop_none hr2.dblk hr2.dmap k)
  have HR2 := Lib.hid hr2
  have HS2 := Lib.hid (hst.out.trans st2)
  clear hr2 hbx2 st2 hm2 H1 HV HX hc hbc hst
  unfold txt at HD
  go_wp2_with fail
  refine HD.out.mono ?_; rintro e w3 ⟨rfl, rfl⟩
  go_wp2_with fail
  go_end0
  exact ⟨rfl, ⟨_, HR2.out⟩, HS2.out⟩
end
end Go.Proofs.YtgmmeeikjofefaaGreatDoor
