import Derived.Test.YtgmmeeikjofefaaGreatDoorCp
namespace Go.Proofs.YtgmmeeikjofefaaGreatDoor
open Go Go.RowKit
/-! The space: what a key holds, and the relation to the memory (no mark, no deadlines). -/
theorem mfind_put (kvs : KV) (k : List UInt8) (v : Value) (j : List UInt8) : mfind (mput kvs k v) j = if j = k then some v else mfind kvs j := by
  induction kvs with
  | nil => unfold mput mfind mfind; rfl
  | cons p t ih =>
    obtain ⟨q, u⟩ := p
    unfold mput
    by_cases hq : k = q
    · subst hq
      rw [if_pos rfl]
      unfold mfind
      by_cases hj : j = k
      · rw [if_pos hj, if_pos hj]
      · rw [if_neg hj, if_neg hj, if_neg hj]
    · rw [if_neg hq]
      unfold mfind
      rw [ih]
      by_cases hj : j = q
      · subst hj; rw [if_pos rfl, if_pos rfl, if_neg (fun e => hq e.symm)]
      · rw [if_neg hj, if_neg hj]
theorem mfind_none {kvs : KV} {k : List UInt8} (h : k ∉ kvs.map Prod.fst) : mfind kvs k = none := by
  induction kvs with
  | nil => rfl
  | cons p t ih =>
    obtain ⟨q, u⟩ := p
    simp only [List.map_cons, List.mem_cons, not_or] at h
    unfold mfind
    rw [if_neg h.1, ih h.2]
theorem mfind_mem {kvs : KV} {k : List UInt8} {u : Value} (h : mfind kvs k = some u) : k ∈ kvs.map Prod.fst := by
  by_cases hm : k ∈ kvs.map Prod.fst
  · exact hm
  · rw [mfind_none hm] at h; cases h
theorem mfind_del {kvs : KV} (hn : (kvs.map Prod.fst).Nodup) (k j : List UInt8) : mfind (mdel kvs k) j = if j = k then none else mfind kvs j := by
  induction kvs with
  | nil => unfold mdel mfind; simp
  | cons p t ih =>
    obtain ⟨q, u⟩ := p
    simp only [List.map_cons, List.nodup_cons] at hn
    unfold mdel
    by_cases hq : k = q
    · subst hq
      rw [if_pos rfl]
      by_cases hj : j = k
      · subst hj; rw [if_pos rfl, mfind_none hn.1]
      · rw [if_neg hj]
        conv => rhs; unfold mfind
        rw [if_neg hj]
    · rw [if_neg hq]
      unfold mfind
      rw [ih hn.2]
      by_cases hj : j = q
      · subst hj; rw [if_pos rfl, if_pos rfl, if_neg (fun e => hq e.symm)]
      · rw [if_neg hj, if_neg hj]
theorem keys_put (kvs : KV) (k : List UInt8) (v : Value) : (mput kvs k v).map Prod.fst = if k ∈ kvs.map Prod.fst then kvs.map Prod.fst else kvs.map Prod.fst ++ [k] := by
  induction kvs with
  | nil => rfl
  | cons p t ih =>
    obtain ⟨q, u⟩ := p
    unfold mput
    by_cases hq : k = q
    · subst hq; simp
    · rw [if_neg hq]
      simp only [List.map_cons, ih, List.mem_cons, hq, false_or]
      split <;> simp
theorem nodup_put {kvs : KV} (hn : (kvs.map Prod.fst).Nodup) (k : List UInt8) (v : Value) : ((mput kvs k v).map Prod.fst).Nodup := by
  rw [keys_put]
  split
  · exact hn
  · rename_i h
    rw [List.nodup_append]
    refine ⟨hn, by simp, fun a ha b hb => ?_⟩
    rw [List.mem_singleton] at hb
    subst hb
    intro e; subst e; exact h ha
theorem keys_del (kvs : KV) (k : List UInt8) : ((mdel kvs k).map Prod.fst).Sublist (kvs.map Prod.fst) := by
  induction kvs with
  | nil => exact List.Sublist.refl _
  | cons p t ih =>
    obtain ⟨q, u⟩ := p
    unfold mdel
    split
    · exact List.sublist_cons_self _ _
    · exact List.Sublist.cons_cons _ ih
structure Hd where
  v : VV
  due : Int
  ver : Nat
abbrev SP := List UInt8 → Option Hd
abbrev hdV (h : Hd) (l f r : Value) : Value := .agg #[.int .i64 h.v.kind, .string ⟨h.v.text.toArray⟩, l, f, r, .int .i64 h.due, .int .u64 h.ver]
def HdIs (A : Nat → Prop) (w : World) : Option Value → Option Hd → Prop
  | none, none => True
  | some u, some h => ∃ l f r, u = hdV h l f r ∧ Val3 A w h.v l f r ∧ VSmall h.v
  | _, _ => False
section
variable {A B : Nat → Prop} {o o' : Roles} {w w' : World} {q : List Nat} {x : Option Value} {y : Option Hd}
theorem HdIs.map {B : Nat → Prop} (h : HdIs A w x y) (hv : ∀ V l f r, Val3 A w V l f r → Val3 B w' V l f r) : HdIs B w' x y := by
  cases x with
  | none => cases y with
    | none => exact trivial
    | some y => exact h
  | some x => cases y with
    | none => exact h
    | some y => obtain ⟨l, f, r, h1, h2, h3⟩ := h; exact ⟨l, f, r, h1, hv _ _ _ _ h2, h3⟩
theorem HdIs.none_iff (h : HdIs A w x y) : x = none ↔ y = none := by
  cases x <;> cases y <;> simp_all [HdIs]
end
abbrev spC (m d c a : Nat) : Array Value := #[.map (some m), .pointer (some ⟨d, 0, none⟩), .int .u64 c, .bool false, .map none, .int .u64 a, .slice none 0 0]
/-- Block p is a space with no mark and no deadlines that holds S; c touches so far. -/
structure SpR (o : Roles) (w : World) (q : List Nat) (p m d m2 a : Nat) (kvs : KV) (S : SP) (c : Nat) : Prop where
  blk : Blk o w q p (spC m d c a) 74
  keys : MBlk o w (q ++ [0]) m kvs
  nodup : (kvs.map Prod.fst).Nodup
  dblk : Blk o w (q ++ [1]) d #[.map (some m2), .slice none 0 0] 105
  dmap : MBlk o w (q ++ [2]) m2 []
  vals : ∀ k, HdIs (fun b => o b = q ++ [3]) w (mfind kvs k) (S k)
  due0 : ∀ k h, S k = some h → h.due = 0
def SpI (o : Roles) (w : World) (q : List Nat) (p : Nat) (S : SP) (c : Nat) : Prop := ∃ m d m2 a kvs, SpR o w q p m d m2 a kvs S c
section
variable {o o' : Roles} {w w' : World} {q s : List Nat} {p m d m2 a c : Nat} {kvs : KV} {S : SP}
theorem SpR.keep (h : SpR o w q p m d m2 a kvs S c) (st : Stp s o w o' w') (hn : Apart s q) : SpR o' w' q p m d m2 a kvs S c :=
  ⟨h.blk.keep st (by simpa using hn []), h.keys.keep st (hn _), h.nodup, h.dblk.keep st (hn _), h.dmap.keep st (hn _), fun k => (h.vals k).map fun _ _ _ _ hv => hv.keep st (hn _), h.due0⟩
theorem SpI.keep (h : SpI o w q p S c) (st : Stp s o w o' w') (hn : Apart s q) : SpI o' w' q p S c := by
  obtain ⟨m, d, m2, a, kvs, h⟩ := h
  exact ⟨m, d, m2, a, kvs, h.keep st hn⟩
theorem SpR.below (h : SpR o w q p m d m2 a kvs S c) (hB : Below w.heap.size w w') : SpR o w' q p m d m2 a kvs S c :=
  ⟨h.blk.below hB, h.keys.below hB, h.nodup, h.dblk.below hB, h.dmap.below hB, fun k => (h.vals k).map fun _ _ _ _ hv => hv.below hB, h.due0⟩
theorem SpI.below (h : SpI o w q p S c) (hB : Below w.heap.size w w') : SpI o w' q p S c := by
  obtain ⟨m, d, m2, a, kvs, h⟩ := h
  exact ⟨m, d, m2, a, kvs, h.below hB⟩
theorem SpI.drewN (h : SpI o w q p S c) (k : Nat) : SpI o (w.drewN k) q p S c := h.below (below_drewN (Below.refl _ _) k)
end
theorem run_mk {P : Program} (t : TypeId) (w : World) : (Instr.makeMap t none).run P w = .ok (.map (some w.heap.size)) (w.alloc (.map #[] 0)) := by
  simp [Instr.makeMap]
set_option maxRecDepth 10000 in
theorem dueNew_ok (w : World) : Calls Tryz.prog 33 #[] w fun e w' => e = .returned (.pointer (some ⟨w.heap.size + 1, 0, none⟩)) ∧ w' = (w.alloc (.map #[] 0)).alloc (.cells #[.map (some w.heap.size), .slice none 0 0] 105) := by
  have hmk := run_mk (P := Tryz.prog) 102
  go_enter Tryz.func33, Tryz.ntmps33
  go_wp2
  go_ret
  exact ⟨by simp, rfl⟩
set_option maxRecDepth 10000 in
theorem new_ok (o : Roles) (w : World) (q : List Nat) : Calls Tryz.prog 10 #[] w fun e w' => ∃ p o', e = .returned (.pointer (some ⟨p, 0, none⟩)) ∧ SpI o' w' q p (fun _ => none) 0 ∧ Stp q o w o' w' := by
  have hmk := run_mk (P := Tryz.prog) 69
  go_enter Tryz.func10, Tryz.ntmps10
  go_wp2_with fail
  refine (dueNew_ok _).mono ?_; rintro e w1 ⟨rfl, rfl⟩
  go_wp2_with fail
  go_ret
  have h0 : (w.alloc (.map #[] 0)).heap.size = w.heap.size + 1 := by simp
  have hm := MBlk.new o w (q ++ [0]) w.heap.size rfl
  have s1 := (Stp.refl q o w).alloc (r' := q ++ [0]) (.map #[] 0) w.heap.size rfl
  have hm2 := MBlk.new (o.put w.heap.size (q ++ [0])) (w.alloc (.map #[] 0)) (q ++ [2]) (w.heap.size + 1) h0.symm
  have s2 := s1.alloc (r' := q ++ [2]) (.map #[] 0) (w.heap.size + 1) h0.symm
  have hm' := hm.alloc (.map #[] 0) (w.heap.size + 1) (q ++ [2]) h0.symm
  have h1 : ((w.alloc (.map #[] 0)).alloc (.map #[] 0)).heap.size = w.heap.size + 2 := by simp
  have hd := Blk.new ((o.put w.heap.size (q ++ [0])).put (w.heap.size + 1) (q ++ [2])) ((w.alloc (.map #[] 0)).alloc (.map #[] 0)) (q ++ [1]) #[.map (some (w.heap.size + 1)), .slice none 0 0] 105 (w.heap.size + 2) h1.symm
  have s3 := s2.alloc (r' := q ++ [1]) (.cells #[.map (some (w.heap.size + 1)), .slice none 0 0] 105) (w.heap.size + 2) h1.symm
  have hm'' := hm'.alloc (.cells #[.map (some (w.heap.size + 1)), .slice none 0 0] 105) (w.heap.size + 2) (q ++ [1]) h1.symm
  have hm2' := hm2.alloc (.cells #[.map (some (w.heap.size + 1)), .slice none 0 0] 105) (w.heap.size + 2) (q ++ [1]) h1.symm
  have hd' := hd
  have h2 : (((w.alloc (.map #[] 0)).alloc (.map #[] 0)).alloc (.cells #[.map (some (w.heap.size + 1)), .slice none 0 0] 105)).heap.size = w.heap.size + 3 := by simp
  have hp := Blk.new (((o.put w.heap.size (q ++ [0])).put (w.heap.size + 1) (q ++ [2])).put (w.heap.size + 2) (q ++ [1])) (((w.alloc (.map #[] 0)).alloc (.map #[] 0)).alloc (.cells #[.map (some (w.heap.size + 1)), .slice none 0 0] 105)) q (spC w.heap.size (w.heap.size + 2) 0 0) 74 (w.heap.size + 3) h2.symm
  exact ⟨w.heap.size + 3, _, rfl, ⟨w.heap.size, w.heap.size + 2, w.heap.size + 1, 0, [], hp, hm''.alloc _ _ q h2.symm, List.nodup_nil, hd'.alloc _ _ q h2.symm, hm2'.alloc _ _ q h2.symm, fun k => trivial, fun k h hh => by cases hh⟩, s3.alloc (r' := q) _ (w.heap.size + 3) h2.symm⟩
end Go.Proofs.YtgmmeeikjofefaaGreatDoor
