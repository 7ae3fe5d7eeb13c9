import Derived.Test.YtgmmeeikjofefaaGreatDoorSp
namespace Go.Proofs.YtgmmeeikjofefaaGreatDoor
open Go Go.RowKit
abbrev zHd : Value := .agg #[.int .i64 0, .string ⟨#[]⟩, .slice none 0 0, .slice none 0 0, .slice none 0 0, .int .i64 0, .int .u64 0]
abbrev zVal : Value := .agg #[.int .i64 0, .string ⟨#[]⟩, .slice none 0 0, .slice none 0 0, .slice none 0 0]
theorem infoHd : (Tryz.prog.info? 95).map (fun i => (i.zero, i.size, i.bytes)) = some (some zHd, 7, 112) := by kernel_rfl
theorem zeroHd (w : World) : (zeroValue 95).run Tryz.prog w = .ok zHd w := by
  obtain ⟨i, hi, hz, _, _⟩ := info_parts infoHd
  simp [zeroValue, typeInfo, hi, hz]
set_option maxRecDepth 10000 in
theorem over0_ok (w : World) (now : Int) : Calls Tryz.prog 99 #[.int .i64 0, .int .i64 now] w fun e w' => e = .returned (.bool false) ∧ w' = w := by
  go_enter Tryz.func99, Tryz.ntmps99
  go_wp2
  go_ret
  exact ⟨rfl, rfl⟩
section
variable {o : Roles} {w : World} {q : List Nat} {p c : Nat} {S : SP}
set_option maxRecDepth 10000 in
set_option maxHeartbeats 1000000 in
theorem seen_none (h : SpI o w q p S c) (k : List UInt8) (now : Int) (hS : S k = none) : Calls Tryz.prog 57 #[.pointer (some ⟨p, 0, none⟩), txt k, .int .i64 now] w fun e w' => e = .returned (.tuple #[zHd, .bool false]) ∧ Below w.heap.size w w' := by
  obtain ⟨m, d, m2, a, kvs, h⟩ := h
  have hm := (h.vals k).none_iff.2 hS
  have hlk := run_look (P := Tryz.prog) (h.keys.alloc (.cells #[.int .i64 0, .string ⟨#[]⟩, .slice none 0 0, .slice none 0 0, .slice none 0 0, .int .i64 0, .int .u64 0] 95) w.heap.size [] rfl) Tryz.underlying69 Tryz.underlying9 k true (zeroHd _)
  rw [hm] at hlk
  have hc := h.blk.cell
  have hl := h.blk.lt
  clear h hm hS
  unfold txt at *
  simp only [Option.getD_none, Option.isSome_none, if_true] at hlk
  go_enter Tryz.func57, Tryz.ntmps57
  go_wp2_with fail
  exact bodyPost_ret (v := .tuple #[zHd, .bool false]) (by simp [results, Tryz.results57, go_sem]) rfl ⟨rfl, ((Below.refl _ _).alloc (Nat.le_refl _) _).alloc (by simp) _⟩
def SeenDid (w : World) (h : Hd) (l f r : Value) (e : Ending) (w' : World) : Prop := e = .returned (.tuple #[hdV h l f r, .bool true]) ∧ Below w.heap.size w w'
set_option maxRecDepth 10000 in
set_option maxHeartbeats 1000000 in
theorem seen_some (h : SpI o w q p S c) (k : List UInt8) (now : Int) {H : Hd} (hS : S k = some H) : ∃ l f r, Val3 (fun b => o b = q ++ [3]) w H.v l f r ∧ VSmall H.v ∧ Calls Tryz.prog 57 #[.pointer (some ⟨p, 0, none⟩), txt k, .int .i64 now] w (SeenDid w H l f r) := by
  obtain ⟨m, d, m2, a, kvs, h⟩ := h
  have hv := h.vals k
  have h0 := h.due0 k H hS
  rw [hS] at hv
  cases hm : mfind kvs k with
  | none => rw [hm] at hv; exact hv.elim
  | some u =>
    rw [hm] at hv
    obtain ⟨l, f, r, rfl, hv3, hsm⟩ := hv
    refine ⟨l, f, r, hv3, hsm, ?_⟩
    have hlk := run_look (P := Tryz.prog) (h.keys.alloc (.cells #[.int .i64 0, .string ⟨#[]⟩, .slice none 0 0, .slice none 0 0, .slice none 0 0, .int .i64 0, .int .u64 0] 95) w.heap.size [] rfl) Tryz.underlying69 Tryz.underlying9 k true (zeroHd _)
    rw [hm] at hlk
    have hc := h.blk.cell
    have hl := h.blk.lt
    obtain ⟨a1, c1, rfl, _⟩ := hv3.list.slice
    obtain ⟨a2, c2, rfl, _⟩ := hv3.fields.slice
    obtain ⟨a3, c3, rfl, _⟩ := hv3.ranked.slice
    obtain ⟨⟨kind, text, list, fields, ranked⟩, due, ver⟩ := H
    dsimp only at h0 hlk
    subst h0
    clear h hm hS hv3 hsm
    unfold txt at *
    simp only [Option.getD_some, Option.isSome_some, if_true] at hlk
    go_enter Tryz.func57, Tryz.ntmps57
    go_wp2_with fail
    refine (over0_ok _ _).mono ?_; rintro e w1 ⟨rfl, rfl⟩
    go_wp2_with fail
    exact bodyPost_ret (v := .tuple #[hdV ⟨⟨kind, text, list, fields, ranked⟩, 0, ver⟩ (.slice a1 list.length c1) (.slice a2 fields.length c2) (.slice a3 ranked.length c3), .bool true]) (by simp [results, Tryz.results57, go_sem]) rfl ⟨rfl, ((Below.refl _ _).alloc (Nat.le_refl _) _).alloc (by simp) _⟩
abbrev hd0 : Hd := ⟨⟨0, [], [], [], []⟩, 0, 0⟩
theorem seen_any (h : SpI o w q p S c) (k : List UInt8) (now : Int) : ∃ a1 c1 a2 c2 a3 c3 l f r, Val3 (fun b => o b = q ++ [3]) w ((S k).getD hd0).v l f r ∧ VSmall ((S k).getD hd0).v ∧
    l = .slice a1 ((S k).getD hd0).v.list.length c1 ∧ f = .slice a2 ((S k).getD hd0).v.fields.length c2 ∧ r = .slice a3 ((S k).getD hd0).v.ranked.length c3 ∧
    Calls Tryz.prog 57 #[.pointer (some ⟨p, 0, none⟩), txt k, .int .i64 now] w fun e w' => e = .returned (.tuple #[hdV ((S k).getD hd0) l f r, .bool (S k).isSome]) ∧ Below w.heap.size w w' := by
  cases hS : S k with
  | none =>
    refine ⟨none, 0, none, 0, none, 0, _, _, _, ⟨Vw.nil _ _ _, Vw.nil _ _ _, Vw.nil _ _ _⟩, ⟨by simp, by simp, by simp, by simp⟩, rfl, rfl, rfl, ?_⟩
    exact seen_none h k now hS
  | some H =>
    obtain ⟨l, f, r, h1, h2, h3⟩ := seen_some h k now hS
    obtain ⟨a1, c1, e1, _⟩ := h1.list.slice
    obtain ⟨a2, c2, e2, _⟩ := h1.fields.slice
    obtain ⟨a3, c3, e3, _⟩ := h1.ranked.slice
    exact ⟨a1, c1, a2, c2, a3, c3, l, f, r, h1, h2, e1, e2, e3, h3⟩
def GetDid (w : World) (V : VV) (ok : Bool) (e : Ending) (w' : World) : Prop :=
  ∃ l f r, e = .returned (.tuple #[valV V l f r, .bool ok]) ∧ Val3 (fun b => w.heap.size ≤ b) w' V l f r ∧ Below w.heap.size w w'
set_option maxRecDepth 10000 in
set_option maxHeartbeats 1000000 in
theorem get_ok (h : SpI o w q p S c) (k : List UInt8) (now : Int) : Calls Tryz.prog 119 #[.pointer (some ⟨p, 0, none⟩), txt k, .int .i64 now] w (GetDid w ((S k).getD hd0).v (S k).isSome) := by
  have hB1 : Below w.heap.size w (w.alloc (.cells #[.int .i64 0, .string ⟨#[]⟩, .slice none 0 0, .slice none 0 0, .slice none 0 0] 49)) := (Below.refl _ _).alloc (Nat.le_refl _) _
  obtain ⟨a1, c1, a2, c2, a3, c3, l, f, r, hv, hsm, e1, e2, e3, hc⟩ := seen_any (h.below hB1) k now
  generalize (S k).getD hd0 = H at *
  generalize (S k).isSome = ok at *
  have hz : (w.alloc (.cells #[.int .i64 0, .string ⟨#[]⟩, .slice none 0 0, .slice none 0 0, .slice none 0 0] 49)).heap.size = w.heap.size + 1 := by simp
  have hd1 : Blk none0 (w.alloc (.cells #[.int .i64 0, .string ⟨#[]⟩, .slice none 0 0, .slice none 0 0, .slice none 0 0] 49)) [] w.heap.size #[.int .i64 0, .string ⟨#[]⟩, .slice none 0 0, .slice none 0 0, .slice none 0 0] 49 := ⟨heap_alloc_new w _, rfl⟩
  have HC := Lib.hid hc
  have HV := Lib.hid hv
  have HB := Lib.hid hB1
  have HD := Lib.hid hd1
  have HZ := Lib.hid hz
  clear h hc hv hB1 hd1 hz
  obtain ⟨⟨kind, text, list, fields, ranked⟩, due, ver⟩ := H
  dsimp only at e1 e2 e3 hsm
  subst e1 e2 e3
  unfold txt at *
  go_enter Tryz.func119, Tryz.ntmps119
  go_wp2_with fail
  refine HC.out.mono ?_; rintro e w2 ⟨rfl, hB2⟩
  have hB2' := Lib.hid (HB.out.trans (hB2.mono HB.out.size))
  have hz2 : w.heap.size + 1 ≤ w2.heap.size := by have := hB2.size; have := HZ.out; omega
  have HD2 := Lib.hid (HD.out.below hB2)
  have HCP := Lib.hid (copy_ok (HV.out.below (hB2.alloc (by have := hB2.size; exact this) (.cells #[.int .i64 kind, .string ⟨text.toArray⟩, .slice a1 list.length c1, .slice a2 fields.length c2, .slice a3 ranked.length c3, .int .i64 due, .int .u64 ver] 95))) hsm)
  clear hB2 HC HD HV
  go_wp2_with fail
  refine HCP.out.mono ?_; rintro e w3 ⟨l3, f3, r3, rfl, hv3, hB3⟩
  obtain ⟨b1, d1, rfl, _⟩ := id hv3.list.slice
  obtain ⟨b2, d2, rfl, _⟩ := id hv3.fields.slice
  obtain ⟨b3, d3, rfl, _⟩ := id hv3.ranked.slice
  have hd3 := (HD2.out.below (((Below.refl _ w2).alloc (Nat.le_refl _) _).trans (hB3.mono (by simp))))
  have hcd := hd3.cell
  have hfd := hd3.free
  have hB4 : Below w.heap.size w w3 := hB2'.out.trans ((((Below.refl _ w2).alloc (Nat.le_refl _) _).trans (hB3.mono (by simp))).mono (by omega))
  have HB4 := Lib.hid hB4
  have HV3 := Lib.hid (hv3.imp (B := fun b => w.heap.size + 1 ≤ b) (fun b hb => by simp at hb; omega))
  clear hv3 hd3 hB4 hB3 HCP HD2 hB2' HB
  go_wp2_with fail
  refine bodyPost_ret (v := .tuple #[valV ⟨kind, text, list, fields, ranked⟩ (.slice b1 list.length d1) (.slice b2 fields.length d2) (.slice b3 ranked.length d3), .bool ok]) (by simp [results, Tryz.results119, go_sem, hcd]) rfl ⟨_, _, _, rfl, ?_, ?_⟩
  · refine (HV3.out.stay (by simp) (fun b hb _ => ?_)).imp (fun b hb => Nat.le_trans (Nat.le_add_right _ _) hb)
    repeat rw [heap_set_far (by show b ≠ w.heap.size; omega)]
  · iterate 5 refine Below.setCell ?_ (by simp) _
    exact HB4.out
set_option maxRecDepth 10000 in
set_option maxHeartbeats 1000000 in
theorem due_ok (h : SpI o w q p S c) (k : List UInt8) (now : Int) : Calls Tryz.prog 31 #[.pointer (some ⟨p, 0, none⟩), txt k, .int .i64 now] w fun e w' => e = .returned (.tuple #[.int .i64 ((S k).getD hd0).due, .bool (S k).isSome]) ∧ Below w.heap.size w w' := by
  obtain ⟨a1, c1, a2, c2, a3, c3, l, f, r, hv, hsm, e1, e2, e3, hc⟩ := seen_any h k now
  generalize (S k).getD hd0 = H at *
  generalize (S k).isSome = ok at *
  have HC := Lib.hid hc
  clear h hc hv hsm
  obtain ⟨⟨kind, text, list, fields, ranked⟩, due, ver⟩ := H
  dsimp only at e1 e2 e3
  subst e1 e2 e3
  unfold txt at *
  go_enter Tryz.func31, Tryz.ntmps31
  go_wp2_with fail
  refine HC.out.mono ?_; rintro e w2 ⟨rfl, hB2⟩
  have HB2 := Lib.hid hB2
  clear hB2
  go_wp2_with fail
  go_ret2
  exact ⟨rfl, HB2.out.alloc HB2.out.size _⟩
end
end Go.Proofs.YtgmmeeikjofefaaGreatDoor
