import Derived.Test.YtgmmeeikjofefaaGreatDoorGA
import Derived.StillTailTactics
namespace Go.Proofs.YtgmmeeikjofefaaGreatDoor
open Go Go.RowKit
abbrev zHd : Value := .agg #[.int .i64 0, .string ⟨#[]⟩, .slice none 0 0, .slice none 0 0, .slice none 0 0, .int .i64 0, .int .u64 0]
abbrev zVal : Value := .agg #[.int .i64 0, .string ⟨#[]⟩, .slice none 0 0, .slice none 0 0, .slice none 0 0]
theorem infoHd : (Tryz.prog.info? 95).map (fun i => (i.zero, i.size, i.bytes)) = some (some zHd, 7, 112) := by kernel_rfl
theorem zeroHd (w : World) : (zeroValue 95).run Tryz.prog w = .ok zHd w := by
  obtain ⟨i, hi, hz, _, _⟩ := info_parts infoHd
  simp [zeroValue, typeInfo, hi, hz]
set_option maxRecDepth 10000 in
theorem over0_ok (w : World) (now : Int) : Calls Tryz.prog 99 #[.int .i64 0, .int .i64 now] w fun e w' => e = .returned (.bool false) ∧ w' = w := by
  go_enter Tryz.func99, Tryz.ntmps99
  go_wp2
  go_ret
  exact ⟨rfl, rfl⟩
section
variable {o : Roles} {w : World} {q : List Nat} {p c : Nat} {S : SP}
set_option maxRecDepth 10000 in
set_option maxHeartbeats 1000000 in
theorem seen_none (h : SpI o w q p S c) (k : List UInt8) (now : Int) (hS : S k = none) : Calls Tryz.prog 57 #[.pointer (some ⟨p, 0, none⟩), txt k, .int .i64 now] w fun e w' => e = .returned (.tuple #[zHd, .bool false]) ∧ Below w.heap.size w w' := by
  obtain ⟨m, d, m2, a, kvs, h⟩ := h
  have hm := (h.vals k).none_iff.2 hS
  have hlk := run_look (P := Tryz.prog) (h.keys.alloc (.cells #[.int .i64 0, .string ⟨#[]⟩, .slice none 0 0, .slice none 0 0, .slice none 0 0, .int .i64 0, .int .u64 0] 95) w.heap.size [] rfl) Tryz.underlying69 Tryz.underlying9 k true (zeroHd _)
  rw [hm] at hlk
  have hc := h.blk.cell
  have hl := h.blk.lt
  clear h hm hS
  unfold txt at *
  simp only [Option.getD_none, Option.isSome_none, if_true] at hlk
  go_enter Tryz.func57, Tryz.ntmps57
  go_wp2_with fail
  exact bodyPost_ret (v := .tuple #[zHd, .bool false]) (by simp [results, Tryz.results57, go_sem]) rfl ⟨rfl, ((Below.refl _ _).alloc (Nat.le_refl _) _).alloc (by simp) _⟩
def SeenDid (w : World) (h : Hd) (l f r : Value) (e : Ending) (w' : World) : Prop := e = .returned (.tuple #[hdV h l f r, .bool true]) ∧ Below w.heap.size w w'
set_option maxRecDepth 10000 in
set_option maxHeartbeats 1000000 in
theorem seen_some (h : SpI o w q p S c) (k : List UInt8) (now : Int) {H : Hd} (hS : S k = some H) : ∃ l f r, Val3 (fun b => o b = q ++ [3]) w H.v l f r ∧ VSmall H.v ∧ Calls Tryz.prog 57 #[.pointer (some ⟨p, 0, none⟩), txt k, .int .i64 now] w (SeenDid w H l f r) := by
  obtain ⟨m, d, m2, a, kvs, h⟩ := h
  have hv := h.vals k
  have h0 := h.due0 k H hS
  rw [hS] at hv
  cases hm : mfind kvs k with
  | none => rw [hm] at hv; exact hv.elim
  | some u =>
    rw [hm] at hv
    obtain ⟨l, f, r, rfl, hv3, hsm⟩ := hv
    refine ⟨l, f, r, hv3, hsm, ?_⟩
    have hlk := run_look (P := Tryz.prog) (h.keys.alloc (.cells #[.int .i64 0, .string ⟨#[]⟩, .slice none 0 0, .slice none 0 0, .slice none 0 0, .int .i64 0, .int .u64 0] 95) w.heap.size [] rfl) Tryz.underlying69 Tryz.underlying9 k true (zeroHd _)
    rw [hm] at hlk
    have hc := h.blk.cell
    have hl := h.blk.lt
    obtain ⟨a1, c1, rfl, _⟩ := hv3.list.slice
    obtain ⟨a2, c2, rfl, _⟩ := hv3.fields.slice
    obtain ⟨a3, c3, rfl, _⟩ := hv3.ranked.slice
    obtain ⟨⟨kind, text, list, fields, ranked⟩, due, ver⟩ := H
    dsimp only at h0 hlk
    subst h0
    clear h hm hS hv3 hsm
    unfold txt at *
    simp only [Option.getD_some, Option.isSome_some, if_true] at hlk
    go_enter Tryz.func57, Tryz.ntmps57
    go_wp2_with fail
    refine (over0_ok _ _).mono ?_; rintro e w1 ⟨rfl, rfl⟩
    go_wp2_with fail
    exact bodyPost_ret (v := .tuple #[hdV ⟨⟨kind, text, list, fields, ranked⟩, 0, ver⟩ (.slice a1 list.length c1) (.slice a2 fields.length c2) (.slice a3 ranked.length c3), .bool true]) (by simp [results, Tryz.results57, go_sem]) rfl ⟨rfl, ((Below.refl _ _).alloc (Nat.le_refl _) _).alloc (by simp) _⟩
abbrev hd0 : Hd := ⟨⟨0, [], [], [], []⟩, 0, 0⟩
theorem seen_any (h : SpI o w q p S c) (k : List UInt8) (now : Int) : ∃ a1 c1 a2 c2 a3 c3 l f r, Val3 (fun b => o b = q ++ [3]) w ((S k).getD hd0).v l f r ∧ VSmall ((S k).getD hd0).v ∧
    l = .slice a1 ((S k).getD hd0).v.list.length c1 ∧ f = .slice a2 ((S k).getD hd0).v.fields.length c2 ∧ r = .slice a3 ((S k).getD hd0).v.ranked.length c3 ∧
    Calls Tryz.prog 57 #[.pointer (some ⟨p, 0, none⟩), txt k, .int .i64 now] w fun e w' => e = .returned (.tuple #[hdV ((S k).getD hd0) l f r, .bool (S k).isSome]) ∧ Below w.heap.size w w' := by
  cases hS : S k with
  | none =>
    refine ⟨none, 0, none, 0, none, 0, _, _, _, ⟨Vw.nil _ _ _, Vw.nil _ _ _, Vw.nil _ _ _⟩, ⟨by simp, by simp, by simp, by simp⟩, rfl, rfl, rfl, ?_⟩
    exact seen_none h k now hS
  | some H =>
    obtain ⟨l, f, r, h1, h2, h3⟩ := seen_some h k now hS
    obtain ⟨a1, c1, e1, _⟩ := h1.list.slice
    obtain ⟨a2, c2, e2, _⟩ := h1.fields.slice
    obtain ⟨a3, c3, e3, _⟩ := h1.ranked.slice
    exact ⟨a1, c1, a2, c2, a3, c3, l, f, r, h1, h2, e1, e2, e3, h3⟩
def GetDid (w : World) (V : VV) (ok : Bool) (e : Ending) (w' : World) : Prop :=
  ∃ l f r, e = .returned (.tuple #[valV V l f r, .bool ok]) ∧ Val3 (fun b => w.heap.size ≤ b) w' V l f r ∧ Below w.heap.size w w'
set_option maxRecDepth 10000 in
set_option maxHeartbeats 1000000 in
theorem get_ok (h : SpI o w q p S c) (k : List UInt8) (now : Int) : Calls Tryz.prog 119 #[.pointer (some ⟨p, 0, none⟩), txt k, .int .i64 now] w (GetDid w ((S k).getD hd0).v (S k).isSome) := by
  have hB1 : Below w.heap.size w (w.alloc (.cells #[.int .i64 0, .string ⟨#[]⟩, .slice none 0 0, .slice none 0 0, .slice none 0 0] 49)) := (Below.refl _ _).alloc (Nat.le_refl _) _
  obtain ⟨a1, c1, a2, c2, a3, c3, l, f, r, hv, hsm, e1, e2, e3, hc⟩ := seen_any (h.below hB1) k now
  generalize (S k).getD hd0 = H at *
  generalize (S k).isSome = ok at *
  have hz : (w.alloc (.cells #[.int .i64 0, .string ⟨#[]⟩, .slice none 0 0, .slice none 0 0, .slice none 0 0] 49)).heap.size = w.heap.size + 1 := by simp
  have hd1 : Blk none0 (w.alloc (.cells #[.int .i64 0, .string ⟨#[]⟩, .slice none 0 0, .slice none 0 0, .slice none 0 0] 49)) [] w.heap.size #[.int .i64 0, .string ⟨#[]⟩, .slice none 0 0, .slice none 0 0, .slice none 0 0] 49 := ⟨heap_alloc_new w _, rfl⟩
  have HC := Lib.hid hc
  have HV := Lib.hid hv
  have HB := Lib.hid hB1
  have HD := Lib.hid hd1
  have HZ := Lib.hid hz
  clear h hc hv hB1 hd1 hz
  obtain ⟨⟨kind, text, list, fields, ranked⟩, due, ver⟩ := H
  dsimp only at e1 e2 e3 hsm
  subst e1 e2 e3
  unfold txt at *
  go_enter Tryz.func119, Tryz.ntmps119
  go_wp2_with fail
  refine HC.out.mono ?_; rintro e w2 ⟨rfl, hB2⟩
  have hB2' := Lib.hid (HB.out.trans (hB2.mono HB.out.size))
  have hz2 : w.heap.size + 1 ≤ w2.heap.size := by have := hB2.size; have := HZ.out; omega
  have HD2 := Lib.hid (HD.out.below hB2)
  have HCP := Lib.hid (copy_ok (HV.out.below (hB2.alloc (by have := hB2.size; exact this) (.cells #[.int .i64 kind, .string ⟨text.toArray⟩, .slice a1 list.length c1, .slice a2 fields.length c2, .slice a3 ranked.length c3, .int .i64 due, .int .u64 ver] 95))) hsm)
  clear hB2 HC HD HV
  go_wp2_with fail
  refine HCP.out.mono ?_; rintro e w3 ⟨l3, f3, r3, rfl, hv3, hB3⟩
  obtain ⟨b1, d1, rfl, _⟩ := id hv3.list.slice
  obtain ⟨b2, d2, rfl, _⟩ := id hv3.fields.slice
  obtain ⟨b3, d3, rfl, _⟩ := id hv3.ranked.slice
  have hd3 := (HD2.out.below (((Below.refl _ w2).alloc (Nat.le_refl _) _).trans (hB3.mono (by simp))))
  have hcd := hd3.cell
  have hfd := hd3.free
  have hB4 : Below w.heap.size w w3 := hB2'.out.trans ((((Below.refl _ w2).alloc (Nat.le_refl _) _).trans (hB3.mono (by simp))).mono (by omega))
  have HB4 := Lib.hid hB4
  have HV3 := Lib.hid (hv3.imp (B := fun b => w.heap.size + 1 ≤ b) (fun b hb => by simp at hb; omega))
  clear hv3 hd3 hB4 hB3 HCP HD2 hB2' HB
  go_wp2_with fail
  refine bodyPost_ret (v := .tuple #[valV ⟨kind, text, list, fields, ranked⟩ (.slice b1 list.length d1) (.slice b2 fields.length d2) (.slice b3 ranked.length d3), .bool ok]) (by simp [results, Tryz.results119, go_sem, hcd]) rfl ⟨_, _, _, rfl, ?_, ?_⟩
  · refine (HV3.out.stay (by simp) (fun b hb _ => ?_)).imp (fun b hb => Nat.le_trans (Nat.le_add_right _ _) hb)
    repeat rw [heap_set_far (by show b ≠ w.heap.size; omega)]
  · iterate 5 refine Below.setCell ?_ (by simp) _
    exact HB4.out
set_option maxRecDepth 10000 in
set_option maxHeartbeats 1000000 in
theorem due_ok (h : SpI o w q p S c) (k : List UInt8) (now : Int) : Calls Tryz.prog 31 #[.pointer (some ⟨p, 0, none⟩), txt k, .int .i64 now] w fun e w' => e = .returned (.tuple #[.int .i64 ((S k).getD hd0).due, .bool (S k).isSome]) ∧ Below w.heap.size w w' := by
  obtain ⟨a1, c1, a2, c2, a3, c3, l, f, r, hv, hsm, e1, e2, e3, hc⟩ := seen_any h k now
  generalize (S k).getD hd0 = H at *
  generalize (S k).isSome = ok at *
  have HC := Lib.hid hc
  clear h hc hv hsm
  obtain ⟨⟨kind, text, list, fields, ranked⟩, due, ver⟩ := H
  dsimp only at e1 e2 e3
  subst e1 e2 e3
  unfold txt at *
  go_enter Tryz.func31, Tryz.ntmps31
  go_wp2_with fail
  refine HC.out.mono ?_; rintro e w2 ⟨rfl, hB2⟩
  have HB2 := Lib.hid hB2
  clear hB2
  go_wp2_with fail
  go_ret2
  exact ⟨rfl, HB2.out.alloc HB2.out.size _⟩
end
end Go.Proofs.YtgmmeeikjofefaaGreatDoor
namespace Go.Proofs.YtgmmeeikjofefaaGreatDoor
open Go Go.RowKit
/-! value.Check. -/
theorem bcell {W w1 : World} (hb : Below W.heap.size W w1) : (∀ b o, b < W.heap.size → w1.cell? ⟨b, o, none⟩ = W.cell? ⟨b, o, none⟩) ∧ (∀ b o, b < W.heap.size → w1.frozen? ⟨b, o, none⟩ = W.frozen? ⟨b, o, none⟩) :=
  ⟨fun b o h => hb.cell (p := ⟨b, o, none⟩) h, fun b o h => hb.frozen (p := ⟨b, o, none⟩) h⟩
theorem upon_method {P : Program} {op : Oper} {act : Act} {K : Act → World → Prop} {Q : Exit → Act → World → Prop} {w : World} {n t : Nat} {x y : Value} {nm : String} {f : FuncId} (h : (method n t x nm).run P w = .ok (f, y) w)
    (hK : Oper.upon P op act K Q ((callFunc f #[y]).run P w)) : Oper.upon P op act K Q (((method n t x nm).run P w).andThen fun a w' => (callFunc a.fst #[a.snd]).run P w') := by
  rw [h]; exact hK
set_option maxRecDepth 10000 in
theorem vshort_ok (s : List UInt8) (w : World) : Calls Tryz.prog 262 #[txt s] w fun e w' => e = .returned (.bool (decide (s.length ≤ 1048576))) ∧ w' = w := by
  have hsz : (⟨s.toArray⟩ : ByteArray).size = s.length := by simp [ByteArray.size]
  have hd : decide ((s.length : Int) ≤ 1048576) = decide (s.length ≤ 1048576) := by simp; omega
  unfold txt
  go_enter Tryz.func262, Tryz.ntmps262
  go_wp2
  go_ret
  exact ⟨by rw [← hd]; rfl, rfl⟩
set_option maxRecDepth 10000 in
theorem vlong_ok (s : List UInt8) (w : World) (h : s.length ≤ 1048576) : Calls Tryz.prog 267 #[txt s] w fun e w' => e = .returned (.bool false) ∧ w' = w := by
  have H := vshort_ok s w
  rw [decide_eq_true h] at H
  unfold txt at *
  go_enter Tryz.func267, Tryz.ntmps267
  go_wp2_with fail
  refine H.mono ?_; rintro e w' ⟨rfl, rfl⟩
  go_wp2_with fail
  go_ret
  exact ⟨rfl, rfl⟩
set_option maxRecDepth 10000 in
set_option maxHeartbeats 1000000 in
theorem indexF_ok {A : Nat → Prop} {w : World} {v : Value} {ws : List (List UInt8)} (h : Vw A w v 1 ws.length (ws.map txt)) (hs : ∀ x ∈ ws, x.length ≤ 1048576) (hn : ws.length ≤ 1099511627776) :
    Calls Tryz.prog 268 #[v, .func (.func 267) #[] #[]] w fun e w' => e = .returned (.int .i64 (-1)) ∧ w' = w := by
  obtain ⟨⟨a, cap, rfl, h1, h2, h3⟩, h4⟩ := h
  clear h4
  go_enter Tryz.func268, Tryz.ntmps268
  go_wp2_with fail
  go_loopw [8] (fun i wr => wr = w ∧ ∃ k : Nat, k ≤ ws.length ∧ i = .int .i64 (k : Int)) (fun i _ => ws.length - (intOf i).toNat)
  case atStart => exact ⟨rfl, 0, Nat.zero_le _, rfl⟩
  case round =>
    obtain ⟨rfl, k, hk, rfl⟩ := hrel
    by_cases hkl : k < ws.length
    · obtain ⟨x, hx⟩ : ∃ x, ws[k]? = some x := ⟨_, List.getElem?_eq_getElem hkl⟩
      rcases h3 with h3 | ⟨b, off, rfl, hb, _, hc⟩
      · omega
      have hcell : wr.cell? ⟨b, off + k, none⟩ = some (.string ⟨x.toArray⟩) := hc k (txt x) (by rw [List.getElem?_map, hx]; rfl)
      have HX := Lib.hid (vlong_ok x wr (hs x (List.mem_of_getElem? hx)))
      clear hc hs hx
      unfold txt at HX
      go_wp2_with fail
      refine HX.out.mono ?_; rintro e w1 ⟨rfl, rfl⟩
      go_wp2_with fail
      go_roundw
      case rel => exact ⟨trivial, k + 1, hkl, by go_num⟩
      case measure => simp [intOf]; omega
    · clear h3 hs
      go_wp2_with fail
      go_ret
      exact ⟨rfl, rfl⟩
set_option maxRecDepth 10000 in
theorem vlright_ok {A : Nat → Prop} {w : World} {v : Value} {ws : List (List UInt8)} (h : Vw A w v 1 ws.length (ws.map txt)) (hs : ∀ x ∈ ws, x.length ≤ 1048576) (hn : ws.length ≤ 1099511627776) :
    Calls Tryz.prog 264 #[v] w fun e w' => e = .returned (.bool true) ∧ w' = w := by
  have H := Lib.hid (indexF_ok h hs hn)
  obtain ⟨a, cap, rfl, _⟩ := h.slice
  clear h hs
  have H2 : Calls Tryz.prog 266 #[.slice a ws.length cap, .func (.func 267) #[] #[]] w fun e w' => e = .returned (.bool false) ∧ w' = w := by
    go_enter Tryz.func266, Tryz.ntmps266
    go_wp2_with fail
    refine H.out.mono ?_; rintro e w' ⟨rfl, rfl⟩
    go_wp2_with fail
    go_ret
    exact ⟨rfl, rfl⟩
  go_enter Tryz.func264, Tryz.ntmps264
  go_wp2_with fail
  refine H2.mono ?_; rintro e w' ⟨rfl, rfl⟩
  go_wp2_with fail
  go_ret
  exact ⟨rfl, rfl⟩
set_option maxRecDepth 10000 in
theorem vof_list (w : World) (l f r : Value) (V : VV) (hk : V.kind = 2) (hl : ∃ a n c, l = .slice a n c) (hf : ∃ a n c, f = .slice a n c) (hr : ∃ a n c, r = .slice a n c) : Calls Tryz.prog 134 #[valV V l f r] w fun e w' => e = .returned (.tuple #[.iface 200 l, .bool true]) ∧ Below w.heap.size w w' := by
  obtain ⟨kind, text, list, fields, ranked⟩ := V
  dsimp only at hk
  subst hk
  obtain ⟨a1, n1, c1, rfl⟩ := hl
  obtain ⟨a2, n2, c2, rfl⟩ := hf
  obtain ⟨a3, n3, c3, rfl⟩ := hr
  go_enter Tryz.func134, Tryz.ntmps134
  go_wp2
  go_ret2
  exact ⟨rfl, (Below.refl _ _).alloc (Nat.le_refl _) _⟩
set_option maxRecDepth 10000 in
theorem vcheck_list {A : Nat → Prop} {w : World} {V : VV} {l f r : Value} (h : Val3 A w V l f r) (hk : V.kind = 2) (ht : V.text = []) (hf : V.fields = []) (hr : V.ranked = []) (hne : V.list ≠ []) (hs : ∀ x ∈ V.list, x.length ≤ 1048576) (hn : V.list.length ≤ 1099511627776) :
    Calls Tryz.prog 87 #[valV V l f r] w fun e w' => e = .returned (.int .i64 0) ∧ Below w.heap.size w w' := by
  obtain ⟨a1, c1, e1, _⟩ := h.list.slice
  obtain ⟨a2, c2, e2, _⟩ := h.fields.slice
  obtain ⟨a3, c3, e3, _⟩ := h.ranked.slice
  have HO := Lib.hid (fun W => vof_list W l f r V hk ⟨_, _, _, e1⟩ ⟨_, _, _, e2⟩ ⟨_, _, _, e3⟩)
  have HR := Lib.hid (fun W (hB : Below w.heap.size w W) => vlright_ok (h.list.below hB) hs hn)
  obtain ⟨kind, text, list, fields, ranked⟩ := V
  dsimp only at hk ht hf hr hne hs hn e1 e2 e3 HO HR
  subst hk ht hf hr e1 e2 e3
  have h0 : ((list.length : Int) == 0) = false := beq_eq_false_iff_ne.2 (by cases list with | nil => exact absurd rfl hne | cons x t => simp; omega)
  clear h hs hne
  go_enter Tryz.func87, Tryz.ntmps87
  go_wp2_with fail
  refine (HO.out _).mono ?_; rintro e w2 ⟨rfl, hB2⟩
  have HB2 := Lib.hid (((Below.refl w.heap.size w).alloc (Nat.le_refl _) _).trans (hB2.mono (by simp)))
  obtain ⟨hq, _⟩ := bcell hB2
  have x0 : w2.cell? ⟨w.heap.size, 0, none⟩ = some (.int .i64 2) := by rw [hq _ _ (by simp)]; simp [go_sem]
  have x1 : w2.cell? ⟨w.heap.size, 1, none⟩ = some (.string ⟨#[]⟩) := by rw [hq _ _ (by simp)]; simp [go_sem]
  have x2 : w2.cell? ⟨w.heap.size, 2, none⟩ = some (.slice a1 list.length c1) := by rw [hq _ _ (by simp)]; simp [go_sem]
  have x3 : w2.cell? ⟨w.heap.size, 3, none⟩ = some (.slice a2 0 c2) := by rw [hq _ _ (by simp)]; simp [go_sem]
  have x4 : w2.cell? ⟨w.heap.size, 4, none⟩ = some (.slice a3 0 c3) := by rw [hq _ _ (by simp)]; simp [go_sem]
  clear hB2 hq HO
  go_wp2_with fail
  clear x0 x1 x2 x3 x4
  refine upon_method (f := 263) (y := .slice a1 list.length c1) (by kernel_rfl) ?_
  have HE : Calls Tryz.prog 263 #[.slice a1 list.length c1] w2 fun e w' => e = .returned (.bool false) ∧ w' = w2 := by
    go_enter Tryz.func263, Tryz.ntmps263
    go_wp2
    go_ret
    exact ⟨rfl, rfl⟩
  clear h0
  go_wp2_with fail
  refine HE.mono ?_; rintro e w3 ⟨rfl, rfl⟩
  go_wp2_with fail
  refine upon_method (f := 264) (y := .slice a1 list.length c1) (by kernel_rfl) ?_
  go_wp2_with fail
  refine (HR.out _ HB2.out).mono ?_; rintro e w4 ⟨rfl, rfl⟩
  go_wp2_with fail
  go_ret
  exact ⟨rfl, HB2.out⟩
end Go.Proofs.YtgmmeeikjofefaaGreatDoor
namespace Go.Proofs.YtgmmeeikjofefaaGreatDoor
open Go Go.RowKit
/-! Space.Put and Space.Drop. -/
/-- All blocks from base on are to have role r. -/
def Roles.from (o : Roles) (base : Nat) (r : List Nat) : Roles := fun b => if base ≤ b then r else o b
theorem Roles.from_new {o : Roles} {base b : Nat} {r : List Nat} (h : base ≤ b) : o.from base r b = r := if_pos h
theorem Roles.from_old {o : Roles} {base b : Nat} {r : List Nat} (h : b < base) : o.from base r b = o b := if_neg (by omega)
theorem Stp.from0 (s : List Nat) (o : Roles) (w : World) (r : List Nat) : Stp s o w (o.from w.heap.size r) w := ⟨rfl, rfl, rfl, Nat.le_refl _, fun _ hb => Roles.from_old hb, fun _ _ _ => rfl⟩
section
variable {o : Roles} {w w' : World} {q s : List Nat} {p m d m2 a c : Nat} {kvs : KV} {S : SP}
theorem Blk.from {b : Nat} {cs : Array Value} {T : TypeId} {r : List Nat} (h : Blk o w s b cs T) : Blk (o.from w.heap.size r) w s b cs T := ⟨h.heap, by rw [Roles.from_old h.lt]; exact h.role⟩
theorem MBlk.from {b : Nat} {r : List Nat} (h : MBlk o w s b kvs) : MBlk (o.from w.heap.size r) w s b kvs := ⟨h.heap, by rw [Roles.from_old h.lt]; exact h.role⟩
theorem Vw.from {v : Value} {sz n : Nat} {xs : List Value} {r : List Nat} (h : Vw (fun b => o b = s) w v sz n xs) : Vw (fun b => o.from w.heap.size r b = s) w v sz n xs := by
  obtain ⟨⟨a, cap, h1, h2, h3, h4⟩, h5⟩ := h
  refine ⟨⟨a, cap, h1, h2, h3, ?_⟩, h5⟩
  rcases h4 with h4 | ⟨b, off, g1, g2, g3, g4⟩
  · exact .inl h4
  · exact .inr ⟨b, off, g1, g2, by rw [Roles.from_old g2]; exact g3, g4⟩
theorem SpR.from {r : List Nat} (h : SpR o w q p m d m2 a kvs S c) : SpR (o.from w.heap.size r) w q p m d m2 a kvs S c :=
  ⟨h.blk.from, h.keys.from, h.nodup, h.dblk.from, h.dmap.from, fun k => (h.vals k).map fun _ _ _ _ hv => ⟨hv.list.from, hv.fields.from, hv.ranked.from⟩, h.due0⟩
end
def SP.put (S : SP) (k : List UInt8) (h : Hd) : SP := fun j => if j = k then some h else S j
def SP.del (S : SP) (k : List UInt8) : SP := fun j => if j = k then none else S j
theorem np0 {q : List Nat} {a b : Nat} (h : a ≠ b) : ¬ q ++ [a] <+: q ++ [b] := by
  rw [List.prefix_append_right_inj]
  simp [h]
theorem np1 {q : List Nat} {a : Nat} : ¬ q ++ [a] <+: q := by
  intro h
  have := h.length_le
  simp at this
  omega
theorem zeroInt (w : World) : (zeroValue 3).run Tryz.prog w = .ok (.int .i64 0) w := by
  have hI : (Tryz.prog.info? 3).map (fun i => (i.zero, i.size, i.bytes)) = some (some (.int .i64 0), 1, 8) := by kernel_rfl
  obtain ⟨i, hi, hz, _, _⟩ := info_parts hI
  simp [zeroValue, typeInfo, hi, hz]
set_option maxRecDepth 10000 in
theorem dueDrop_none {o : Roles} {w : World} {r r2 : List Nat} {d m2 : Nat} (hd : Blk o w r d #[.map (some m2), .slice none 0 0] 105) (hm : MBlk o w r2 m2 []) (k : List UInt8) :
    Calls Tryz.prog 135 #[.pointer (some ⟨d, 0, none⟩), txt k] w fun e w' => e = .returned (.bool false) ∧ w' = w := by
  have hlk := run_look (P := Tryz.prog) hm Tryz.underlying102 Tryz.underlying9 k true (zeroInt _)
  have hc := hd.cell
  clear hd hm
  unfold txt at *
  simp only [mfind, Option.getD_none, Option.isSome_none, if_true] at hlk
  go_enter Tryz.func135, Tryz.ntmps135
  go_wp2
  go_ret
  exact ⟨rfl, rfl⟩
set_option maxRecDepth 10000 in
theorem tick_ok (w : World) (n : Int) (h0 : 0 ≤ n) (h1 : n ≤ 9007199254740992) : Calls Tryz.prog 88 #[.int .i64 n] w fun e w' => e = .returned (.bool true) ∧ w' = w := by
  have d0 : decide (0 ≤ n) = true := decide_eq_true h0
  have d1 : decide (n ≤ 9007199254740992) = true := decide_eq_true h1
  go_enter Tryz.func88, Tryz.ntmps88
  go_wp2
  go_ret
  exact ⟨rfl, rfl⟩
section
variable {o : Roles} {w : World} {q : List Nat} {p m d m2 a c : Nat} {kvs : KV} {S : SP}
theorem SpR.touched (h : SpR o w q p m d m2 a kvs S c) : SpR o (w.setCell ⟨p, 2, none⟩ (.int .u64 ((c + 1 : Nat) : Int))) q p m d m2 a kvs S (c + 1) := by
  have hr := h.blk.role
  have st : Stp q o w o (w.setCell ⟨p, 2, none⟩ (.int .u64 ((c + 1 : Nat) : Int))) := (Stp.refl q o w).setCell (by show q <+: o p; rw [hr]; exact List.prefix_refl _) _
  refine ⟨h.blk.setCell 2 _, h.keys.setCell _ _ (by rw [hr]; simp), h.nodup, h.dblk.setOther _ _ (fun e => ?_), h.dmap.setCell _ _ (by rw [hr]; simp), fun k => (h.vals k).map fun _ _ _ _ hv => hv.stay (by simp) (fun b hb _ => heap_set_far (fun e => ?_)), h.due0⟩
  · have h2 := h.dblk.role
    rw [e] at h2
    have h3 : o p = q ++ [1] := h2
    rw [hr] at h3
    simp at h3
  · have h3 : o p = q ++ [3] := by rw [← hb]; exact congrArg o e.symm
    rw [hr] at h3
    simp at h3
set_option maxRecDepth 10000 in
theorem touch_ok (h : SpR o w q p m d m2 a kvs S c) (k : List UInt8) (hc : c ≤ 4611686018427387904) : Calls Tryz.prog 89 #[.pointer (some ⟨p, 0, none⟩), txt k] w fun e w' => e = .returned (.tuple #[]) ∧ w' = w.setCell ⟨p, 2, none⟩ (.int .u64 ((c + 1 : Nat) : Int)) := by
  have hcl := h.blk.cell
  have hf := h.blk.free
  have e0 : IntKind.u64.wrap ((c : Int) + 1) = (c : Int) + 1 := by rw [IntKind.wrap_u64]; omega
  clear h
  unfold txt
  go_enter Tryz.func89, Tryz.ntmps89
  go_wp2
  exact bodyPost_ret (v := .tuple #[]) (by simp [results, Tryz.results89]) rfl ⟨rfl, by simp⟩
set_option maxRecDepth 10000 in
theorem note_ok (h : SpR o w q p m d m2 a kvs S c) (x0 x1 x2 x3 x4 x5 x6 x7 : Value) : Calls Tryz.prog 92 #[.pointer (some ⟨p, 0, none⟩), .agg #[x0, x1, x2, x3, x4, x5, x6, x7]] w fun e w' => e = .returned (.tuple #[]) ∧ Below w.heap.size w w' := by
  have hcl := h.blk.cell
  have hl := h.blk.lt
  clear h
  go_enter Tryz.func92, Tryz.ntmps92
  go_wp2
  go_end0
  exact ⟨rfl, (Below.refl _ _).alloc (Nat.le_refl _) _⟩
set_option maxRecDepth 10000 in
set_option maxHeartbeats 1000000 in
theorem lay_ok (h : SpR o w q p m d m2 a kvs S c) (hpool : ∀ b, w.heap.size ≤ b → o b = q ++ [3]) (k : List UInt8) {H : Hd} {l f r : Value} (hv : Val3 (fun b => o b = q ++ [3]) w H.v l f r) (hs : VSmall H.v) (hd : H.due = 0) :
    Calls Tryz.prog 90 #[.pointer (some ⟨p, 0, none⟩), txt k, hdV H l f r] w fun e w' => e = .returned (.tuple #[]) ∧ (∃ kvs', SpR o w' q p m d m2 a kvs' (S.put k H) c) ∧ Stp (q ++ [0]) o w o w' := by
  obtain ⟨a1, c1, e1, _⟩ := hv.list.slice
  obtain ⟨a2, c2, e2, _⟩ := hv.fields.slice
  obtain ⟨a3, c3, e3, _⟩ := hv.ranked.slice
  subst e1 e2 e3
  obtain ⟨w1, hw1⟩ : ∃ w1, w1 = w.alloc (.cells #[.int .i64 H.v.kind, .string ⟨H.v.text.toArray⟩, .slice a1 H.v.list.length c1, .slice a2 H.v.fields.length c2, .slice a3 H.v.ranked.length c3, .int .i64 H.due, .int .u64 H.ver] 95) := ⟨_, rfl⟩
  have hB : Below w.heap.size w w1 := by rw [hw1]; exact (Below.refl _ _).alloc (Nat.le_refl _) _
  have h1 := h.below hB
  have hv1 := hv.below hB
  have hbx : Blk o w1 (q ++ [3]) w.heap.size #[.int .i64 H.v.kind, .string ⟨H.v.text.toArray⟩, .slice a1 H.v.list.length c1, .slice a2 H.v.fields.length c2, .slice a3 H.v.ranked.length c3, .int .i64 H.due, .int .u64 H.ver] 95 := ⟨by rw [hw1]; exact heap_alloc_new w _, hpool _ (Nat.le_refl _)⟩
  have HB := Lib.hid hB
  have H1 := Lib.hid (h1.below (Below.refl _ w1).drew)
  have HV := Lib.hid (hv1.below (Below.refl _ w1).drew)
  have HX := Lib.hid hbx
  have hc := h1.blk.cell
  have hbc := hbx.cell
  have hst := Lib.hid (Stp.ofBelow (q ++ [0]) o hB).drew
  obtain ⟨⟨kind, text, list, fields, ranked⟩, due, ver⟩ := H
  dsimp only at hd
  subst hd
  clear h hv hB h1 hv1 hbx
  unfold txt at *
  go_enter Tryz.func90, Tryz.ntmps90
  go_wp2_with fail
  rw [← hw1]
  clear hw1
  go_still_tail 6, (by kernel_rfl)
  change wpList _ _ _ _ _ (World.drew w1)
  refine wpList_put rfl _ _ _ 69 rfl Tryz.underlying69 Tryz.underlying9 H1.out.keys rfl (k := k) rfl rfl ?_
  intro w2 hm2 st2
  have hr2 : SpR o w2 q p m d m2 a (mput kvs k (hdV ⟨⟨kind, text, list, fields, ranked⟩, 0, ver⟩ (.slice a1 list.length c1) (.slice a2 fields.length c2) (.slice a3 ranked.length c3))) (S.put k ⟨⟨kind, text, list, fields, ranked⟩, 0, ver⟩) c := by
    have h := H1.out
    refine ⟨h.blk.keep st2 np1, hm2, nodup_put h.nodup _ _, h.dblk.keep st2 (np0 (by decide)), h.dmap.keep st2 (np0 (by decide)), fun j => ?_, fun j y hy => ?_⟩
    · rw [mfind_put]
      unfold SP.put
      by_cases hj : j = k
      · rw [if_pos hj, if_pos hj]
        exact ⟨_, _, _, rfl, HV.out.keep st2 (np0 (by decide)), hs⟩
      · rw [if_neg hj, if_neg hj]
        exact (h.vals j).map fun _ _ _ _ hv => hv.keep st2 (np0 (by decide))
    · unfold SP.put at hy
      by_cases hj : j = k
      · rw [if_pos hj] at hy; cases hy; rfl
      · rw [if_neg hj] at hy; exact h.due0 j y hy
  have hbx2 : Blk o w2 (q ++ [3]) w.heap.size _ _ := Blk.keep (w := World.drew w1) ⟨HX.out.heap, HX.out.role⟩ st2 (np0 (by decide))
  have hc2 := hr2.blk.cell
  have hbc2 := hbx2.cell
  have HD := Lib.hid (dueDrop_none hr2.dblk hr2.dmap k)
  have HR2 := Lib.hid hr2
  have HS2 := Lib.hid (hst.out.trans st2)
  clear hr2 hbx2 st2 hm2 H1 HV HX hc hbc hst
  unfold txt at HD
  go_wp2_with fail
  refine HD.out.mono ?_; rintro e w3 ⟨rfl, rfl⟩
  go_wp2_with fail
  go_end0
  exact ⟨rfl, ⟨_, HR2.out⟩, HS2.out⟩
end
end Go.Proofs.YtgmmeeikjofefaaGreatDoor
namespace Go.Proofs.YtgmmeeikjofefaaGreatDoor
open Go Go.RowKit
section
variable {o : Roles} {w : World} {q : List Nat} {p c : Nat} {S : SP}
def PutDid (o : Roles) (w : World) (q : List Nat) (p : Nat) (S : SP) (c : Nat) (e : Ending) (w' : World) : Prop :=
  e = .returned (.int .i64 0) ∧ ∃ o', SpI o' w' q p S c ∧ Stp q o w o' w'
set_option maxRecDepth 10000 in
set_option maxHeartbeats 4000000 in
theorem put_ok {A : Nat → Prop} {V : VV} {l f r : Value} (h : SpI o w q p S c) (k : List UInt8) (hv : Val3 A w V l f r) (hs : VSmall V) (hA : ∀ b, A b → b ≠ p)
    (hck : ∀ W, Below w.heap.size w W → Calls Tryz.prog 87 #[valV V l f r] W fun e w' => e = .returned (.int .i64 0) ∧ Below W.heap.size W w') (hc : c ≤ 4611686018427387904) :
    Calls Tryz.prog 44 #[.pointer (some ⟨p, 0, none⟩), txt k, valV V l f r, .int .i64 0] w (PutDid o w q p (S.put k ⟨V, 0, c + 1⟩) (c + 1)) := by
  obtain ⟨m, d, m2, a, kvs, h⟩ := h
  obtain ⟨a1, c1, e1, _⟩ := hv.list.slice
  obtain ⟨a2, c2, e2, _⟩ := hv.fields.slice
  obtain ⟨a3, c3, e3, _⟩ := hv.ranked.slice
  subst e1 e2 e3
  have h := h.from (r := q ++ [3])
  have hst := Stp.from0 q o w (q ++ [3])
  have hnew : ∀ b, w.heap.size ≤ b → o.from w.heap.size (q ++ [3]) b = q ++ [3] := fun b hb => Roles.from_new hb
  generalize o.from w.heap.size (q ++ [3]) = o1 at *
  obtain ⟨w1, hw1⟩ : ∃ w1, w1 = w.alloc (.cells #[.int .i64 V.kind, .string ⟨V.text.toArray⟩, .slice a1 V.list.length c1, .slice a2 V.fields.length c2, .slice a3 V.ranked.length c3] 49) := ⟨_, rfl⟩
  have hB : Below w.heap.size w w1 := by rw [hw1]; exact (Below.refl _ _).alloc (Nat.le_refl _) _
  have hbx : Blk o1 w1 (q ++ [3]) w.heap.size #[.int .i64 V.kind, .string ⟨V.text.toArray⟩, .slice a1 V.list.length c1, .slice a2 V.fields.length c2, .slice a3 V.ranked.length c3] 49 := ⟨by rw [hw1]; exact heap_alloc_new w _, hnew _ (Nat.le_refl _)⟩
  have HR1 := Lib.hid (h.below hB)
  have HB1 := Lib.hid hB
  have HX1 := Lib.hid hbx
  have HST := Lib.hid hst
  have HNEW := Lib.hid hnew
  have HCK := Lib.hid (hck w1 hB)
  have HCP := Lib.hid (fun W (hB : Below w.heap.size w W) => hv.below hB)
  have hbc1 := hbx.cell
  obtain ⟨kind, text, list, fields, ranked⟩ := V
  dsimp only at *
  clear h hv hB hbx hst hnew hck
  unfold txt at *
  go_enter Tryz.func44, Tryz.ntmps44
  go_wp2_with fail
  rw [← hw1]
  clear hw1
  refine HCK.out.mono ?_; rintro e w2 ⟨rfl, hB2⟩
  have hR2 := HR1.out.below hB2
  have HX2 := Lib.hid (HX1.out.below hB2)
  have HB2 := Lib.hid (HB1.out.trans (hB2.mono HB1.out.size))
  have HR2 := Lib.hid hR2
  clear hB2 hbc1 HR1 HB1 HX1 HCK hR2
  go_wp2_with fail
  refine (tick_ok _ _ (by decide) (by decide)).mono ?_; rintro e w2' ⟨rfl, rfl⟩
  go_wp2_with fail
  refine (touch_ok HR2.out k hc).mono ?_; rintro e w3 ⟨rfl, hw3⟩
  have hR3 : SpR o1 w3 q p m d m2 a kvs S (c + 1) := by rw [hw3]; exact HR2.out.touched
  have hST3 : Stp q o1 w2' o1 w3 := by rw [hw3]; exact (Stp.refl q o1 w2').setCell (by show q <+: o1 p; rw [HR2.out.blk.role]; exact List.prefix_refl _) _
  have hX3 : Blk o1 w3 (q ++ [3]) w.heap.size #[.int .i64 kind, .string ⟨text.toArray⟩, .slice a1 list.length c1, .slice a2 fields.length c2, .slice a3 ranked.length c3] 49 := by
    rw [hw3]
    refine HX2.out.setOther _ _ (fun e => ?_)
    have h1 := HX2.out.role
    rw [e] at h1
    have h2 : o1 p = q ++ [3] := h1
    rw [HR2.out.blk.role] at h2
    simp at h2
  have hc3 := hR3.blk.cell
  have hbc3 := hX3.cell
  have hs3 : w2'.heap.size = w3.heap.size := by rw [hw3]; simp
  have hcp : Calls Tryz.prog 91 #[.agg #[.int .i64 kind, .string ⟨text.toArray⟩, .slice a1 list.length c1, .slice a2 fields.length c2, .slice a3 ranked.length c3]] (World.drew w3) (CopyDid (World.drew w3) ⟨kind, text, list, fields, ranked⟩) := by
    have hv2 := HCP.out w2' HB2.out
    have hv3 := hv2.stay (w' := w3) (by omega) (fun b hb _ => by rw [hw3]; exact heap_set_far (hA b hb))
    exact copy_ok (V := ⟨kind, text, list, fields, ranked⟩) (hv3.below (Below.refl _ w3).drew) hs
  have HX3 := Lib.hid hX3
  have HR3 := Lib.hid hR3
  have HST3 := Lib.hid (HST.out.trans ((Stp.ofBelow q o1 HB2.out).trans hST3))
  have HSZ := Lib.hid (show w.heap.size ≤ w3.heap.size by have := HB2.out.size; omega)
  have HCP3 := Lib.hid hcp
  clear hw3 hR3 hST3 hX3 hcp HR2 HX2 HB2 HST HCP hs3
  go_wp2_with fail
  go_region_with (first
    | (go_at_call 91
       (with_reducible refine HCP3.out.mono ?_)
       rintro e w4 ⟨l4, f4, r4, rfl, hv4, hB4⟩
       have hB4' : Below w3.heap.size w3 w4 := (Below.refl _ w3).drew.trans hB4
       obtain ⟨b1, d1, rfl, _⟩ := id hv4.list.slice
       obtain ⟨b2, d2, rfl, _⟩ := id hv4.fields.slice
       obtain ⟨b3, d3, rfl, _⟩ := id hv4.ranked.slice
       have hR4 := HR3.out.below hB4'
       have HX4 := Lib.hid (HX3.out.below hB4')
       have hc4 := hR4.blk.cell
       have HLY := Lib.hid (show Calls Tryz.prog 90 #[.pointer (some ⟨p, 0, none⟩), .string ⟨k.toArray⟩, .agg #[.int .i64 kind, .string ⟨text.toArray⟩, .slice b1 list.length d1, .slice b2 fields.length d2, .slice b3 ranked.length d3, .int .i64 0, .int .u64 ((c : Int) + 1)]] w4 _ from lay_ok hR4 (fun b hb => HNEW.out b (Nat.le_trans HSZ.out (Nat.le_trans hB4'.size hb))) k (H := ⟨⟨kind, text, list, fields, ranked⟩, 0, c + 1⟩) (hv4.imp (fun b hb => HNEW.out b (Nat.le_trans HSZ.out hb))) hs rfl)
       have HST4 := Lib.hid (HST3.out.trans (Stp.ofBelow q o1 hB4'))
       clear hv4 hB4 hB4' hR4)
    | (go_at_call 90
       (with_reducible refine HLY.out.mono ?_)
       rintro e w5 ⟨rfl, hR5, st5⟩
       have HR5 := Lib.hid hR5
       have HX5 := Lib.hid (HX4.out.keep st5 (np0 (by decide)))
       have HST5 := Lib.hid (HST4.out.trans (st5.wide (List.prefix_append _ _)))
       clear hR5 st5 HX4 HST4 HLY))
  all_goals (
    obtain ⟨kvs5, hR5⟩ := HR5.out
    have hc5 := hR5.blk.cell
    have hbc5 := HX5.out.cell
    clear hc3 hbc3 hc4
    go_wp2_with fail
    refine (note_ok hR5 _ _ _ _ _ _ _ _).mono ?_
    rintro e w6 ⟨rfl, hB6⟩
    have HB6 := Lib.hid hB6
    clear hB6 hc5 hbc5
    go_wp2_with fail
    go_ret
    exact ⟨rfl, o1, ⟨m, d, m2, a, kvs5, hR5.below HB6.out⟩, HST5.out.trans (Stp.ofBelow q o1 HB6.out)⟩)
end
end Go.Proofs.YtgmmeeikjofefaaGreatDoor
namespace Go.Proofs.YtgmmeeikjofefaaGreatDoor
open Go Go.RowKit
section
variable {o : Roles} {w : World} {q : List Nat} {p m d m2 a c : Nat} {kvs : KV} {S : SP}
set_option maxRecDepth 10000 in
theorem free_ok (h : SpR o w q p m d m2 a kvs S c) (k : List UInt8) : Calls Tryz.prog 159 #[.pointer (some ⟨p, 0, none⟩), txt k] w fun e w' => e = .returned (.tuple #[]) ∧ SpR o w' q p m d m2 a (mdel kvs k) (S.del k) c ∧ Stp (q ++ [0]) o w o w' := by
  have hc := h.blk.cell
  have HR := Lib.hid h
  clear h
  unfold txt
  go_enter Tryz.func159, Tryz.ntmps159
  go_wp2_with (
    refine wpList_del rfl _ _ 69 9 rfl Tryz.underlying69 Tryz.underlying9 HR.out.keys rfl (k := k) rfl ?_
    intro w2 hm2 st2
    have hr2 : SpR o w2 q p m d m2 a (mdel kvs k) (S.del k) c := by
      have h := HR.out
      refine ⟨h.blk.keep st2 np1, hm2, (keys_del kvs k).nodup h.nodup, h.dblk.keep st2 (np0 (by decide)), h.dmap.keep st2 (np0 (by decide)), fun j => ?_, fun j y hy => ?_⟩
      · rw [mfind_del h.nodup]
        unfold SP.del
        by_cases hj : j = k
        · rw [if_pos hj, if_pos hj]; trivial
        · rw [if_neg hj, if_neg hj]
          exact (h.vals j).map fun _ _ _ _ hv => hv.keep st2 (np0 (by decide))
      · unfold SP.del at hy
        by_cases hj : j = k
        · rw [if_pos hj] at hy; cases hy
        · rw [if_neg hj] at hy; exact h.due0 j y hy
    have hc2 := hr2.blk.cell
    have HD := Lib.hid (dueDrop_none hr2.dblk hr2.dmap k)
    have HR2 := Lib.hid hr2
    have HS2 := Lib.hid st2
    clear hr2 st2 hm2 HR hc)
  unfold txt at HD
  refine HD.out.mono ?_; rintro e w3 ⟨rfl, rfl⟩
  go_wp2_with fail
  go_end0
  exact ⟨rfl, HR2.out, HS2.out⟩
set_option maxRecDepth 10000 in
set_option maxHeartbeats 1000000 in
theorem drop_some (h : SpI o w q p S c) (k : List UInt8) {H : Hd} (hS : S k = some H) (hc : c ≤ 4611686018427387904) :
    Calls Tryz.prog 122 #[.pointer (some ⟨p, 0, none⟩), txt k] w fun e w' => e = .returned (.bool true) ∧ ∃ o', SpI o' w' q p (S.del k) (c + 1) ∧ Stp q o w o' w' := by
  obtain ⟨m, d, m2, a, kvs, h⟩ := h
  have hv := h.vals k
  rw [hS] at hv
  cases hm : mfind kvs k with
  | none => rw [hm] at hv; exact hv.elim
  | some u =>
    rw [hm] at hv
    obtain ⟨l, f, r, rfl, hv3, hsm⟩ := hv
    have hlk := run_look (P := Tryz.prog) h.keys Tryz.underlying69 Tryz.underlying9 k true (zeroHd _)
    rw [hm] at hlk
    obtain ⟨a1, c1, rfl, _⟩ := hv3.list.slice
    obtain ⟨a2, c2, rfl, _⟩ := hv3.fields.slice
    obtain ⟨a3, c3, rfl, _⟩ := hv3.ranked.slice
    obtain ⟨⟨kind, text, list, fields, ranked⟩, due, ver⟩ := H
    have hcl := h.blk.cell
    have h := h.from (r := q ++ [3])
    have hst := Stp.from0 q o w (q ++ [3])
    have hnew : ∀ b, w.heap.size ≤ b → o.from w.heap.size (q ++ [3]) b = q ++ [3] := fun b hb => Roles.from_new hb
    generalize o.from w.heap.size (q ++ [3]) = o1 at *
    obtain ⟨w1, hw1⟩ : ∃ w1, w1 = w.alloc (.cells #[.int .i64 kind, .string ⟨text.toArray⟩, .slice a1 list.length c1, .slice a2 fields.length c2, .slice a3 ranked.length c3, .int .i64 due, .int .u64 ver] 95) := ⟨_, rfl⟩
    have hB : Below w.heap.size w w1 := by rw [hw1]; exact (Below.refl _ _).alloc (Nat.le_refl _) _
    have HR1 := Lib.hid (h.below hB)
    have HST := Lib.hid (hst.trans (Stp.ofBelow q o1 hB))
    clear h hm hS hv3 hsm hst hnew hB
    unfold txt at *
    simp only [Option.getD_some, Option.isSome_some, if_true] at hlk
    go_enter Tryz.func122, Tryz.ntmps122
    go_wp2_with fail
    rw [← hw1]
    clear hw1 hlk hcl
    refine (touch_ok HR1.out k hc).mono ?_; rintro e w3 ⟨rfl, hw3⟩
    have hR3 : SpR o1 w3 q p m d m2 a kvs S (c + 1) := by rw [hw3]; exact HR1.out.touched
    have hST3 : Stp q o1 w1 o1 w3 := by rw [hw3]; exact (Stp.refl q o1 w1).setCell (by show q <+: o1 p; rw [HR1.out.blk.role]; exact List.prefix_refl _) _
    have HR3 := Lib.hid hR3
    have HST3 := Lib.hid (HST.out.trans hST3)
    clear hw3 hR3 hST3 HST HR1
    go_wp2_with fail
    refine (free_ok HR3.out k).mono ?_; rintro e w4 ⟨rfl, hR4, st4⟩
    have HR4 := Lib.hid hR4
    have HST4 := Lib.hid (HST3.out.trans (st4.wide (List.prefix_append _ _)))
    clear hR4 st4 HR3 HST3
    go_wp2_with fail
    refine (note_ok HR4.out _ _ _ _ _ _ _ _).mono ?_
    rintro e w6 ⟨rfl, hB6⟩
    have HB6 := Lib.hid hB6
    clear hB6
    go_wp2_with fail
    go_ret
    exact ⟨rfl, o1, ⟨m, d, m2, a, _, HR4.out.below HB6.out⟩, HST4.out.trans (Stp.ofBelow q o1 HB6.out)⟩
end
end Go.Proofs.YtgmmeeikjofefaaGreatDoor
namespace Go.Proofs.YtgmmeeikjofefaaGreatDoor
open Go Go.RowKit
/-! The space as the layers above meet it: what a key holds at a tick. -/
structure Cnt where
  num : Nat
  few : Nat
def Cnt.next (c : Cnt) : Cnt := ⟨c.num + 1, c.few + 1⟩
def Hd.over (h : Hd) (now : Int) : Bool := h.due != 0 && decide (h.due ≤ now)
def SP.at (S : SP) (now : Int) (k : List UInt8) : Option Hd := (S k).filter fun h => !h.over now
theorem SP.at_some {S : SP} {now : Int} {k : List UInt8} {h : Hd} (e : S.at now k = some h) : S k = some h ∧ h.over now = false := by
  unfold SP.at at e
  rw [Option.filter_eq_some_iff] at e
  exact ⟨e.1, by simpa using e.2⟩
def SpJ (o : Roles) (w : World) (q : List Nat) (p : Nat) (S : SP) (c : Cnt) : Prop := SpI o w q p S c.num
section
variable {o o' : Roles} {w w' : World} {q s : List Nat} {p : Nat} {c : Cnt} {S : SP}
theorem SpJ.keep (h : SpJ o w q p S c) (st : Stp s o w o' w') (hn : Apart s q) : SpJ o' w' q p S c := SpI.keep h st hn
theorem SpJ.below (h : SpJ o w q p S c) (hB : Below w.heap.size w w') : SpJ o w' q p S c := SpI.below h hB
theorem SpJ.drewN (h : SpJ o w q p S c) (k : Nat) : SpJ o (w.drewN k) q p S c := SpI.drewN h k
theorem SpJ.role (h : SpJ o w q p S c) : o p = q ∧ p < w.heap.size := by
  obtain ⟨m, d, m2, a, kvs, h⟩ := h
  exact ⟨h.blk.role, h.blk.lt⟩
theorem SpJ.due0 (h : SpJ o w q p S c) {k : List UInt8} {H : Hd} (e : S k = some H) : H.due = 0 := by
  obtain ⟨m, d, m2, a, kvs, h⟩ := h
  exact h.due0 k H e
theorem SpJ.at_eq (h : SpJ o w q p S c) (now : Int) (k : List UInt8) : S.at now k = S k := by
  unfold SP.at
  cases e : S k with
  | none => rfl
  | some H => simp [Hd.over, h.due0 e]
theorem SpJ.small (h : SpJ o w q p S c) {now : Int} {k : List UInt8} {H : Hd} (e : S.at now k = some H) : VSmall H.v := by
  rw [h.at_eq] at e
  obtain ⟨m, d, m2, a, kvs, h⟩ := h
  have hv := h.vals k
  rw [e] at hv
  cases hm : mfind kvs k with
  | none => rw [hm] at hv; exact hv.elim
  | some u => rw [hm] at hv; obtain ⟨_, _, _, _, _, hs⟩ := hv; exact hs
theorem small0 : VSmall hd0.v := ⟨by simp, by simp, by simp, by simp⟩
theorem SpJ.small' (h : SpJ o w q p S c) (now : Int) (k : List UInt8) : VSmall ((S.at now k).getD hd0).v := by
  cases e : S.at now k with
  | none => exact small0
  | some H => exact h.small e
theorem jnew_ok (o : Roles) (w : World) (q : List Nat) : Calls Tryz.prog 10 #[] w fun e w' => ∃ p o', e = .returned (.pointer (some ⟨p, 0, none⟩)) ∧ SpJ o' w' q p (fun _ => none) ⟨0, 0⟩ ∧ Stp q o w o' w' := new_ok o w q
theorem jget_ok (h : SpJ o w q p S c) (k : List UInt8) (now : Int) : Calls Tryz.prog 119 #[.pointer (some ⟨p, 0, none⟩), txt k, .int .i64 now] w (GetDid w ((S.at now k).getD hd0).v (S.at now k).isSome) := by
  rw [h.at_eq]; exact get_ok h k now
def DueDid (w : World) (H : Option Hd) (e : Ending) (w' : World) : Prop := e = .returned (.tuple #[.int .i64 (H.getD hd0).due, .bool H.isSome]) ∧ Below w.heap.size w w'
theorem jdue_ok (h : SpJ o w q p S c) (k : List UInt8) (now : Int) : Calls Tryz.prog 31 #[.pointer (some ⟨p, 0, none⟩), txt k, .int .i64 now] w (DueDid w (S.at now k)) := by
  rw [h.at_eq]; exact due_ok h k now
def PutJ (o : Roles) (w : World) (q : List Nat) (p : Nat) (S : SP) (c : Cnt) (e : Ending) (w' : World) : Prop :=
  e = .returned (.int .i64 0) ∧ ∃ o', SpJ o' w' q p S c ∧ Stp q o w o' w'
theorem jput_ok {A : Nat → Prop} {V : VV} {l f r : Value} (h : SpJ o w q p S c) (k : List UInt8) (hv : Val3 A w V l f r) (hs : VSmall V) (hA : ∀ b, A b → b ≠ p) (due : Int) (hd : due = 0)
    (hck : ∀ W, Below w.heap.size w W → Calls Tryz.prog 87 #[valV V l f r] W fun e w' => e = .returned (.int .i64 0) ∧ Below W.heap.size W w') (hc : c.num ≤ 1099511627776) :
    Calls Tryz.prog 44 #[.pointer (some ⟨p, 0, none⟩), txt k, valV V l f r, .int .i64 due] w (PutJ o w q p (S.put k ⟨V, due, c.num + 1⟩) c.next) := by
  subst hd
  exact put_ok h k hv hs hA hck (by omega)
theorem jdrop_ok (h : SpJ o w q p S c) (k : List UInt8) {H : Hd} (hS : S k = some H) (hc : c.num ≤ 1099511627776) :
    Calls Tryz.prog 122 #[.pointer (some ⟨p, 0, none⟩), txt k] w fun e w' => e = .returned (.bool true) ∧ ∃ o', SpJ o' w' q p (S.del k) c.next ∧ Stp q o w o' w' := drop_some h k hS (by omega)
end
/-- A role that no block bears. -/
theorem fresh_role (o : Roles) : ∀ n : Nat, ∃ m, ∀ b, b < n → ¬ [m] <+: o b := by
  have h : ∀ n : Nat, ∃ m, ∀ b, b < n → ∀ k t, o b = k :: t → k < m := by
    intro n
    induction n with
    | zero => exact ⟨0, fun b hb => absurd hb (Nat.not_lt_zero _)⟩
    | succ n ih =>
      obtain ⟨m, hm⟩ := ih
      refine ⟨m + (o n).headD 0 + 1, fun b hb k t e => ?_⟩
      rcases Nat.lt_succ_iff_lt_or_eq.1 hb with h | rfl
      · have := hm b h k t e; omega
      · rw [e]; simp; omega
  intro n
  obtain ⟨m, hm⟩ := h n
  refine ⟨m, fun b hb hp => ?_⟩
  cases e : o b with
  | nil => rw [e] at hp; simp at hp
  | cons k t =>
    rw [e, List.cons_prefix_cons] at hp
    have := hm b hb k t e
    omega
/-- A step at blocks of a role that no old block bears. -/
theorem Stp.hide {q r : List Nat} {o o1 o2 : Roles} {w w1 w2 : World} (h1 : Stp q o w o1 w1) (h2 : Stp r o1 w1 o2 w2) (hr : ∀ b, b < w.heap.size → ¬ r <+: o b) : Stp q o w o2 w2 :=
  ⟨h2.os.trans h1.os, h2.tape.trans h1.tape, h2.output.trans h1.output, Nat.le_trans h1.size h2.size,
   fun b hb => (h2.old b (Nat.lt_of_lt_of_le hb h1.size)).trans (h1.old b hb),
   fun b hb hq => (h2.block b (Nat.lt_of_lt_of_le hb h1.size) (by rw [h1.old b hb]; exact hr b hb)).trans (h1.block b hb hq)⟩
theorem apart_fresh {m : Nat} {o : Roles} {n p : Nat} {q : List Nat} (hm : ∀ b, b < n → ¬ [m] <+: o b) (hp : p < n) (hq : o p = q) (h0 : q ≠ []) : Apart [m] q := by
  intro t ht
  cases q with
  | nil => exact h0 rfl
  | cons a s =>
    rw [List.cons_append, List.cons_prefix_cons] at ht
    exact hm p hp (by rw [hq, List.cons_prefix_cons]; exact ⟨ht.1, List.nil_prefix⟩)
theorem apart_fresh' {m : Nat} {o : Roles} {n p : Nat} {q : List Nat} (hm : ∀ b, b < n → ¬ [m] <+: o b) (hp : p < n) (hq : o p = q) (h0 : q ≠ []) : Apart q [m] := by
  intro t ht
  cases q with
  | nil => exact h0 rfl
  | cons a s =>
    rw [List.cons_append, List.cons_prefix_cons] at ht
    exact hm p hp (by rw [hq, List.cons_prefix_cons]; exact ⟨ht.1.symm, List.nil_prefix⟩)
end Go.Proofs.YtgmmeeikjofefaaGreatDoor
