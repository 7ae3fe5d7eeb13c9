import Derived.Test.YtgmmeeikjofefaaGreatDoorSe
namespace Go.Proofs.YtgmmeeikjofefaaGreatDoor
open Go Go.RowKit
/-! value.Check. -/
theorem bcell {W w1 : World} (hb : Below W.heap.size W w1) : (∀ b o, b < W.heap.size → w1.cell? ⟨b, o, none⟩ = W.cell? ⟨b, o, none⟩) ∧ (∀ b o, b < W.heap.size → w1.frozen? ⟨b, o, none⟩ = W.frozen? ⟨b, o, none⟩) :=
  ⟨fun b o h => hb.cell (p := ⟨b, o, none⟩) h, fun b o h => hb.frozen (p := ⟨b, o, none⟩) h⟩
theorem upon_method {P : Program} {op : Oper} {act : Act} {K : Act → World → Prop} {Q : Exit → Act → World → Prop} {w : World} {n t : Nat} {x y : Value} {nm : String} {f : FuncId} (h : (method n t x nm).run P w = .ok (f, y) w)
    (hK : Oper.upon P op act K Q ((callFunc f #[y]).run P w)) : Oper.upon P op act K Q (((method n t x nm).run P w).andThen fun a w' => (callFunc a.fst #[a.snd]).run P w') := by
  rw [h]; exact hK
set_option maxRecDepth 10000 in
theorem vshort_ok (s : List UInt8) (w : World) : Calls Tryz.prog 262 #[txt s] w fun e w' => e = .returned (.bool (decide (s.length ≤ 1048576))) ∧ w' = w := by
  have hsz : (⟨s.toArray⟩ : ByteArray).size = s.length := by simp [ByteArray.size]
  have hd : decide ((s.length : Int) ≤ 1048576) = decide (s.length ≤ 1048576) := by simp; omega
  unfold txt
  go_enter Tryz.func262, Tryz.ntmps262
  go_wp2
  go_ret
  exact ⟨by rw [← hd]; rfl, rfl⟩
set_option maxRecDepth 10000 in
theorem vlong_ok (s : List UInt8) (w : World) (h : s.length ≤ 1048576) : Calls Tryz.prog 267 #[txt s] w fun e w' => e = .returned (.bool false) ∧ w' = w := by
  have H := vshort_ok s w
  rw [decide_eq_true h] at H
  unfold txt at *
  go_enter Tryz.func267, Tryz.ntmps267
  go_wp2_with fail
  refine H.mono ?_; rintro e w' ⟨rfl, rfl⟩
  go_wp2_with fail
  go_ret
  exact ⟨rfl, rfl⟩
set_option maxRecDepth 10000 in
set_option maxHeartbeats 1000000 in
theorem indexF_ok {A : Nat → Prop} {w : World} {v : Value} {ws : List (List UInt8)} (h : Vw A w v 1 ws.length (ws.map txt)) (hs : ∀ x ∈ ws, x.length ≤ 1048576) (hn : ws.length ≤ 1099511627776) :
    Calls Tryz.prog 268 #[v, .func (.func 267) #[] #[]] w fun e w' => e = .returned (.int .i64 (-1)) ∧ w' = w := by
  obtain ⟨⟨a, cap, rfl, h1, h2, h3⟩, h4⟩ := h
  clear h4
  go_enter Tryz.func268, Tryz.ntmps268
  go_wp2_with fail
  go_loopw [8] (fun i wr => wr = w ∧ ∃ k : Nat, k ≤ ws.length ∧ i = .int .i64 (k : Int)) (fun i _ => ws.length - (intOf i).toNat)
  case atStart => exact ⟨rfl, 0, Nat.zero_le _, rfl⟩
  case round =>
    obtain ⟨rfl, k, hk, rfl⟩ := hrel
    by_cases hkl : k < ws.length
    · obtain ⟨x, hx⟩ : ∃ x, ws[k]? = some x := ⟨_, List.getElem?_eq_getElem hkl⟩
      rcases h3 with h3 | ⟨b, off, rfl, hb, _, hc⟩
      · omega
      have hcell : wr.cell? ⟨b, off + k, none⟩ = some (.string ⟨x.toArray⟩) := hc k (txt x) (by rw [List.getElem?_map, hx]; rfl)
      have HX := Lib.hid (vlong_ok x wr (hs x (List.mem_of_getElem? hx)))
      clear hc hs hx
      unfold txt at HX
      go_wp2_with fail
      refine HX.out.mono ?_; rintro e w1 ⟨rfl, rfl⟩
      go_wp2_with fail
      go_roundw
      case rel => exact ⟨trivial, k + 1, hkl, by go_num⟩
      case measure => simp [intOf]; omega
    · clear h3 hs
      go_wp2_with fail
      go_ret
      exact ⟨rfl, rfl⟩
set_option maxRecDepth 10000 in
theorem vlright_ok {A : Nat → Prop} {w : World} {v : Value} {ws : List (List UInt8)} (h : Vw A w v 1 ws.length (ws.map txt)) (hs : ∀ x ∈ ws, x.length ≤ 1048576) (hn : ws.length ≤ 1099511627776) :
    Calls Tryz.prog 264 #[v] w fun e w' => e = .returned (.bool true) ∧ w' = w := by
  have H := Lib.hid (indexF_ok h hs hn)
  obtain ⟨a, cap, rfl, _⟩ := h.slice
  clear h hs
  have H2 : Calls Tryz.prog 266 #[.slice a ws.length cap, .func (.func 267) #[] #[]] w fun e w' => e = .returned (.bool false) ∧ w' = w := by
    go_enter Tryz.func266, Tryz.ntmps266
    go_wp2_with fail
    refine H.out.mono ?_; rintro e w' ⟨rfl, rfl⟩
    go_wp2_with fail
    go_ret
    exact ⟨rfl, rfl⟩
  go_enter Tryz.func264, Tryz.ntmps264
  go_wp2_with fail
  refine H2.mono ?_; rintro e w' ⟨rfl, rfl⟩
  go_wp2_with fail
  go_ret
  exact ⟨rfl, rfl⟩
set_option maxRecDepth 10000 in
theorem vof_list (w : World) (l f r : Value) (V : VV) (hk : V.kind = 2) (hl : ∃ a n c, l = .slice a n c) (hf : ∃ a n c, f = .slice a n c) (hr : ∃ a n c, r = .slice a n c) : Calls Tryz.prog 134 #[valV V l f r] w fun e w' => e = .returned (.tuple #[.iface 200 l, .bool true]) ∧ Below w.heap.size w w' := by
  obtain ⟨kind, text, list, fields, ranked⟩ := V
  dsimp only at hk
  subst hk
  obtain ⟨a1, n1, c1, rfl⟩ := hl
  obtain ⟨a2, n2, c2, rfl⟩ := hf
  obtain ⟨a3, n3, c3, rfl⟩ := hr
  go_enter Tryz.func134, Tryz.ntmps134
  go_wp2
  go_ret2
  exact ⟨rfl, (Below.refl _ _).alloc (Nat.le_refl _) _⟩
set_option maxRecDepth 10000 in
theorem vcheck_list {A : Nat → Prop} {w : World} {V : VV} {l f r : Value} (h : Val3 A w V l f r) (hk : V.kind = 2) (ht : V.text = []) (hf : V.fields = []) (hr : V.ranked = []) (hne : V.list ≠ []) (hs : ∀ x ∈ V.list, x.length ≤ 1048576) (hn : V.list.length ≤ 1099511627776) :
    Calls Tryz.prog 87 #[valV V l f r] w fun e w' => e = .returned (.int .i64 0) ∧ Below w.heap.size w w' := by
  obtain ⟨a1, c1, e1, _⟩ := h.list.slice
  obtain ⟨a2, c2, e2, _⟩ := h.fields.slice
  obtain ⟨a3, c3, e3, _⟩ := h.ranked.slice
  have HO := Lib.hid (fun W => vof_list W l f r V hk ⟨_, _, _, e1⟩ ⟨_, _, _, e2⟩ ⟨_, _, _, e3⟩)
  have HR := Lib.hid (fun W (hB : Below w.heap.size w W) => vlright_ok (h.list.below hB) hs hn)
  obtain ⟨kind, text, list, fields, ranked⟩ := V
  dsimp only at hk ht hf hr hne hs hn e1 e2 e3 HO HR
  subst hk ht hf hr e1 e2 e3
  have h0 : ((list.length : Int) == 0) = false := beq_eq_false_iff_ne.2 (by cases list with | nil => exact absurd rfl hne | cons x t => simp; omega)
  clear h hs hne
  go_enter Tryz.func87, Tryz.ntmps87
  go_wp2_with fail
  refine (HO.out _).mono ?_; rintro e w2 ⟨rfl, hB2⟩
  have HB2 := Lib.hid (((Below.refl w.heap.size w).alloc (Nat.le_refl _) _).trans (hB2.mono (by simp)))
  obtain ⟨hq, _⟩ := bcell hB2
  have x0 : w2.cell? ⟨w.heap.size, 0, none⟩ = some (.int .i64 2) := by rw [hq _ _ (by simp)]; simp [go_sem]
  have x1 : w2.cell? ⟨w.heap.size, 1, none⟩ = some (.string ⟨#[]⟩) := by rw [hq _ _ (by simp)]; simp [go_sem]
  have x2 : w2.cell? ⟨w.heap.size, 2, none⟩ = some (.slice a1 list.length c1) := by rw [hq _ _ (by simp)]; simp [go_sem]
  have x3 : w2.cell? ⟨w.heap.size, 3, none⟩ = some (.slice a2 0 c2) := by rw [hq _ _ (by simp)]; simp [go_sem]
  have x4 : w2.cell? ⟨w.heap.size, 4, none⟩ = some (.slice a3 0 c3) := by rw [hq _ _ (by simp)]; simp [go_sem]
  clear hB2 hq HO
  go_wp2_with fail
  clear x0 x1 x2 x3 x4
  refine upon_method (f := 263) (y := .slice a1 list.length c1) (by kernel_rfl) ?_
  have HE : Calls Tryz.prog 263 #[.slice a1 list.length c1] w2 fun e w' => e = .returned (.bool false) ∧ w' = w2 := by
    go_enter Tryz.func263, Tryz.ntmps263
    go_wp2
    go_ret
    exact ⟨rfl, rfl⟩
  clear h0
  go_wp2_with fail
  refine HE.mono ?_; rintro e w3 ⟨rfl, rfl⟩
  go_wp2_with fail
  refine upon_method (f := 264) (y := .slice a1 list.length c1) (by kernel_rfl) ?_
  go_wp2_with fail
  refine (HR.out _ HB2.out).mono ?_; rintro e w4 ⟨rfl, rfl⟩
  go_wp2_with fail
  go_ret
  exact ⟨rfl, HB2.out⟩
end Go.Proofs.YtgmmeeikjofefaaGreatDoor
