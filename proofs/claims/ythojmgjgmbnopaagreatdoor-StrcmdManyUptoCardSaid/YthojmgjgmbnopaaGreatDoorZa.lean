import Derived.Test.YthojmgjgmbnopaaGreatDoorUe
import Derived.Test.YthojmgjgmbnopaaGreatDoorXF
import Derived.Deep.QuietTactic
import Derived.BigQuiet
namespace Go.Proofs.YthojmgjgmbnopaaGreatDoor
open Go Go.RowKit
/-! The document's Same of two like values. -/
set_option maxRecDepth 10000 in
set_option maxHeartbeats 1000000 in
theorem rsame_eq {A B : Nat → Prop} {w : World} {va vb : Value} {l : List (List UInt8)} (ha : Vw A w va 1 l.length (l.map txt)) (hb : Vw B w vb 1 l.length (l.map txt)) (hl : l.length ≤ 1099511627776) :
    Calls Tryz.prog 53 #[va, vb] w fun e w' => e = .returned (.bool true) ∧ Below w.heap.size w w' := by
  obtain ⟨a1, cap1, rfl, hcap1, _⟩ := id ha.slice
  obtain ⟨a2, cap2, rfl, hcap2, _⟩ := id hb.slice
  have HA := Lib.hid ha
  have HB := Lib.hid hb
  clear ha hb
  go_enter Tryz.func53, Tryz.ntmps53
  go_wp2_with fail
  go_loopw [5] (fun i wr => ∃ k q : Nat, k ≤ l.length ∧ i = .int .i64 (k : Int) ∧ wr = w.drewN q) (fun i _ => l.length - (intOf i).toNat)
  case atStart => exact ⟨0, 0, Nat.zero_le _, rfl, rfl⟩
  case round =>
    obtain ⟨k, q, hk, rfl, rfl⟩ := hrel
    by_cases hkl : k < l.length
    · obtain ⟨x, hx⟩ : ∃ x, l[k]? = some x := ⟨_, List.getElem?_eq_getElem hkl⟩
      obtain ⟨b1, off1, rfl, _, _, hg1⟩ := vw_get HA.out (by omega)
      obtain ⟨b2, off2, rfl, _, _, hg2⟩ := vw_get HB.out (by omega)
      have hc1 := hg1 k x hx
      have hc2 := hg2 k x hx
      have hkI : (0 : Int) ≤ k ∧ (k : Int) < l.length := by omega
      obtain ⟨hk0, hk1⟩ := hkI
      clear hg1 hg2 hx HA HB
      go_wp2_with fail
      go_quiet (fail)
      go_wp2_with fail
      go_roundw
      case rel => exact ⟨k + 1, _, hkl, by go_num, by first | rfl | exact World.drewN_drewN _ _ _⟩
      case measure => simp [intOf]; omega
    · obtain rfl : k = l.length := by omega
      clear HA HB
      go_wp2_with fail
      go_ret
      exact ⟨rfl, below_drewN (Below.refl _ _) q⟩
set_option maxRecDepth 10000 in
set_option maxHeartbeats 4000000 in
theorem vsame_ok {A B : Nat → Prop} {w : World} {V : VV} {l f r l' f' r' : Value} (h : Val3 A w V l f r) (h' : Val3 B w V l' f' r') (hs : VSmall V) :
    Calls Tryz.prog 37 #[valV V l f r, valV V l' f' r'] w fun e w' => e = .returned (.bool true) ∧ Below w.heap.size w w' := by
  obtain ⟨kind, text, list, fields, ranked⟩ := V
  obtain ⟨hl, hf, hr⟩ := h
  obtain ⟨hl', hf', hr'⟩ := h'
  obtain ⟨_, hs1, hs2, hs3⟩ := hs
  dsimp only at hl hf hr hl' hf' hr' hs1 hs2 hs3
  obtain ⟨a1, k1, rfl, _⟩ := id hl.slice
  obtain ⟨a2, k2, rfl, _⟩ := id hf.slice
  obtain ⟨a3, k3, rfl, _⟩ := id hr.slice
  obtain ⟨b1, j1, rfl, _⟩ := id hl'.slice
  obtain ⟨b2, j2, rfl, _⟩ := id hf'.slice
  obtain ⟨b3, j3, rfl, _⟩ := id hr'.slice
  let W1 : World := (w.alloc (.cells #[.int .i64 kind, .string ⟨text.toArray⟩, .slice a1 list.length k1, .slice a2 fields.length k2, .slice a3 ranked.length k3] 43)).alloc (.cells #[.int .i64 kind, .string ⟨text.toArray⟩, .slice b1 list.length j1, .slice b2 fields.length j2, .slice b3 ranked.length j3] 43)
  have hB1 : Below w.heap.size w W1 := ((Below.refl w.heap.size w).alloc (Nat.le_refl _) _).alloc (by simp) _
  have hz1 : w.heap.size + 2 ≤ W1.heap.size := by simp [W1]
  have hb1 : Blk none0 W1 [] w.heap.size #[.int .i64 kind, .string ⟨text.toArray⟩, .slice a1 list.length k1, .slice a2 fields.length k2, .slice a3 ranked.length k3] 43 := ⟨by rw [Below.heap_alloc _ _ _ (by simp)]; exact heap_alloc_new w _, rfl⟩
  have hd1 : Blk none0 W1 [] (w.heap.size + 1) #[.int .i64 kind, .string ⟨text.toArray⟩, .slice b1 list.length j1, .slice b2 fields.length j2, .slice b3 ranked.length j3] 43 := ⟨by rw [show w.heap.size + 1 = (w.alloc (.cells #[.int .i64 kind, .string ⟨text.toArray⟩, .slice a1 list.length k1, .slice a2 fields.length k2, .slice a3 ranked.length k3] 43)).heap.size from by simp]; exact heap_alloc_new _ _, rfl⟩
  have HS := Lib.hid (rsame_eq (hl.below hB1) (hl'.below hB1) hs1)
  have HF := Lib.hid hf
  have HR := Lib.hid hr
  have HF' := Lib.hid hf'
  have HR' := Lib.hid hr'
  have HB1 := Lib.hid hB1
  have HZ1 := Lib.hid hz1
  have Hb1 := Lib.hid hb1
  have Hd1 := Lib.hid hd1
  have hc1 := hb1.cell
  have hc2 := hd1.cell
  clear hl hf hr hl' hf' hr' hB1 hz1 hb1 hd1
  go_enter Tryz.func37, Tryz.ntmps37
  go_wp2_with fail
  refine HS.out.mono ?_; rintro e w2 ⟨rfl, hB2⟩
  have hc3 := (Hb1.out.below hB2).cell
  have hc4 := (Hd1.out.below hB2).cell
  have hl3 : w.heap.size < w2.heap.size := by have := hB2.size; have := HZ1.out; omega
  have hl4 : w.heap.size + 1 < w2.heap.size := by have := hB2.size; have := HZ1.out; omega
  have hB : Below w.heap.size w w2 := HB1.out.trans (hB2.mono HB1.out.size)
  have HBB := Lib.hid hB
  clear hc1 hc2 HS Hb1 Hd1 HB1 HZ1 hB2 hB
  go_wp2_with fail
  go_loopw [5] (fun i wr => ∃ k q : Nat, k ≤ fields.length ∧ i = .int .i64 (k : Int) ∧ wr = w2.drewN q) (fun i _ => fields.length - (intOf i).toNat)
  case atStart => exact ⟨0, 0, Nat.zero_le _, rfl, rfl⟩
  case round =>
    obtain ⟨k, q, hk, rfl, rfl⟩ := hrel
    by_cases hkl : k < fields.length
    · obtain ⟨⟨x, y⟩, hx⟩ : ∃ x, fields[k]? = some x := ⟨_, List.getElem?_eq_getElem hkl⟩
      obtain ⟨b4, o4, rfl, _, hb4, hg1⟩ := vw_fields (HF.out.below HBB.out) hx
      obtain ⟨b5, o5, rfl, _, hb5, hg2⟩ := vw_fields (HF'.out.below HBB.out) hx
      obtain ⟨e1, e2⟩ := hg1 k _ hx
      obtain ⟨e3, e4⟩ := hg2 k _ hx
      have hkI : (0 : Int) ≤ k ∧ (k : Int) < fields.length := by omega
      obtain ⟨hk0, hk1⟩ := hkI
      dsimp only at e1 e2 e3 e4
      clear hg1 hg2 hx HF HF' HR HR' HBB
      go_wp2_with fail
      go_quiet (fail)
      go_wp2_with fail
      go_roundw
      case rel => exact ⟨k + 1, _, hkl, by go_num, by first | rfl | exact World.drewN_drewN _ _ _⟩
      case measure => simp [intOf]; omega
    · obtain rfl : k = fields.length := by omega
      clear HF HF'
      go_wp2_with fail
      go_loopw [6] (fun i wr => ∃ k q : Nat, k ≤ ranked.length ∧ i = .int .i64 (k : Int) ∧ wr = w2.drewN q) (fun i _ => ranked.length - (intOf i).toNat)
      case atStart => exact ⟨0, _, Nat.zero_le _, rfl, rfl⟩
      case round =>
        obtain ⟨k, q, hk, rfl, rfl⟩ := hrel
        by_cases hkl : k < ranked.length
        · obtain ⟨⟨x, y⟩, hx⟩ : ∃ x, ranked[k]? = some x := ⟨_, List.getElem?_eq_getElem hkl⟩
          obtain ⟨b4, o4, rfl, _, hb4, hg1⟩ := vw_scrs (HR.out.below HBB.out) hx
          obtain ⟨b5, o5, rfl, _, hb5, hg2⟩ := vw_scrs (HR'.out.below HBB.out) hx
          obtain ⟨e1, e2⟩ := hg1 k _ hx
          obtain ⟨e3, e4⟩ := hg2 k _ hx
          have hkI : (0 : Int) ≤ k ∧ (k : Int) < ranked.length := by omega
          obtain ⟨hk0, hk1⟩ := hkI
          dsimp only at e1 e2 e3 e4
          clear hg1 hg2 hx HR HR' HBB
          go_wp2_with fail
          go_quiet (fail)
          go_wp2_with fail
          go_roundw
          case rel => exact ⟨k + 1, _, hkl, by go_num, by first | rfl | exact World.drewN_drewN _ _ _⟩
          case measure => simp [intOf]; omega
        · obtain rfl : k = ranked.length := by omega
          have HE := Lib.hid (below_drewN HBB.out q)
          clear HR HR' HBB
          go_wp2_with fail
          go_ret
          exact ⟨rfl, HE.out⟩
end Go.Proofs.YthojmgjgmbnopaaGreatDoor
