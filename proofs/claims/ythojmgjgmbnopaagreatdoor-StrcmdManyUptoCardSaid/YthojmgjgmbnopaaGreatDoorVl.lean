import Derived.Test.YthojmgjgmbnopaaGreatDoorJF
import Derived.Deep.DeepCutAuto
import Derived.Deep.RegionHeld
namespace Go.Proofs.YthojmgjgmbnopaaGreatDoor
open Go Go.RowKit
/-! May a hash be? -/
theorem fldAt_zero {L : List Fld} {x : Fld} (hx : L[0]? = some x) : fldAt L 0 = (shortB x.1 && shortB x.2) := by unfold fldAt; rw [hx]; simp
theorem fldAt_succ {L : List Fld} {i : Nat} {p x : Fld} (hp : L[i]? = some p) (hx : L[i + 1]? = some x) : fldAt L (i + 1) = (shortB x.1 && shortB x.2 && ltB p.1 x.1) := by
  unfold fldAt; rw [hx]; simp [hp]
def HrRel (w : World) (L : List Fld) (i : Value) (wr : World) : Prop := ∃ k : Nat, k ≤ L.length ∧ i = .int .i64 (k : Int) ∧ Below w.heap.size w wr ∧ (List.range k).all (fldAt L) = true
set_option maxRecDepth 10000 in
set_option maxHeartbeats 4000000 in
theorem hright_any {A : Nat → Prop} {w : World} {v : Value} {L : List Fld} (h : Vw A w v 2 L.length (fieldsC L)) (hn : L.length ≤ 1099511627776) :
    Calls Tryz.prog 346 #[v] w fun e w' => e = .returned (.bool (hashB L)) ∧ Below w.heap.size w w' := by
  obtain ⟨a, cap, rfl, _⟩ := id h.slice
  have HV := Lib.hid h
  clear h
  go_enter Tryz.func346, Tryz.ntmps346
  go_wp2_with fail
  go_loopw [7] (fun i wr => HrRel w L i wr) (fun i _ => L.length - (intOf i).toNat)
  case atStart => exact ⟨0, Nat.zero_le _, rfl, Below.refl _ _, rfl⟩
  case round =>
    obtain ⟨k, hk, rfl, hB, hall⟩ := hrel
    by_cases hkl : k < L.length
    · obtain ⟨⟨x1, x2⟩, hx⟩ : ∃ x, L[k]? = some x := ⟨_, List.getElem?_eq_getElem hkl⟩
      obtain ⟨b, off, rfl, hcap, hbl, hcs⟩ := vw_fields (HV.out.below hB) hx
      obtain ⟨hc1, hc2⟩ := hcs k _ hx
      have hkI : (0 : Int) ≤ k ∧ (k : Int) < L.length := by omega
      have HS1 := Lib.hid (fun W => vshort_ok x1 W)
      have HS2 := Lib.hid (fun W => vshort_ok x2 W)
      obtain ⟨w1, hw1⟩ : ∃ w1, w1 = wr.alloc (.cells #[.string ⟨x1.toArray⟩, .string ⟨x2.toArray⟩] 129) := ⟨_, rfl⟩
      have hB1 : Below wr.heap.size wr w1 := by rw [hw1]; exact (Below.refl _ _).alloc (Nat.le_refl _) _
      have y1 : w1.cell? ⟨wr.heap.size, 0, none⟩ = some (.string ⟨x1.toArray⟩) := by rw [hw1]; simp [go_sem]
      have y2 : w1.cell? ⟨wr.heap.size, 1, none⟩ = some (.string ⟨x2.toArray⟩) := by rw [hw1]; simp [go_sem]
      have HB := Lib.hid (hB.trans (hB1.mono hB.size))
      have HALL := Lib.hid hall
      have HSET := Lib.hid hw1
      have e1 : decide (x1.length ≤ 1048576) = shortB x1 := rfl
      have e2 : decide (x2.length ≤ 1048576) = shortB x2 := rfl
      rw [e1] at HS1
      rw [e2] at HS2
      unfold txt at HS1 HS2
      clear e1 e2 hall hw1
      rcases hb1 : shortB x1 with _ | _
      · have D := Lib.hid (show hashB L = false from all_range_false hkl (by unfold fldAt; rw [hx]; simp [hb1]))
        rw [hb1] at HS1
        clear hb1 hcs hx hB hB1 HV HALL
        go_wp2_with fail
        rw [← HSET.out]
        refine region_walk (S := fun W => W = w1.drew) [(some 12, .pointer (some ⟨wr.heap.size, 0, none⟩)), (some 13, .string ⟨x1.toArray⟩), (some 14, .bool false), (some 15, .bool true), (some 16, .bool true), (some 17, undef), (some 18, undef), (some 19, undef), (some 20, undef), (some 21, .bool true), (some 22, .bool true), (some 23, undef), (some 24, undef), (some 25, undef), (some 26, undef), (some 27, undef), (some 28, undef), (some 29, undef), (some 30, undef), (some 31, undef), (some 32, undef), (some 33, undef), (some 34, undef), (some 35, undef), (some 36, .bool true)] (by simp only [zFin, Act.put, List.setIfInBounds_toArray, List.set_cons_zero, List.set_cons_succ]; exact rfl) (by kernel_rfl) (by kernel_rfl) (by kernel_rfl) (by kernel_rfl) rfl (by kernel_rfl) rfl
          ⟨ZStep.val (by kernel_rfl) (fun W _ => by kernel_rfl),
                  ZStep.val (by kernel_rfl) (fun W hW => by subst hW; go_simp; done),
                  ZStep.call (by kernel_rfl) 335 #[.string ⟨x1.toArray⟩] (fun _ _ => by kernel_rfl) (fun W hW => (HS1.out W).mono (by rintro e w2 ⟨rfl, rfl⟩; exact ⟨rfl, hW⟩)),
                  ZStep.val (by kernel_rfl) (fun W _ => by kernel_rfl),
                  ZStep.val (by kernel_rfl) (fun W _ => by kernel_rfl),
                  ZStep.skip (by kernel_rfl),
                  ZStep.skip (by kernel_rfl),
                  ZStep.skip (by kernel_rfl),
                  ZStep.skip (by kernel_rfl),
                  ZStep.val (by kernel_rfl) (fun W _ => by kernel_rfl),
                  ZStep.val (by kernel_rfl) (fun W _ => by kernel_rfl),
                  ZStep.skip (by kernel_rfl),
                  ZStep.skip (by kernel_rfl),
                  ZStep.skip (by kernel_rfl),
                  ZStep.skip (by kernel_rfl),
                  ZStep.skip (by kernel_rfl),
                  ZStep.skip (by kernel_rfl),
                  ZStep.skip (by kernel_rfl),
                  ZStep.skip (by kernel_rfl),
                  ZStep.skip (by kernel_rfl),
                  ZStep.skip (by kernel_rfl),
                  ZStep.skip (by kernel_rfl),
                  ZStep.skip (by kernel_rfl),
                  ZStep.skip (by kernel_rfl),
                  ZStep.val (by kernel_rfl) (fun W _ => by kernel_rfl), trivial⟩ ?fin
        case fin =>
          rintro W rfl
          go_wp2_with fail
          go_ret
          exact ⟨by rw [D.out]; rfl, HB.out.drew⟩
      rcases hb2 : shortB x2 with _ | _
      · have D := Lib.hid (show hashB L = false from all_range_false hkl (by unfold fldAt; rw [hx]; simp [hb2]))
        rw [hb1] at HS1
        rw [hb2] at HS2
        clear hb1 hb2 hcs hx hB hB1 HV HALL
        go_wp2_with fail
        rw [← HSET.out]
        refine region_walk (S := fun W => W = w1.drew) [(some 12, .pointer (some ⟨wr.heap.size, 0, none⟩)), (some 13, .string ⟨x1.toArray⟩), (some 14, .bool true), (some 15, .bool false), (some 16, .bool false), (some 17, .pointer (some ⟨wr.heap.size, 1, none⟩)), (some 18, .string ⟨x2.toArray⟩), (some 19, .bool false), (some 20, .bool true), (some 21, .bool true), (some 22, .bool true), (some 23, undef), (some 24, undef), (some 25, undef), (some 26, undef), (some 27, undef), (some 28, undef), (some 29, undef), (some 30, undef), (some 31, undef), (some 32, undef), (some 33, undef), (some 34, undef), (some 35, undef), (some 36, .bool true)] (by simp only [zFin, Act.put, List.setIfInBounds_toArray, List.set_cons_zero, List.set_cons_succ]; exact rfl) (by kernel_rfl) (by kernel_rfl) (by kernel_rfl) (by kernel_rfl) rfl (by kernel_rfl) rfl
          ⟨ZStep.val (by kernel_rfl) (fun W _ => by kernel_rfl),
                  ZStep.val (by kernel_rfl) (fun W hW => by subst hW; go_simp; done),
                  ZStep.call (by kernel_rfl) 335 #[.string ⟨x1.toArray⟩] (fun _ _ => by kernel_rfl) (fun W hW => (HS1.out W).mono (by rintro e w2 ⟨rfl, rfl⟩; exact ⟨rfl, hW⟩)),
                  ZStep.val (by kernel_rfl) (fun W _ => by kernel_rfl),
                  ZStep.val (by kernel_rfl) (fun W _ => by kernel_rfl),
                  ZStep.val (by kernel_rfl) (fun W _ => by kernel_rfl),
                  ZStep.val (by kernel_rfl) (fun W hW => by subst hW; go_simp; done),
                  ZStep.call (by kernel_rfl) 335 #[.string ⟨x2.toArray⟩] (fun _ _ => by kernel_rfl) (fun W hW => (HS2.out W).mono (by rintro e w2 ⟨rfl, rfl⟩; exact ⟨rfl, hW⟩)),
                  ZStep.val (by kernel_rfl) (fun W _ => by kernel_rfl),
                  ZStep.val (by kernel_rfl) (fun W _ => by kernel_rfl),
                  ZStep.val (by kernel_rfl) (fun W _ => by kernel_rfl),
                  ZStep.skip (by kernel_rfl),
                  ZStep.skip (by kernel_rfl),
                  ZStep.skip (by kernel_rfl),
                  ZStep.skip (by kernel_rfl),
                  ZStep.skip (by kernel_rfl),
                  ZStep.skip (by kernel_rfl),
                  ZStep.skip (by kernel_rfl),
                  ZStep.skip (by kernel_rfl),
                  ZStep.skip (by kernel_rfl),
                  ZStep.skip (by kernel_rfl),
                  ZStep.skip (by kernel_rfl),
                  ZStep.skip (by kernel_rfl),
                  ZStep.skip (by kernel_rfl),
                  ZStep.val (by kernel_rfl) (fun W _ => by kernel_rfl), trivial⟩ ?fin
        case fin =>
          rintro W rfl
          go_wp2_with fail
          go_ret
          exact ⟨by rw [D.out]; rfl, HB.out.drew⟩
      cases k with
      | zero =>
        rw [Nat.zero_mul, Nat.add_zero] at hc1 hc2
        have D := Lib.hid (show (List.range (0 + 1)).all (fldAt L) = true from by rw [all_range_succ, HALL.out, fldAt_zero hx, hb1, hb2]; rfl)
        rw [hb1] at HS1
        rw [hb2] at HS2
        clear hb1 hb2 hcs hx hB hB1 HV HALL
        go_wp2_with fail
        rw [← HSET.out]
        refine region_walk (S := fun W => W = w1.drew) [(some 12, .pointer (some ⟨wr.heap.size, 0, none⟩)), (some 13, .string ⟨x1.toArray⟩), (some 14, .bool true), (some 15, .bool false), (some 16, .bool false), (some 17, .pointer (some ⟨wr.heap.size, 1, none⟩)), (some 18, .string ⟨x2.toArray⟩), (some 19, .bool true), (some 20, .bool false), (some 21, .bool false), (some 22, .bool false), (some 23, .int .i64 ((0 : Nat) : Int)), (some 24, .bool false), (some 25, .bool false), (some 26, undef), (some 27, undef), (some 28, undef), (some 29, undef), (some 30, undef), (some 31, undef), (some 32, undef), (some 33, undef), (some 34, undef), (some 35, .bool false), (some 36, .bool false)] (by simp only [zFin, Act.put, List.setIfInBounds_toArray, List.set_cons_zero, List.set_cons_succ]; exact rfl) (by kernel_rfl) (by kernel_rfl) (by kernel_rfl) (by kernel_rfl) rfl (by kernel_rfl) rfl
          ⟨ZStep.val (by kernel_rfl) (fun W _ => by kernel_rfl),
                  ZStep.val (by kernel_rfl) (fun W hW => by subst hW; go_simp; done),
                  ZStep.call (by kernel_rfl) 335 #[.string ⟨x1.toArray⟩] (fun _ _ => by kernel_rfl) (fun W hW => (HS1.out W).mono (by rintro e w2 ⟨rfl, rfl⟩; exact ⟨rfl, hW⟩)),
                  ZStep.val (by kernel_rfl) (fun W _ => by kernel_rfl),
                  ZStep.val (by kernel_rfl) (fun W _ => by kernel_rfl),
                  ZStep.val (by kernel_rfl) (fun W _ => by kernel_rfl),
                  ZStep.val (by kernel_rfl) (fun W hW => by subst hW; go_simp; done),
                  ZStep.call (by kernel_rfl) 335 #[.string ⟨x2.toArray⟩] (fun _ _ => by kernel_rfl) (fun W hW => (HS2.out W).mono (by rintro e w2 ⟨rfl, rfl⟩; exact ⟨rfl, hW⟩)),
                  ZStep.val (by kernel_rfl) (fun W _ => by kernel_rfl),
                  ZStep.val (by kernel_rfl) (fun W _ => by kernel_rfl),
                  ZStep.val (by kernel_rfl) (fun W _ => by kernel_rfl),
                  ZStep.val (by kernel_rfl) (fun W _ => by kernel_rfl),
                  ZStep.val (by kernel_rfl) (fun W hW => by go_simp; done),
                  ZStep.val (by kernel_rfl) (fun W _ => by kernel_rfl),
                  ZStep.skip (by kernel_rfl),
                  ZStep.skip (by kernel_rfl),
                  ZStep.skip (by kernel_rfl),
                  ZStep.skip (by kernel_rfl),
                  ZStep.skip (by kernel_rfl),
                  ZStep.skip (by kernel_rfl),
                  ZStep.skip (by kernel_rfl),
                  ZStep.skip (by kernel_rfl),
                  ZStep.skip (by kernel_rfl),
                  ZStep.val (by kernel_rfl) (fun W _ => by kernel_rfl),
                  ZStep.val (by kernel_rfl) (fun W _ => by kernel_rfl), trivial⟩ ?fin
        case fin =>
          rintro W rfl
          go_wp2_with fail
          go_roundw
          case rel => exact ⟨0 + 1, hkl, by go_num, HB.out.drew, D.out⟩
          case measure => simp [intOf]; omega
      | succ i =>
        obtain ⟨⟨p1, p2⟩, hp⟩ : ∃ x, L[i]? = some x := ⟨_, List.getElem?_eq_getElem (by omega)⟩
        have y3 := cell_below hB1 (hcs i _ hp).1
        have hiI : (0 : Int) ≤ i ∧ (i : Int) + 1 < L.length := by omega
        obtain ⟨hi0, hi1⟩ := hiI
        have hi2 : (0 : Int) < ((i + 1 : Nat) : Int) := by omega
        have hi3 : IntKind.i64.wrap (((i + 1 : Nat) : Int) - 1) = (i : Int) := by rw [IntKind.wrap_i64]; omega
        have hi4 : (i : Int) < L.length := by omega
        have hi5 : IntKind.i64.wrap (i : Int) = (i : Int) := by rw [IntKind.wrap_i64]; omega
        rcases hb3 : Op.bytesLess p1 x1 with _ | _
        · have D := Lib.hid (show hashB L = false from all_range_false hkl (by rw [fldAt_succ hp hx, show ltB p1 x1 = _ from hb3, hb1, hb2]; rfl))
          rw [hb1] at HS1
          rw [hb2] at HS2
          clear hb1 hb2 hcs hx hB hB1 HV hp HALL
          go_wp2_with fail
          rw [← HSET.out]
          refine region_walk (S := fun W => W = w1.drew) [(some 12, .pointer (some ⟨wr.heap.size, 0, none⟩)), (some 13, .string ⟨x1.toArray⟩), (some 14, .bool true), (some 15, .bool false), (some 16, .bool false), (some 17, .pointer (some ⟨wr.heap.size, 1, none⟩)), (some 18, .string ⟨x2.toArray⟩), (some 19, .bool true), (some 20, .bool false), (some 21, .bool false), (some 22, .bool false), (some 23, .int .i64 ((i + 1 : Nat) : Int)), (some 24, .bool true), (some 25, .bool true), (some 26, .slice (some ⟨b, off, none⟩) L.length cap), (some 27, .int .i64 ((i + 1 : Nat) : Int)), (some 28, .int .i64 (i : Int)), (some 29, .pointer (some ⟨b, off + i * 2, none⟩)), (some 30, .pointer (some ⟨b, off + i * 2, none⟩)), (some 31, .string ⟨p1.toArray⟩), (some 32, .pointer (some ⟨wr.heap.size, 0, none⟩)), (some 33, .string ⟨x1.toArray⟩), (some 34, .bool true), (some 35, .bool true), (some 36, .bool true)] (by simp only [zFin, Act.put, List.setIfInBounds_toArray, List.set_cons_zero, List.set_cons_succ]; exact rfl) (by kernel_rfl) (by kernel_rfl) (by kernel_rfl) (by kernel_rfl) rfl (by kernel_rfl) rfl
            ⟨ZStep.val (by kernel_rfl) (fun W _ => by kernel_rfl),
                    ZStep.val (by kernel_rfl) (fun W hW => by subst hW; go_simp; done),
                    ZStep.call (by kernel_rfl) 335 #[.string ⟨x1.toArray⟩] (fun _ _ => by kernel_rfl) (fun W hW => (HS1.out W).mono (by rintro e w2 ⟨rfl, rfl⟩; exact ⟨rfl, hW⟩)),
                    ZStep.val (by kernel_rfl) (fun W _ => by kernel_rfl),
                    ZStep.val (by kernel_rfl) (fun W _ => by kernel_rfl),
                    ZStep.val (by kernel_rfl) (fun W _ => by kernel_rfl),
                    ZStep.val (by kernel_rfl) (fun W hW => by subst hW; go_simp; done),
                    ZStep.call (by kernel_rfl) 335 #[.string ⟨x2.toArray⟩] (fun _ _ => by kernel_rfl) (fun W hW => (HS2.out W).mono (by rintro e w2 ⟨rfl, rfl⟩; exact ⟨rfl, hW⟩)),
                    ZStep.val (by kernel_rfl) (fun W _ => by kernel_rfl),
                    ZStep.val (by kernel_rfl) (fun W _ => by kernel_rfl),
                    ZStep.val (by kernel_rfl) (fun W _ => by kernel_rfl),
                    ZStep.val (by kernel_rfl) (fun W _ => by kernel_rfl),
                    ZStep.val (by kernel_rfl) (fun W hW => by go_simp; done),
                    ZStep.val (by kernel_rfl) (fun W _ => by kernel_rfl),
                    ZStep.val (by kernel_rfl) (fun W _ => by kernel_rfl),
                    ZStep.val (by kernel_rfl) (fun W _ => by kernel_rfl),
                    ZStep.val (by kernel_rfl) (fun W hW => by go_simp; done),
                    ZStep.val (by kernel_rfl) (fun W hW => by go_simp; done),
                    ZStep.val (by kernel_rfl) (fun W _ => by kernel_rfl),
                    ZStep.val (by kernel_rfl) (fun W hW => by subst hW; go_simp; done),
                    ZStep.val (by kernel_rfl) (fun W _ => by kernel_rfl),
                    ZStep.val (by kernel_rfl) (fun W hW => by subst hW; go_simp; done),
                    ZStep.val (by kernel_rfl) (fun W hW => by go_simp; done),
                    ZStep.val (by kernel_rfl) (fun W _ => by kernel_rfl),
                    ZStep.val (by kernel_rfl) (fun W _ => by kernel_rfl), trivial⟩ ?fin
          case fin =>
            rintro W rfl
            go_wp2_with fail
            go_ret
            exact ⟨by rw [D.out]; rfl, HB.out.drew⟩
        · have D := Lib.hid (show (List.range ((i + 1) + 1)).all (fldAt L) = true from by rw [all_range_succ, HALL.out, fldAt_succ hp hx, show ltB p1 x1 = _ from hb3, hb1, hb2]; rfl)
          rw [hb1] at HS1
          rw [hb2] at HS2
          clear hb1 hb2 hcs hx hB hB1 HV hp HALL
          go_wp2_with fail
          rw [← HSET.out]
          refine region_walk (S := fun W => W = w1.drew) [(some 12, .pointer (some ⟨wr.heap.size, 0, none⟩)), (some 13, .string ⟨x1.toArray⟩), (some 14, .bool true), (some 15, .bool false), (some 16, .bool false), (some 17, .pointer (some ⟨wr.heap.size, 1, none⟩)), (some 18, .string ⟨x2.toArray⟩), (some 19, .bool true), (some 20, .bool false), (some 21, .bool false), (some 22, .bool false), (some 23, .int .i64 ((i + 1 : Nat) : Int)), (some 24, .bool true), (some 25, .bool true), (some 26, .slice (some ⟨b, off, none⟩) L.length cap), (some 27, .int .i64 ((i + 1 : Nat) : Int)), (some 28, .int .i64 (i : Int)), (some 29, .pointer (some ⟨b, off + i * 2, none⟩)), (some 30, .pointer (some ⟨b, off + i * 2, none⟩)), (some 31, .string ⟨p1.toArray⟩), (some 32, .pointer (some ⟨wr.heap.size, 0, none⟩)), (some 33, .string ⟨x1.toArray⟩), (some 34, .bool false), (some 35, .bool false), (some 36, .bool false)] (by simp only [zFin, Act.put, List.setIfInBounds_toArray, List.set_cons_zero, List.set_cons_succ]; exact rfl) (by kernel_rfl) (by kernel_rfl) (by kernel_rfl) (by kernel_rfl) rfl (by kernel_rfl) rfl
            ⟨ZStep.val (by kernel_rfl) (fun W _ => by kernel_rfl),
                    ZStep.val (by kernel_rfl) (fun W hW => by subst hW; go_simp; done),
                    ZStep.call (by kernel_rfl) 335 #[.string ⟨x1.toArray⟩] (fun _ _ => by kernel_rfl) (fun W hW => (HS1.out W).mono (by rintro e w2 ⟨rfl, rfl⟩; exact ⟨rfl, hW⟩)),
                    ZStep.val (by kernel_rfl) (fun W _ => by kernel_rfl),
                    ZStep.val (by kernel_rfl) (fun W _ => by kernel_rfl),
                    ZStep.val (by kernel_rfl) (fun W _ => by kernel_rfl),
                    ZStep.val (by kernel_rfl) (fun W hW => by subst hW; go_simp; done),
                    ZStep.call (by kernel_rfl) 335 #[.string ⟨x2.toArray⟩] (fun _ _ => by kernel_rfl) (fun W hW => (HS2.out W).mono (by rintro e w2 ⟨rfl, rfl⟩; exact ⟨rfl, hW⟩)),
                    ZStep.val (by kernel_rfl) (fun W _ => by kernel_rfl),
                    ZStep.val (by kernel_rfl) (fun W _ => by kernel_rfl),
                    ZStep.val (by kernel_rfl) (fun W _ => by kernel_rfl),
                    ZStep.val (by kernel_rfl) (fun W _ => by kernel_rfl),
                    ZStep.val (by kernel_rfl) (fun W hW => by go_simp; done),
                    ZStep.val (by kernel_rfl) (fun W _ => by kernel_rfl),
                    ZStep.val (by kernel_rfl) (fun W _ => by kernel_rfl),
                    ZStep.val (by kernel_rfl) (fun W _ => by kernel_rfl),
                    ZStep.val (by kernel_rfl) (fun W hW => by go_simp; done),
                    ZStep.val (by kernel_rfl) (fun W hW => by go_simp; done),
                    ZStep.val (by kernel_rfl) (fun W _ => by kernel_rfl),
                    ZStep.val (by kernel_rfl) (fun W hW => by subst hW; go_simp; done),
                    ZStep.val (by kernel_rfl) (fun W _ => by kernel_rfl),
                    ZStep.val (by kernel_rfl) (fun W hW => by subst hW; go_simp; done),
                    ZStep.val (by kernel_rfl) (fun W hW => by go_simp; done),
                    ZStep.val (by kernel_rfl) (fun W _ => by kernel_rfl),
                    ZStep.val (by kernel_rfl) (fun W _ => by kernel_rfl), trivial⟩ ?fin
          case fin =>
            rintro W rfl
            go_wp2_with fail
            go_roundw
            case rel => exact ⟨(i + 1) + 1, hkl, by go_num, HB.out.drew, D.out⟩
            case measure => simp [intOf]; omega
    · obtain rfl : k = L.length := by omega
      have D := Lib.hid (show hashB L = true from hall)
      have HB := Lib.hid hB
      clear hall hB HV
      go_wp2_with fail
      go_ret
      exact ⟨by rw [D.out]; rfl, HB.out⟩
end Go.Proofs.YthojmgjgmbnopaaGreatDoor
