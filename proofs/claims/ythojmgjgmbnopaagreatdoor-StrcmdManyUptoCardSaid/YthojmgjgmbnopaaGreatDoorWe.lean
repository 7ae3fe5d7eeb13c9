import Derived.Test.YthojmgjgmbnopaaGreatDoorVl
namespace Go.Proofs.YthojmgjgmbnopaaGreatDoor
open Go Go.RowKit
/-! The document's look at a hash. -/
set_option maxRecDepth 10000 in
set_option maxHeartbeats 4000000 in
theorem xfields_any {A : Nat → Prop} {w : World} {v : Value} {L : List Fld} (h : Vw A w v 2 L.length (fieldsC L)) (hn : L.length ≤ 1099511627776) :
    Calls Tryz.prog 146 #[v] w fun e w' => e = .returned (.bool (hashB L)) ∧ Below w.heap.size w w' := by
  obtain ⟨a, cap, rfl, _⟩ := id h.slice
  have HV := Lib.hid h
  clear h
  go_enter Tryz.func146, Tryz.ntmps146
  go_wp2_with fail
  go_loopw [3] (fun i wr => HrRel w L i wr) (fun i _ => L.length - (intOf i).toNat)
  case atStart => exact ⟨0, Nat.zero_le _, rfl, Below.refl _ _, rfl⟩
  case round =>
    obtain ⟨k, hk, rfl, hB, hall⟩ := hrel
    by_cases hkl : k < L.length
    · obtain ⟨⟨x1, x2⟩, hx⟩ : ∃ x, L[k]? = some x := ⟨_, List.getElem?_eq_getElem hkl⟩
      obtain ⟨b, off, rfl, hcap, hbl, hcs⟩ := vw_fields (HV.out.below hB) hx
      obtain ⟨hc1, hc2⟩ := hcs k _ hx
      have hkI : (0 : Int) ≤ k ∧ (k : Int) < L.length := by omega
      have hk0 : (0 : Int) ≤ k := by omega
      have hk1 : (k : Int) < L.length := by omega
      have hk2 : IntKind.i64.wrap (k : Int) = (k : Int) := by rw [IntKind.wrap_i64]; omega
      dsimp only at hc1 hc2
      have HB := Lib.hid hB
      have HALL := Lib.hid hall
      clear hall
      rcases hb1 : shortB x1 with _ | _
      · have D := Lib.hid (show hashB L = false from all_range_false hkl (by unfold fldAt; rw [hx]; simp [hb1]))
        have q1 : (1048576 : Int) < x1.length := by unfold shortB at hb1; simp at hb1; omega
        clear hb1 hcs hx hB HV HALL
        go_wp2_with fail
        refine region_walk (S := fun W => W = wr.drew) [(some 10, .slice (some ⟨b, off, none⟩) L.length cap), (some 11, .int .i64 (k : Int)), (some 12, .pointer (some ⟨b, off + k * 2, none⟩)), (some 13, .pointer (some ⟨b, off + k * 2, none⟩)), (some 14, .string ⟨x1.toArray⟩), (some 15, .int .i64 (x1.length : Int)), (some 16, .bool true), (some 17, .bool true), (some 18, undef), (some 19, undef), (some 20, undef), (some 21, undef), (some 22, undef), (some 23, undef), (some 24, undef), (some 25, .bool true), (some 26, .bool true), (some 27, undef), (some 28, undef), (some 29, undef), (some 30, undef), (some 31, undef), (some 32, undef), (some 33, undef), (some 34, undef), (some 35, undef), (some 36, undef), (some 37, undef), (some 38, undef), (some 39, undef), (some 40, undef), (some 41, undef), (some 42, undef), (some 43, .bool true)] (by simp only [zFin, Act.put, List.setIfInBounds_toArray, List.set_cons_zero, List.set_cons_succ]; exact rfl) (by kernel_rfl) (by kernel_rfl) (by kernel_rfl) (by kernel_rfl) rfl (by kernel_rfl) rfl
          ⟨ZStep.val (by kernel_rfl) (fun W _ => by kernel_rfl),
                  ZStep.val (by kernel_rfl) (fun W _ => by kernel_rfl),
                  ZStep.val (by kernel_rfl) (fun W hW => by go_simp; done),
                  ZStep.val (by kernel_rfl) (fun W _ => by kernel_rfl),
                  ZStep.val (by kernel_rfl) (fun W hW => by subst hW; go_simp; done),
                  ZStep.val (by kernel_rfl) (fun W hW => by go_simp; done),
                  ZStep.val (by kernel_rfl) (fun W hW => by go_simp; done),
                  ZStep.val (by kernel_rfl) (fun W _ => by kernel_rfl),
                  ZStep.skip (by kernel_rfl),
                  ZStep.skip (by kernel_rfl),
                  ZStep.skip (by kernel_rfl),
                  ZStep.skip (by kernel_rfl),
                  ZStep.skip (by kernel_rfl),
                  ZStep.skip (by kernel_rfl),
                  ZStep.skip (by kernel_rfl),
                  ZStep.val (by kernel_rfl) (fun W _ => by kernel_rfl),
                  ZStep.val (by kernel_rfl) (fun W _ => by kernel_rfl),
                  ZStep.skip (by kernel_rfl),
                  ZStep.skip (by kernel_rfl),
                  ZStep.skip (by kernel_rfl),
                  ZStep.skip (by kernel_rfl),
                  ZStep.skip (by kernel_rfl),
                  ZStep.skip (by kernel_rfl),
                  ZStep.skip (by kernel_rfl),
                  ZStep.skip (by kernel_rfl),
                  ZStep.skip (by kernel_rfl),
                  ZStep.skip (by kernel_rfl),
                  ZStep.skip (by kernel_rfl),
                  ZStep.skip (by kernel_rfl),
                  ZStep.skip (by kernel_rfl),
                  ZStep.skip (by kernel_rfl),
                  ZStep.skip (by kernel_rfl),
                  ZStep.skip (by kernel_rfl),
                  ZStep.val (by kernel_rfl) (fun W _ => by kernel_rfl), trivial⟩ ?fin
        case fin =>
          rintro W rfl
          go_wp2_with fail
          go_ret
          exact ⟨by rw [D.out]; rfl, HB.out.drew⟩
      have q1 : ¬ (1048576 : Int) < x1.length := by unfold shortB at hb1; simp at hb1; omega
      rcases hb2 : shortB x2 with _ | _
      · have D := Lib.hid (show hashB L = false from all_range_false hkl (by unfold fldAt; rw [hx]; simp [hb2]))
        have q2 : (1048576 : Int) < x2.length := by unfold shortB at hb2; simp at hb2; omega
        clear hb1 hb2 hcs hx hB HV HALL
        go_wp2_with fail
        refine region_walk (S := fun W => W = wr.drew) [(some 10, .slice (some ⟨b, off, none⟩) L.length cap), (some 11, .int .i64 (k : Int)), (some 12, .pointer (some ⟨b, off + k * 2, none⟩)), (some 13, .pointer (some ⟨b, off + k * 2, none⟩)), (some 14, .string ⟨x1.toArray⟩), (some 15, .int .i64 (x1.length : Int)), (some 16, .bool false), (some 17, .bool false), (some 18, .slice (some ⟨b, off, none⟩) L.length cap), (some 19, .int .i64 (k : Int)), (some 20, .pointer (some ⟨b, off + k * 2, none⟩)), (some 21, .pointer (some ⟨b, off + k * 2 + 1, none⟩)), (some 22, .string ⟨x2.toArray⟩), (some 23, .int .i64 (x2.length : Int)), (some 24, .bool true), (some 25, .bool true), (some 26, .bool true), (some 27, undef), (some 28, undef), (some 29, undef), (some 30, undef), (some 31, undef), (some 32, undef), (some 33, undef), (some 34, undef), (some 35, undef), (some 36, undef), (some 37, undef), (some 38, undef), (some 39, undef), (some 40, undef), (some 41, undef), (some 42, undef), (some 43, .bool true)] (by simp only [zFin, Act.put, List.setIfInBounds_toArray, List.set_cons_zero, List.set_cons_succ]; exact rfl) (by kernel_rfl) (by kernel_rfl) (by kernel_rfl) (by kernel_rfl) rfl (by kernel_rfl) rfl
          ⟨ZStep.val (by kernel_rfl) (fun W _ => by kernel_rfl),
                  ZStep.val (by kernel_rfl) (fun W _ => by kernel_rfl),
                  ZStep.val (by kernel_rfl) (fun W hW => by go_simp; done),
                  ZStep.val (by kernel_rfl) (fun W _ => by kernel_rfl),
                  ZStep.val (by kernel_rfl) (fun W hW => by subst hW; go_simp; done),
                  ZStep.val (by kernel_rfl) (fun W hW => by go_simp; done),
                  ZStep.val (by kernel_rfl) (fun W hW => by go_simp; done),
                  ZStep.val (by kernel_rfl) (fun W _ => by kernel_rfl),
                  ZStep.val (by kernel_rfl) (fun W _ => by kernel_rfl),
                  ZStep.val (by kernel_rfl) (fun W _ => by kernel_rfl),
                  ZStep.val (by kernel_rfl) (fun W hW => by go_simp; done),
                  ZStep.val (by kernel_rfl) (fun W _ => by kernel_rfl),
                  ZStep.val (by kernel_rfl) (fun W hW => by subst hW; go_simp; done),
                  ZStep.val (by kernel_rfl) (fun W hW => by go_simp; done),
                  ZStep.val (by kernel_rfl) (fun W hW => by go_simp; done),
                  ZStep.val (by kernel_rfl) (fun W _ => by kernel_rfl),
                  ZStep.val (by kernel_rfl) (fun W _ => by kernel_rfl),
                  ZStep.skip (by kernel_rfl),
                  ZStep.skip (by kernel_rfl),
                  ZStep.skip (by kernel_rfl),
                  ZStep.skip (by kernel_rfl),
                  ZStep.skip (by kernel_rfl),
                  ZStep.skip (by kernel_rfl),
                  ZStep.skip (by kernel_rfl),
                  ZStep.skip (by kernel_rfl),
                  ZStep.skip (by kernel_rfl),
                  ZStep.skip (by kernel_rfl),
                  ZStep.skip (by kernel_rfl),
                  ZStep.skip (by kernel_rfl),
                  ZStep.skip (by kernel_rfl),
                  ZStep.skip (by kernel_rfl),
                  ZStep.skip (by kernel_rfl),
                  ZStep.skip (by kernel_rfl),
                  ZStep.val (by kernel_rfl) (fun W _ => by kernel_rfl), trivial⟩ ?fin
        case fin =>
          rintro W rfl
          go_wp2_with fail
          go_ret
          exact ⟨by rw [D.out]; rfl, HB.out.drew⟩
      have q2 : ¬ (1048576 : Int) < x2.length := by unfold shortB at hb2; simp at hb2; omega
      by_cases hz : k = 0
      · have D := Lib.hid (show (List.range (k + 1)).all (fldAt L) = true from by rw [all_range_succ, HALL.out]; subst hz; rw [fldAt_zero hx, hb1, hb2]; rfl)
        have q3 : (k = 0) = True := eq_true hz
        clear hb1 hb2 hcs hx hB HV HALL hz
        go_wp2_with fail
        refine region_walk (S := fun W => W = wr.drew) [(some 10, .slice (some ⟨b, off, none⟩) L.length cap), (some 11, .int .i64 (k : Int)), (some 12, .pointer (some ⟨b, off + k * 2, none⟩)), (some 13, .pointer (some ⟨b, off + k * 2, none⟩)), (some 14, .string ⟨x1.toArray⟩), (some 15, .int .i64 (x1.length : Int)), (some 16, .bool false), (some 17, .bool false), (some 18, .slice (some ⟨b, off, none⟩) L.length cap), (some 19, .int .i64 (k : Int)), (some 20, .pointer (some ⟨b, off + k * 2, none⟩)), (some 21, .pointer (some ⟨b, off + k * 2 + 1, none⟩)), (some 22, .string ⟨x2.toArray⟩), (some 23, .int .i64 (x2.length : Int)), (some 24, .bool false), (some 25, .bool false), (some 26, .bool false), (some 27, .int .i64 (k : Int)), (some 28, .bool false), (some 29, .bool false), (some 30, undef), (some 31, undef), (some 32, undef), (some 33, undef), (some 34, undef), (some 35, undef), (some 36, undef), (some 37, undef), (some 38, undef), (some 39, undef), (some 40, undef), (some 41, undef), (some 42, .bool false), (some 43, .bool false)] (by simp only [zFin, Act.put, List.setIfInBounds_toArray, List.set_cons_zero, List.set_cons_succ]; exact rfl) (by kernel_rfl) (by kernel_rfl) (by kernel_rfl) (by kernel_rfl) rfl (by kernel_rfl) rfl
          ⟨ZStep.val (by kernel_rfl) (fun W _ => by kernel_rfl),
                  ZStep.val (by kernel_rfl) (fun W _ => by kernel_rfl),
                  ZStep.val (by kernel_rfl) (fun W hW => by go_simp; done),
                  ZStep.val (by kernel_rfl) (fun W _ => by kernel_rfl),
                  ZStep.val (by kernel_rfl) (fun W hW => by subst hW; go_simp; done),
                  ZStep.val (by kernel_rfl) (fun W hW => by go_simp; done),
                  ZStep.val (by kernel_rfl) (fun W hW => by go_simp; done),
                  ZStep.val (by kernel_rfl) (fun W _ => by kernel_rfl),
                  ZStep.val (by kernel_rfl) (fun W _ => by kernel_rfl),
                  ZStep.val (by kernel_rfl) (fun W _ => by kernel_rfl),
                  ZStep.val (by kernel_rfl) (fun W hW => by go_simp; done),
                  ZStep.val (by kernel_rfl) (fun W _ => by kernel_rfl),
                  ZStep.val (by kernel_rfl) (fun W hW => by subst hW; go_simp; done),
                  ZStep.val (by kernel_rfl) (fun W hW => by go_simp; done),
                  ZStep.val (by kernel_rfl) (fun W hW => by go_simp; done),
                  ZStep.val (by kernel_rfl) (fun W _ => by kernel_rfl),
                  ZStep.val (by kernel_rfl) (fun W _ => by kernel_rfl),
                  ZStep.val (by kernel_rfl) (fun W _ => by kernel_rfl),
                  ZStep.val (by kernel_rfl) (fun W hW => by go_simp; done),
                  ZStep.val (by kernel_rfl) (fun W _ => by kernel_rfl),
                  ZStep.skip (by kernel_rfl),
                  ZStep.skip (by kernel_rfl),
                  ZStep.skip (by kernel_rfl),
                  ZStep.skip (by kernel_rfl),
                  ZStep.skip (by kernel_rfl),
                  ZStep.skip (by kernel_rfl),
                  ZStep.skip (by kernel_rfl),
                  ZStep.skip (by kernel_rfl),
                  ZStep.skip (by kernel_rfl),
                  ZStep.skip (by kernel_rfl),
                  ZStep.skip (by kernel_rfl),
                  ZStep.skip (by kernel_rfl),
                  ZStep.val (by kernel_rfl) (fun W _ => by kernel_rfl),
                  ZStep.val (by kernel_rfl) (fun W _ => by kernel_rfl), trivial⟩ ?fin
        case fin =>
          rintro W rfl
          go_wp2_with fail
          go_roundw
          case rel => exact ⟨k + 1, hkl, by go_num, HB.out.drew, D.out⟩
          case measure => simp [intOf]; omega
      · obtain ⟨i, hi⟩ : ∃ i, k = i + 1 := ⟨k - 1, by omega⟩
        obtain ⟨⟨p1, p2⟩, hp⟩ : ∃ x, L[i]? = some x := ⟨_, List.getElem?_eq_getElem (by omega)⟩
        have y3 := (hcs i _ hp).1
        dsimp only at y3
        have q3 : (0 : Int) < (k : Int) := by omega
        have q8 : 0 < k := by omega
        have q4 : IntKind.i64.wrap ((k : Int) - 1) = (i : Int) := by rw [IntKind.wrap_i64]; omega
        have q5 : (0 : Int) ≤ i := by omega
        have q6 : (i : Int) < L.length := by omega
        have q7 : IntKind.i64.wrap (i : Int) = (i : Int) := by rw [IntKind.wrap_i64]; omega
        have hs : fldAt L k = (shortB x1 && shortB x2 && ltB p1 x1) := by subst hi; exact fldAt_succ hp hx
        rcases hb3 : Op.bytesLess p1 x1 with _ | _
        · have D := Lib.hid (show hashB L = false from all_range_false hkl (by rw [hs, show ltB p1 x1 = _ from hb3, hb1, hb2]; rfl))
          clear hb1 hb2 hcs hx hB HV hp HALL hs hz hi
          go_wp2_with fail
          refine region_walk (S := fun W => W = wr.drew) [(some 10, .slice (some ⟨b, off, none⟩) L.length cap), (some 11, .int .i64 (k : Int)), (some 12, .pointer (some ⟨b, off + k * 2, none⟩)), (some 13, .pointer (some ⟨b, off + k * 2, none⟩)), (some 14, .string ⟨x1.toArray⟩), (some 15, .int .i64 (x1.length : Int)), (some 16, .bool false), (some 17, .bool false), (some 18, .slice (some ⟨b, off, none⟩) L.length cap), (some 19, .int .i64 (k : Int)), (some 20, .pointer (some ⟨b, off + k * 2, none⟩)), (some 21, .pointer (some ⟨b, off + k * 2 + 1, none⟩)), (some 22, .string ⟨x2.toArray⟩), (some 23, .int .i64 (x2.length : Int)), (some 24, .bool false), (some 25, .bool false), (some 26, .bool false), (some 27, .int .i64 (k : Int)), (some 28, .bool true), (some 29, .bool true), (some 30, .slice (some ⟨b, off, none⟩) L.length cap), (some 31, .int .i64 (k : Int)), (some 32, .int .i64 (i : Int)), (some 33, .pointer (some ⟨b, off + i * 2, none⟩)), (some 34, .pointer (some ⟨b, off + i * 2, none⟩)), (some 35, .string ⟨p1.toArray⟩), (some 36, .slice (some ⟨b, off, none⟩) L.length cap), (some 37, .int .i64 (k : Int)), (some 38, .pointer (some ⟨b, off + k * 2, none⟩)), (some 39, .pointer (some ⟨b, off + k * 2, none⟩)), (some 40, .string ⟨x1.toArray⟩), (some 41, .bool true), (some 42, .bool true), (some 43, .bool true)] (by simp only [zFin, Act.put, List.setIfInBounds_toArray, List.set_cons_zero, List.set_cons_succ]; exact rfl) (by kernel_rfl) (by kernel_rfl) (by kernel_rfl) (by kernel_rfl) rfl (by kernel_rfl) rfl
            ⟨ZStep.val (by kernel_rfl) (fun W _ => by kernel_rfl),
                    ZStep.val (by kernel_rfl) (fun W _ => by kernel_rfl),
                    ZStep.val (by kernel_rfl) (fun W hW => by go_simp; done),
                    ZStep.val (by kernel_rfl) (fun W _ => by kernel_rfl),
                    ZStep.val (by kernel_rfl) (fun W hW => by subst hW; go_simp; done),
                    ZStep.val (by kernel_rfl) (fun W hW => by go_simp; done),
                    ZStep.val (by kernel_rfl) (fun W hW => by go_simp; done),
                    ZStep.val (by kernel_rfl) (fun W _ => by kernel_rfl),
                    ZStep.val (by kernel_rfl) (fun W _ => by kernel_rfl),
                    ZStep.val (by kernel_rfl) (fun W _ => by kernel_rfl),
                    ZStep.val (by kernel_rfl) (fun W hW => by go_simp; done),
                    ZStep.val (by kernel_rfl) (fun W _ => by kernel_rfl),
                    ZStep.val (by kernel_rfl) (fun W hW => by subst hW; go_simp; done),
                    ZStep.val (by kernel_rfl) (fun W hW => by go_simp; done),
                    ZStep.val (by kernel_rfl) (fun W hW => by go_simp; done),
                    ZStep.val (by kernel_rfl) (fun W _ => by kernel_rfl),
                    ZStep.val (by kernel_rfl) (fun W _ => by kernel_rfl),
                    ZStep.val (by kernel_rfl) (fun W _ => by kernel_rfl),
                    ZStep.val (by kernel_rfl) (fun W hW => by go_simp; done),
                    ZStep.val (by kernel_rfl) (fun W _ => by kernel_rfl),
                    ZStep.val (by kernel_rfl) (fun W _ => by kernel_rfl),
                    ZStep.val (by kernel_rfl) (fun W _ => by kernel_rfl),
                    ZStep.val (by kernel_rfl) (fun W hW => by go_simp; done),
                    ZStep.val (by kernel_rfl) (fun W hW => by go_simp; done),
                    ZStep.val (by kernel_rfl) (fun W _ => by kernel_rfl),
                    ZStep.val (by kernel_rfl) (fun W hW => by subst hW; go_simp; done),
                    ZStep.val (by kernel_rfl) (fun W _ => by kernel_rfl),
                    ZStep.val (by kernel_rfl) (fun W _ => by kernel_rfl),
                    ZStep.val (by kernel_rfl) (fun W hW => by go_simp; done),
                    ZStep.val (by kernel_rfl) (fun W _ => by kernel_rfl),
                    ZStep.val (by kernel_rfl) (fun W hW => by subst hW; go_simp; done),
                    ZStep.val (by kernel_rfl) (fun W hW => by go_simp; done),
                    ZStep.val (by kernel_rfl) (fun W _ => by kernel_rfl),
                    ZStep.val (by kernel_rfl) (fun W _ => by kernel_rfl), trivial⟩ ?fin
          case fin =>
            rintro W rfl
            go_wp2_with fail
            go_ret
            exact ⟨by rw [D.out]; rfl, HB.out.drew⟩
        · have D := Lib.hid (show (List.range (k + 1)).all (fldAt L) = true from by rw [all_range_succ, HALL.out, hs, show ltB p1 x1 = _ from hb3, hb1, hb2]; rfl)
          clear hb1 hb2 hcs hx hB HV hp HALL hs hz hi
          go_wp2_with fail
          refine region_walk (S := fun W => W = wr.drew) [(some 10, .slice (some ⟨b, off, none⟩) L.length cap), (some 11, .int .i64 (k : Int)), (some 12, .pointer (some ⟨b, off + k * 2, none⟩)), (some 13, .pointer (some ⟨b, off + k * 2, none⟩)), (some 14, .string ⟨x1.toArray⟩), (some 15, .int .i64 (x1.length : Int)), (some 16, .bool false), (some 17, .bool false), (some 18, .slice (some ⟨b, off, none⟩) L.length cap), (some 19, .int .i64 (k : Int)), (some 20, .pointer (some ⟨b, off + k * 2, none⟩)), (some 21, .pointer (some ⟨b, off + k * 2 + 1, none⟩)), (some 22, .string ⟨x2.toArray⟩), (some 23, .int .i64 (x2.length : Int)), (some 24, .bool false), (some 25, .bool false), (some 26, .bool false), (some 27, .int .i64 (k : Int)), (some 28, .bool true), (some 29, .bool true), (some 30, .slice (some ⟨b, off, none⟩) L.length cap), (some 31, .int .i64 (k : Int)), (some 32, .int .i64 (i : Int)), (some 33, .pointer (some ⟨b, off + i * 2, none⟩)), (some 34, .pointer (some ⟨b, off + i * 2, none⟩)), (some 35, .string ⟨p1.toArray⟩), (some 36, .slice (some ⟨b, off, none⟩) L.length cap), (some 37, .int .i64 (k : Int)), (some 38, .pointer (some ⟨b, off + k * 2, none⟩)), (some 39, .pointer (some ⟨b, off + k * 2, none⟩)), (some 40, .string ⟨x1.toArray⟩), (some 41, .bool false), (some 42, .bool false), (some 43, .bool false)] (by simp only [zFin, Act.put, List.setIfInBounds_toArray, List.set_cons_zero, List.set_cons_succ]; exact rfl) (by kernel_rfl) (by kernel_rfl) (by kernel_rfl) (by kernel_rfl) rfl (by kernel_rfl) rfl
            ⟨ZStep.val (by kernel_rfl) (fun W _ => by kernel_rfl),
                    ZStep.val (by kernel_rfl) (fun W _ => by kernel_rfl),
                    ZStep.val (by kernel_rfl) (fun W hW => by go_simp; done),
                    ZStep.val (by kernel_rfl) (fun W _ => by kernel_rfl),
                    ZStep.val (by kernel_rfl) (fun W hW => by subst hW; go_simp; done),
                    ZStep.val (by kernel_rfl) (fun W hW => by go_simp; done),
                    ZStep.val (by kernel_rfl) (fun W hW => by go_simp; done),
                    ZStep.val (by kernel_rfl) (fun W _ => by kernel_rfl),
                    ZStep.val (by kernel_rfl) (fun W _ => by kernel_rfl),
                    ZStep.val (by kernel_rfl) (fun W _ => by kernel_rfl),
                    ZStep.val (by kernel_rfl) (fun W hW => by go_simp; done),
                    ZStep.val (by kernel_rfl) (fun W _ => by kernel_rfl),
                    ZStep.val (by kernel_rfl) (fun W hW => by subst hW; go_simp; done),
                    ZStep.val (by kernel_rfl) (fun W hW => by go_simp; done),
                    ZStep.val (by kernel_rfl) (fun W hW => by go_simp; done),
                    ZStep.val (by kernel_rfl) (fun W _ => by kernel_rfl),
                    ZStep.val (by kernel_rfl) (fun W _ => by kernel_rfl),
                    ZStep.val (by kernel_rfl) (fun W _ => by kernel_rfl),
                    ZStep.val (by kernel_rfl) (fun W hW => by go_simp; done),
                    ZStep.val (by kernel_rfl) (fun W _ => by kernel_rfl),
                    ZStep.val (by kernel_rfl) (fun W _ => by kernel_rfl),
                    ZStep.val (by kernel_rfl) (fun W _ => by kernel_rfl),
                    ZStep.val (by kernel_rfl) (fun W hW => by go_simp; done),
                    ZStep.val (by kernel_rfl) (fun W hW => by go_simp; done),
                    ZStep.val (by kernel_rfl) (fun W _ => by kernel_rfl),
                    ZStep.val (by kernel_rfl) (fun W hW => by subst hW; go_simp; done),
                    ZStep.val (by kernel_rfl) (fun W _ => by kernel_rfl),
                    ZStep.val (by kernel_rfl) (fun W _ => by kernel_rfl),
                    ZStep.val (by kernel_rfl) (fun W hW => by go_simp; done),
                    ZStep.val (by kernel_rfl) (fun W _ => by kernel_rfl),
                    ZStep.val (by kernel_rfl) (fun W hW => by subst hW; go_simp; done),
                    ZStep.val (by kernel_rfl) (fun W hW => by go_simp; done),
                    ZStep.val (by kernel_rfl) (fun W _ => by kernel_rfl),
                    ZStep.val (by kernel_rfl) (fun W _ => by kernel_rfl), trivial⟩ ?fin
          case fin =>
            rintro W rfl
            go_wp2_with fail
            go_roundw
            case rel => exact ⟨k + 1, hkl, by go_num, HB.out.drew, D.out⟩
            case measure => simp [intOf]; omega
    · obtain rfl : k = L.length := by omega
      have D := Lib.hid (show hashB L = true from hall)
      have HB := Lib.hid hB
      clear hB hall hkl
      go_wp2_with fail
      go_ret
      exact ⟨by rw [D.out]; rfl, HB.out⟩
end Go.Proofs.YthojmgjgmbnopaaGreatDoor
