import Derived.Test.YthojmgjgmbnopaaGreatDoorJH
namespace Go.Proofs.YthojmgjgmbnopaaGreatDoor
open Go Go.RowKit
/-! The document's look at a rank. -/
set_option maxRecDepth 10000 in
theorem xahead_ok (w : World) (a b : Tx) (p q : Int) : Calls Tryz.prog 209 #[.agg #[.string ⟨a.toArray⟩, .int .i64 p], .agg #[.string ⟨b.toArray⟩, .int .i64 q]] w fun e w' => e = .returned (.bool (aheadB (a, p) (b, q))) ∧ Below w.heap.size w w' := by
  have HB := Lib.hid (fun (x y : Obj) => ((Below.refl w.heap.size w).alloc (Nat.le_refl _) x).alloc (o := y) (by simp))
  by_cases h1 : p < q
  · have D := Lib.hid (show aheadB (a, p) (b, q) = true from by unfold aheadB; rw [decide_eq_true (show p < q from h1)]; rfl)
    go_enter Tryz.func209, Tryz.ntmps209
    go_wp2_with fail
    go_ret
    exact ⟨by rw [D.out]; rfl, HB.out _ _⟩
  by_cases h2 : p = q
  · subst h2
    rcases h3 : Op.bytesLess a b with _ | _
    · have D := Lib.hid (show aheadB (a, p) (b, p) = false from by unfold aheadB; rw [decide_eq_false h1, show ltB a b = _ from h3]; simp)
      go_enter Tryz.func209, Tryz.ntmps209
      go_wp2_with fail
      go_ret
      exact ⟨by rw [D.out]; rfl, HB.out _ _⟩
    · have D := Lib.hid (show aheadB (a, p) (b, p) = true from by unfold aheadB; rw [decide_eq_false h1, show ltB a b = _ from h3]; simp)
      go_enter Tryz.func209, Tryz.ntmps209
      go_wp2_with fail
      go_ret
      exact ⟨by rw [D.out]; rfl, HB.out _ _⟩
  · have h3 : (p == q) = false := by simpa using h2
    have D := Lib.hid (show aheadB (a, p) (b, q) = false from by unfold aheadB; rw [decide_eq_false h1, decide_eq_false (show ¬ p = q from h2)]; rfl)
    go_enter Tryz.func209, Tryz.ntmps209
    go_wp2_with fail
    go_ret
    exact ⟨by rw [D.out]; rfl, HB.out _ _⟩
def RkRel (w : World) (L : List Scr) (ns i : Value) (wr : World) : Prop :=
  ∃ k o', k ≤ L.length ∧ i = .int .i64 (k : Int) ∧ Row o' wr [9, 0] 9 1 ns k (((L.take k).map Prod.fst).map txt) ∧ Stp [9] none0 w o' wr ∧ (List.range k).all (scrD L) = true
set_option maxRecDepth 10000 in
set_option maxHeartbeats 4000000 in
theorem xranked_any {A : Nat → Prop} {w : World} {v : Value} {L : List Scr} (h : Vw A w v 2 L.length (rankedC L)) (hn : L.length ≤ 1099511627776) :
    Calls Tryz.prog 147 #[v] w fun e w' => e = .returned (.bool (rankB L)) ∧ Below w.heap.size w w' := by
  obtain ⟨a, cap, rfl, _⟩ := id h.slice
  have HV := Lib.hid h
  clear h
  obtain ⟨i0, hi0, hz0, hz1, hz2⟩ := info_parts infoS
  have HAT := Lib.hid (show RkRel w L (.slice none 0 0) (.int .i64 0) w from ⟨0, none0, Nat.zero_le _, rfl, Row.nil _ _ _ _ _, Stp.refl _ _ _, rfl⟩)
  go_enter Tryz.func147, Tryz.ntmps147
  go_wp2_with fail
  go_loopw [3, 4] (fun ns i wr => RkRel w L ns i wr) (fun _ i _ => L.length - (intOf i).toNat)
  case atStart => exact HAT.out
  case round =>
    clear HAT
    obtain ⟨k, o', hk, rfl, hrow, hst, hall⟩ := hrel
    obtain ⟨ao, co, rfl, _⟩ := id hrow.slice
    by_cases hkl : k < L.length
    · obtain ⟨⟨x, sc⟩, hx⟩ : ∃ x, L[k]? = some x := ⟨_, List.getElem?_eq_getElem hkl⟩
      obtain ⟨b, off, rfl, hcap, hbl, hcs⟩ := vw_scrs (HV.out.below hst.below0) hx
      obtain ⟨hc1, hc2⟩ := hcs k _ hx
      have hk0 : (0 : Int) ≤ k := by omega
      have hk1 : (k : Int) < L.length := by omega
      have hk2 : IntKind.i64.wrap (k : Int) = (k : Int) := by rw [IntKind.wrap_i64]; omega
      have hm1 : k + 1 ≤ maxLen := by unfold maxLen; omega
      have hm2 : (k + 1) * 16 ≤ 140737488355328 := by omega
      dsimp only at hc1 hc2
      have htk : ((L.take (k + 1)).map Prod.fst).map txt = ((L.take k).map Prod.fst).map txt ++ [x].map txt := by rw [List.take_add_one, hx]; simp
      have HROW := Lib.hid hrow
      have HST := Lib.hid hst
      have HALL := Lib.hid hall
      clear hall hrow hst
      have hno : ∀ {c : Bool}, scrD L k = c → c = false → rankB L = false := fun h1 h2 => by rw [rankB_doc, all_range_false hkl (h1.trans h2)]; rfl
      have hex : ∀ {m : Bool}, scrD L k = (shortB x && decide (-9007199254740992 ≤ sc) && decide (sc ≤ 9007199254740992) && m) → True := fun _ => trivial
      have hgen : ∃ m, scrD L k = (shortB x && decide (-9007199254740992 ≤ sc) && decide (sc ≤ 9007199254740992) && m) := by unfold scrD; rw [hx]; exact ⟨_, rfl⟩
      obtain ⟨m, hgen⟩ := hgen
      rcases hb1 : shortB x with _ | _
      · have D := Lib.hid (show rankB L = false from hno hgen (by rw [hb1]; rfl))
        have q1 : (1048576 : Int) < x.length := by unfold shortB at hb1; simp at hb1; omega
        clear hb1 hcs hx HV HALL hgen hno hex htk
        go_wp2_with fail
        refine region_walk (S := fun W => W = wr.drew) [(some 11, .slice (some ⟨b, off, none⟩) L.length cap), (some 12, .int .i64 (k : Int)), (some 13, .pointer (some ⟨b, off + k * 2, none⟩)), (some 14, .pointer (some ⟨b, off + k * 2, none⟩)), (some 15, .string ⟨x.toArray⟩), (some 16, .int .i64 (x.length : Int)), (some 17, .bool true), (some 18, .bool true), (some 19, undef), (some 20, undef), (some 21, undef), (some 22, undef), (some 23, undef), (some 24, undef), (some 25, .bool true), (some 26, .bool true), (some 27, undef), (some 28, undef), (some 29, undef), (some 30, undef), (some 31, undef), (some 32, undef), (some 33, .bool true), (some 34, .bool true), (some 35, undef), (some 36, undef), (some 37, undef), (some 38, undef), (some 39, undef), (some 40, undef), (some 41, undef), (some 42, undef), (some 43, undef), (some 44, undef), (some 45, undef), (some 46, undef), (some 47, undef), (some 48, undef), (some 49, undef), (some 50, .bool true)] (by simp only [zFin, Act.put, List.setIfInBounds_toArray, List.set_cons_zero, List.set_cons_succ]; exact rfl) (by kernel_rfl) (by kernel_rfl) (by kernel_rfl) (by kernel_rfl) rfl (by kernel_rfl) rfl
          ⟨ZStep.val (by kernel_rfl) (fun W _ => by kernel_rfl),
                  ZStep.val (by kernel_rfl) (fun W _ => by kernel_rfl),
                  ZStep.val (by kernel_rfl) (fun W hW => by go_simp; done),
                  ZStep.val (by kernel_rfl) (fun W _ => by kernel_rfl),
                  ZStep.val (by kernel_rfl) (fun W hW => by subst hW; go_simp; done),
                  ZStep.val (by kernel_rfl) (fun W hW => by go_simp; done),
                  ZStep.val (by kernel_rfl) (fun W hW => by go_simp; done),
                  ZStep.val (by kernel_rfl) (fun W _ => by kernel_rfl),
                  ZStep.skip (by kernel_rfl),
                  ZStep.skip (by kernel_rfl),
                  ZStep.skip (by kernel_rfl),
                  ZStep.skip (by kernel_rfl),
                  ZStep.skip (by kernel_rfl),
                  ZStep.skip (by kernel_rfl),
                  ZStep.val (by kernel_rfl) (fun W _ => by kernel_rfl),
                  ZStep.val (by kernel_rfl) (fun W _ => by kernel_rfl),
                  ZStep.skip (by kernel_rfl),
                  ZStep.skip (by kernel_rfl),
                  ZStep.skip (by kernel_rfl),
                  ZStep.skip (by kernel_rfl),
                  ZStep.skip (by kernel_rfl),
                  ZStep.skip (by kernel_rfl),
                  ZStep.val (by kernel_rfl) (fun W _ => by kernel_rfl),
                  ZStep.val (by kernel_rfl) (fun W _ => by kernel_rfl),
                  ZStep.skip (by kernel_rfl),
                  ZStep.skip (by kernel_rfl),
                  ZStep.skip (by kernel_rfl),
                  ZStep.skip (by kernel_rfl),
                  ZStep.skip (by kernel_rfl),
                  ZStep.skip (by kernel_rfl),
                  ZStep.skip (by kernel_rfl),
                  ZStep.skip (by kernel_rfl),
                  ZStep.skip (by kernel_rfl),
                  ZStep.skip (by kernel_rfl),
                  ZStep.skip (by kernel_rfl),
                  ZStep.skip (by kernel_rfl),
                  ZStep.skip (by kernel_rfl),
                  ZStep.skip (by kernel_rfl),
                  ZStep.skip (by kernel_rfl),
                  ZStep.val (by kernel_rfl) (fun W _ => by kernel_rfl), trivial⟩ ?fin
        case fin =>
          intro W hW
          subst hW
          go_wp2_with fail
          go_ret
          exact ⟨by rw [D.out]; rfl, HST.out.below0.drew⟩
      have q1 : ¬ (1048576 : Int) < x.length := by unfold shortB at hb1; simp at hb1; omega
      by_cases hlo : sc < -9007199254740992
      · have D := Lib.hid (show rankB L = false from hno hgen (by rw [hb1, decide_eq_false (show ¬ -9007199254740992 ≤ sc by omega)]; rfl))
        clear hb1 hcs hx HV HALL hgen hno hex htk
        go_wp2_with fail
        refine region_walk (S := fun W => W = wr.drew) [(some 11, .slice (some ⟨b, off, none⟩) L.length cap), (some 12, .int .i64 (k : Int)), (some 13, .pointer (some ⟨b, off + k * 2, none⟩)), (some 14, .pointer (some ⟨b, off + k * 2, none⟩)), (some 15, .string ⟨x.toArray⟩), (some 16, .int .i64 (x.length : Int)), (some 17, .bool false), (some 18, .bool false), (some 19, .slice (some ⟨b, off, none⟩) L.length cap), (some 20, .int .i64 (k : Int)), (some 21, .pointer (some ⟨b, off + k * 2, none⟩)), (some 22, .pointer (some ⟨b, off + k * 2 + 1, none⟩)), (some 23, .int .i64 sc), (some 24, .bool true), (some 25, .bool true), (some 26, .bool true), (some 27, undef), (some 28, undef), (some 29, undef), (some 30, undef), (some 31, undef), (some 32, undef), (some 33, .bool true), (some 34, .bool true), (some 35, undef), (some 36, undef), (some 37, undef), (some 38, undef), (some 39, undef), (some 40, undef), (some 41, undef), (some 42, undef), (some 43, undef), (some 44, undef), (some 45, undef), (some 46, undef), (some 47, undef), (some 48, undef), (some 49, undef), (some 50, .bool true)] (by simp only [zFin, Act.put, List.setIfInBounds_toArray, List.set_cons_zero, List.set_cons_succ]; exact rfl) (by kernel_rfl) (by kernel_rfl) (by kernel_rfl) (by kernel_rfl) rfl (by kernel_rfl) rfl
          ⟨ZStep.val (by kernel_rfl) (fun W _ => by kernel_rfl),
                  ZStep.val (by kernel_rfl) (fun W _ => by kernel_rfl),
                  ZStep.val (by kernel_rfl) (fun W hW => by go_simp; done),
                  ZStep.val (by kernel_rfl) (fun W _ => by kernel_rfl),
                  ZStep.val (by kernel_rfl) (fun W hW => by subst hW; go_simp; done),
                  ZStep.val (by kernel_rfl) (fun W hW => by go_simp; done),
                  ZStep.val (by kernel_rfl) (fun W hW => by go_simp; done),
                  ZStep.val (by kernel_rfl) (fun W _ => by kernel_rfl),
                  ZStep.val (by kernel_rfl) (fun W _ => by kernel_rfl),
                  ZStep.val (by kernel_rfl) (fun W _ => by kernel_rfl),
                  ZStep.val (by kernel_rfl) (fun W hW => by go_simp; done),
                  ZStep.val (by kernel_rfl) (fun W _ => by kernel_rfl),
                  ZStep.val (by kernel_rfl) (fun W hW => by subst hW; go_simp; done),
                  ZStep.val (by kernel_rfl) (fun W hW => by go_simp; done),
                  ZStep.val (by kernel_rfl) (fun W _ => by kernel_rfl),
                  ZStep.val (by kernel_rfl) (fun W _ => by kernel_rfl),
                  ZStep.skip (by kernel_rfl),
                  ZStep.skip (by kernel_rfl),
                  ZStep.skip (by kernel_rfl),
                  ZStep.skip (by kernel_rfl),
                  ZStep.skip (by kernel_rfl),
                  ZStep.skip (by kernel_rfl),
                  ZStep.val (by kernel_rfl) (fun W _ => by kernel_rfl),
                  ZStep.val (by kernel_rfl) (fun W _ => by kernel_rfl),
                  ZStep.skip (by kernel_rfl),
                  ZStep.skip (by kernel_rfl),
                  ZStep.skip (by kernel_rfl),
                  ZStep.skip (by kernel_rfl),
                  ZStep.skip (by kernel_rfl),
                  ZStep.skip (by kernel_rfl),
                  ZStep.skip (by kernel_rfl),
                  ZStep.skip (by kernel_rfl),
                  ZStep.skip (by kernel_rfl),
                  ZStep.skip (by kernel_rfl),
                  ZStep.skip (by kernel_rfl),
                  ZStep.skip (by kernel_rfl),
                  ZStep.skip (by kernel_rfl),
                  ZStep.skip (by kernel_rfl),
                  ZStep.skip (by kernel_rfl),
                  ZStep.val (by kernel_rfl) (fun W _ => by kernel_rfl), trivial⟩ ?fin
        case fin =>
          intro W hW
          subst hW
          go_wp2_with fail
          go_ret
          exact ⟨by rw [D.out]; rfl, HST.out.below0.drew⟩
      by_cases hhi : 9007199254740992 < sc
      · have D := Lib.hid (show rankB L = false from hno hgen (by rw [hb1, decide_eq_false (show ¬ sc ≤ 9007199254740992 by omega)]; simp))
        clear hb1 hcs hx HV HALL hgen hno hex htk
        go_wp2_with fail
        refine region_walk (S := fun W => W = wr.drew) [(some 11, .slice (some ⟨b, off, none⟩) L.length cap), (some 12, .int .i64 (k : Int)), (some 13, .pointer (some ⟨b, off + k * 2, none⟩)), (some 14, .pointer (some ⟨b, off + k * 2, none⟩)), (some 15, .string ⟨x.toArray⟩), (some 16, .int .i64 (x.length : Int)), (some 17, .bool false), (some 18, .bool false), (some 19, .slice (some ⟨b, off, none⟩) L.length cap), (some 20, .int .i64 (k : Int)), (some 21, .pointer (some ⟨b, off + k * 2, none⟩)), (some 22, .pointer (some ⟨b, off + k * 2 + 1, none⟩)), (some 23, .int .i64 sc), (some 24, .bool false), (some 25, .bool false), (some 26, .bool false), (some 27, .slice (some ⟨b, off, none⟩) L.length cap), (some 28, .int .i64 (k : Int)), (some 29, .pointer (some ⟨b, off + k * 2, none⟩)), (some 30, .pointer (some ⟨b, off + k * 2 + 1, none⟩)), (some 31, .int .i64 sc), (some 32, .bool true), (some 33, .bool true), (some 34, .bool true), (some 35, undef), (some 36, undef), (some 37, undef), (some 38, undef), (some 39, undef), (some 40, undef), (some 41, undef), (some 42, undef), (some 43, undef), (some 44, undef), (some 45, undef), (some 46, undef), (some 47, undef), (some 48, undef), (some 49, undef), (some 50, .bool true)] (by simp only [zFin, Act.put, List.setIfInBounds_toArray, List.set_cons_zero, List.set_cons_succ]; exact rfl) (by kernel_rfl) (by kernel_rfl) (by kernel_rfl) (by kernel_rfl) rfl (by kernel_rfl) rfl
          ⟨ZStep.val (by kernel_rfl) (fun W _ => by kernel_rfl),
                  ZStep.val (by kernel_rfl) (fun W _ => by kernel_rfl),
                  ZStep.val (by kernel_rfl) (fun W hW => by go_simp; done),
                  ZStep.val (by kernel_rfl) (fun W _ => by kernel_rfl),
                  ZStep.val (by kernel_rfl) (fun W hW => by subst hW; go_simp; done),
                  ZStep.val (by kernel_rfl) (fun W hW => by go_simp; done),
                  ZStep.val (by kernel_rfl) (fun W hW => by go_simp; done),
                  ZStep.val (by kernel_rfl) (fun W _ => by kernel_rfl),
                  ZStep.val (by kernel_rfl) (fun W _ => by kernel_rfl),
                  ZStep.val (by kernel_rfl) (fun W _ => by kernel_rfl),
                  ZStep.val (by kernel_rfl) (fun W hW => by go_simp; done),
                  ZStep.val (by kernel_rfl) (fun W _ => by kernel_rfl),
                  ZStep.val (by kernel_rfl) (fun W hW => by subst hW; go_simp; done),
                  ZStep.val (by kernel_rfl) (fun W hW => by go_simp; done),
                  ZStep.val (by kernel_rfl) (fun W _ => by kernel_rfl),
                  ZStep.val (by kernel_rfl) (fun W _ => by kernel_rfl),
                  ZStep.val (by kernel_rfl) (fun W _ => by kernel_rfl),
                  ZStep.val (by kernel_rfl) (fun W _ => by kernel_rfl),
                  ZStep.val (by kernel_rfl) (fun W hW => by go_simp; done),
                  ZStep.val (by kernel_rfl) (fun W _ => by kernel_rfl),
                  ZStep.val (by kernel_rfl) (fun W hW => by subst hW; go_simp; done),
                  ZStep.val (by kernel_rfl) (fun W hW => by go_simp; done),
                  ZStep.val (by kernel_rfl) (fun W _ => by kernel_rfl),
                  ZStep.val (by kernel_rfl) (fun W _ => by kernel_rfl),
                  ZStep.skip (by kernel_rfl),
                  ZStep.skip (by kernel_rfl),
                  ZStep.skip (by kernel_rfl),
                  ZStep.skip (by kernel_rfl),
                  ZStep.skip (by kernel_rfl),
                  ZStep.skip (by kernel_rfl),
                  ZStep.skip (by kernel_rfl),
                  ZStep.skip (by kernel_rfl),
                  ZStep.skip (by kernel_rfl),
                  ZStep.skip (by kernel_rfl),
                  ZStep.skip (by kernel_rfl),
                  ZStep.skip (by kernel_rfl),
                  ZStep.skip (by kernel_rfl),
                  ZStep.skip (by kernel_rfl),
                  ZStep.skip (by kernel_rfl),
                  ZStep.val (by kernel_rfl) (fun W _ => by kernel_rfl), trivial⟩ ?fin
        case fin =>
          intro W hW
          subst hW
          go_wp2_with fail
          go_ret
          exact ⟨by rw [D.out]; rfl, HST.out.below0.drew⟩
      have hd1 : decide (-9007199254740992 ≤ sc) = true := decide_eq_true (by omega)
      have hd2 : decide (sc ≤ 9007199254740992) = true := decide_eq_true (by omega)
      by_cases hz : k = 0
      · have D := Lib.hid (show (List.range (k + 1)).all (scrD L) = true from by rw [all_range_succ, HALL.out]; subst hz; rw [scrD_zero hx, hb1, hd1, hd2]; rfl)
        have q3 : (k = 0) = True := eq_true hz
        clear hb1 hcs hx HV HALL hgen hno hex hd1 hd2 hz
        go_wp2_with fail
        refine region_walk (S := fun W => W = wr.drew) [(some 11, .slice (some ⟨b, off, none⟩) L.length cap), (some 12, .int .i64 (k : Int)), (some 13, .pointer (some ⟨b, off + k * 2, none⟩)), (some 14, .pointer (some ⟨b, off + k * 2, none⟩)), (some 15, .string ⟨x.toArray⟩), (some 16, .int .i64 (x.length : Int)), (some 17, .bool false), (some 18, .bool false), (some 19, .slice (some ⟨b, off, none⟩) L.length cap), (some 20, .int .i64 (k : Int)), (some 21, .pointer (some ⟨b, off + k * 2, none⟩)), (some 22, .pointer (some ⟨b, off + k * 2 + 1, none⟩)), (some 23, .int .i64 sc), (some 24, .bool false), (some 25, .bool false), (some 26, .bool false), (some 27, .slice (some ⟨b, off, none⟩) L.length cap), (some 28, .int .i64 (k : Int)), (some 29, .pointer (some ⟨b, off + k * 2, none⟩)), (some 30, .pointer (some ⟨b, off + k * 2 + 1, none⟩)), (some 31, .int .i64 sc), (some 32, .bool false), (some 33, .bool false), (some 34, .bool false), (some 35, .int .i64 (k : Int)), (some 36, .bool false), (some 37, .bool false), (some 38, undef), (some 39, undef), (some 40, undef), (some 41, undef), (some 42, undef), (some 43, undef), (some 44, undef), (some 45, undef), (some 46, undef), (some 47, undef), (some 48, undef), (some 49, .bool false), (some 50, .bool false)] (by simp only [zFin, Act.put, List.setIfInBounds_toArray, List.set_cons_zero, List.set_cons_succ]; exact rfl) (by kernel_rfl) (by kernel_rfl) (by kernel_rfl) (by kernel_rfl) rfl (by kernel_rfl) rfl
          ⟨ZStep.val (by kernel_rfl) (fun W _ => by kernel_rfl),
                  ZStep.val (by kernel_rfl) (fun W _ => by kernel_rfl),
                  ZStep.val (by kernel_rfl) (fun W hW => by go_simp; done),
                  ZStep.val (by kernel_rfl) (fun W _ => by kernel_rfl),
                  ZStep.val (by kernel_rfl) (fun W hW => by subst hW; go_simp; done),
                  ZStep.val (by kernel_rfl) (fun W hW => by go_simp; done),
                  ZStep.val (by kernel_rfl) (fun W hW => by go_simp; done),
                  ZStep.val (by kernel_rfl) (fun W _ => by kernel_rfl),
                  ZStep.val (by kernel_rfl) (fun W _ => by kernel_rfl),
                  ZStep.val (by kernel_rfl) (fun W _ => by kernel_rfl),
                  ZStep.val (by kernel_rfl) (fun W hW => by go_simp; done),
                  ZStep.val (by kernel_rfl) (fun W _ => by kernel_rfl),
                  ZStep.val (by kernel_rfl) (fun W hW => by subst hW; go_simp; done),
                  ZStep.val (by kernel_rfl) (fun W hW => by go_simp; done),
                  ZStep.val (by kernel_rfl) (fun W _ => by kernel_rfl),
                  ZStep.val (by kernel_rfl) (fun W _ => by kernel_rfl),
                  ZStep.val (by kernel_rfl) (fun W _ => by kernel_rfl),
                  ZStep.val (by kernel_rfl) (fun W _ => by kernel_rfl),
                  ZStep.val (by kernel_rfl) (fun W hW => by go_simp; done),
                  ZStep.val (by kernel_rfl) (fun W _ => by kernel_rfl),
                  ZStep.val (by kernel_rfl) (fun W hW => by subst hW; go_simp; done),
                  ZStep.val (by kernel_rfl) (fun W hW => by go_simp; done),
                  ZStep.val (by kernel_rfl) (fun W _ => by kernel_rfl),
                  ZStep.val (by kernel_rfl) (fun W _ => by kernel_rfl),
                  ZStep.val (by kernel_rfl) (fun W _ => by kernel_rfl),
                  ZStep.val (by kernel_rfl) (fun W hW => by go_simp; done),
                  ZStep.val (by kernel_rfl) (fun W _ => by kernel_rfl),
                  ZStep.skip (by kernel_rfl),
                  ZStep.skip (by kernel_rfl),
                  ZStep.skip (by kernel_rfl),
                  ZStep.skip (by kernel_rfl),
                  ZStep.skip (by kernel_rfl),
                  ZStep.skip (by kernel_rfl),
                  ZStep.skip (by kernel_rfl),
                  ZStep.skip (by kernel_rfl),
                  ZStep.skip (by kernel_rfl),
                  ZStep.skip (by kernel_rfl),
                  ZStep.skip (by kernel_rfl),
                  ZStep.val (by kernel_rfl) (fun W _ => by kernel_rfl),
                  ZStep.val (by kernel_rfl) (fun W _ => by kernel_rfl), trivial⟩ ?fin
        case fin =>
          intro W hW
          have hB : Below wr.heap.size wr W := by rw [hW]; exact (Below.refl _ _).drew
          clear hW q3
          have z1 := cell_below hB hc1
          have HSQ := Lib.hid ((vw_new1 W x 9).src (P := Tryz.prog) Tryz.underlying39 (one_list [x]))
          have HRQ := Lib.hid (show Row o' (W.alloc (.cells #[.string ⟨x.toArray⟩] 9)) [9, 0] 9 1 (.slice ao k co) k (((L.take k).map Prod.fst).map txt) ∧ Stp [9] none0 w o' (W.alloc (.cells #[.string ⟨x.toArray⟩] 9)) from ⟨(HROW.out.below hB).below (lit_below _ _), (HST.out.trans (Stp.ofBelow [9] o' hB)).trans (Stp.ofBelow [9] o' (lit_below _ _))⟩)
          have HTK := Lib.hid htk
          clear hB htk
          unfold txt at HSQ
          go_wp2_with (
            at_builtin
            refine wpList_app _ rfl _ _ 39 39 rfl 9 i0 _ 1 16 Tryz.underlying39 hi0 hz0 hz1 hz2 rfl rfl HRQ.out.1 rfl HSQ.out hm1 hm2 ?_
            intro v5 w5 o5 hrow5 hst5
            obtain ⟨a5, c5, rfl, _⟩ := id hrow5.slice
            have D5 := Lib.hid (show RkRel w L (.slice a5 (k + 1) c5) (.int .i64 ((k + 1 : Nat) : Int)) w5 from ⟨k + 1, o5, hkl, rfl, by rw [HTK.out]; exact hrow5, HRQ.out.2.trans (hst5.wide (by decide)), D.out⟩)
            clear hrow5 hst5 HRQ HSQ)
          go_roundw
          case rel => exact D5.out
          case measure => simp [intOf]; omega
      · obtain ⟨i, hi⟩ : ∃ i, k = i + 1 := ⟨k - 1, by omega⟩
        obtain ⟨⟨p1, ps⟩, hp⟩ : ∃ x, L[i]? = some x := ⟨_, List.getElem?_eq_getElem (by omega)⟩
        obtain ⟨y3, y4⟩ := hcs i _ hp
        dsimp only at y3 y4
        have q3 : (0 : Int) < (k : Int) := by omega
        have q8 : 0 < k := by omega
        have q4 : IntKind.i64.wrap ((k : Int) - 1) = (i : Int) := by rw [IntKind.wrap_i64]; omega
        have q5 : (0 : Int) ≤ i := by omega
        have q6 : (i : Int) < L.length := by omega
        have q7 : IntKind.i64.wrap (i : Int) = (i : Int) := by rw [IntKind.wrap_i64]; omega
        have hs : scrD L k = (shortB x && decide (-9007199254740992 ≤ sc) && decide (sc ≤ 9007199254740992) && aheadB (p1, ps) (x, sc)) := by subst hi; exact scrD_succ hp hx
        have HAH := Lib.hid (fun W => xahead_ok W p1 x ps sc)
        rcases hb3 : aheadB (p1, ps) (x, sc) with _ | _
        · have D := Lib.hid (show rankB L = false from hno hs (by rw [hb3]; simp))
          rw [hb3] at HAH
          clear hb1 hb3 hcs hx HV hp HALL hs hz hi hgen hno hex hd1 hd2 htk
          go_wp2_with fail
          refine region_walk (S := fun W => Below wr.heap.size wr W) [(some 11, .slice (some ⟨b, off, none⟩) L.length cap), (some 12, .int .i64 (k : Int)), (some 13, .pointer (some ⟨b, off + k * 2, none⟩)), (some 14, .pointer (some ⟨b, off + k * 2, none⟩)), (some 15, .string ⟨x.toArray⟩), (some 16, .int .i64 (x.length : Int)), (some 17, .bool false), (some 18, .bool false), (some 19, .slice (some ⟨b, off, none⟩) L.length cap), (some 20, .int .i64 (k : Int)), (some 21, .pointer (some ⟨b, off + k * 2, none⟩)), (some 22, .pointer (some ⟨b, off + k * 2 + 1, none⟩)), (some 23, .int .i64 sc), (some 24, .bool false), (some 25, .bool false), (some 26, .bool false), (some 27, .slice (some ⟨b, off, none⟩) L.length cap), (some 28, .int .i64 (k : Int)), (some 29, .pointer (some ⟨b, off + k * 2, none⟩)), (some 30, .pointer (some ⟨b, off + k * 2 + 1, none⟩)), (some 31, .int .i64 sc), (some 32, .bool false), (some 33, .bool false), (some 34, .bool false), (some 35, .int .i64 (k : Int)), (some 36, .bool true), (some 37, .bool true), (some 38, .slice (some ⟨b, off, none⟩) L.length cap), (some 39, .int .i64 (k : Int)), (some 40, .int .i64 (i : Int)), (some 41, .pointer (some ⟨b, off + i * 2, none⟩)), (some 42, .agg #[.string ⟨p1.toArray⟩, .int .i64 ps]), (some 43, .slice (some ⟨b, off, none⟩) L.length cap), (some 44, .int .i64 (k : Int)), (some 45, .pointer (some ⟨b, off + k * 2, none⟩)), (some 46, .agg #[.string ⟨x.toArray⟩, .int .i64 sc]), (some 47, .bool false), (some 48, .bool true), (some 49, .bool true), (some 50, .bool true)] (by simp only [zFin, Act.put, List.setIfInBounds_toArray, List.set_cons_zero, List.set_cons_succ]; exact rfl) (by kernel_rfl) (by kernel_rfl) (by kernel_rfl) (by kernel_rfl) rfl (by kernel_rfl) (Below.refl wr.heap.size wr).drew
            ⟨ZStep.val (by kernel_rfl) (fun W _ => by kernel_rfl),
                    ZStep.val (by kernel_rfl) (fun W _ => by kernel_rfl),
                    ZStep.val (by kernel_rfl) (fun W hW => by go_simp; done),
                    ZStep.val (by kernel_rfl) (fun W _ => by kernel_rfl),
                    ZStep.val (by kernel_rfl) (fun W hW => by have z1 := cell_below hW hc1; have z2 := cell_below hW hc2; have z3 := cell_below hW y3; have z4 := cell_below hW y4; go_simp; done),
                    ZStep.val (by kernel_rfl) (fun W hW => by go_simp; done),
                    ZStep.val (by kernel_rfl) (fun W hW => by go_simp; done),
                    ZStep.val (by kernel_rfl) (fun W _ => by kernel_rfl),
                    ZStep.val (by kernel_rfl) (fun W _ => by kernel_rfl),
                    ZStep.val (by kernel_rfl) (fun W _ => by kernel_rfl),
                    ZStep.val (by kernel_rfl) (fun W hW => by go_simp; done),
                    ZStep.val (by kernel_rfl) (fun W _ => by kernel_rfl),
                    ZStep.val (by kernel_rfl) (fun W hW => by have z1 := cell_below hW hc1; have z2 := cell_below hW hc2; have z3 := cell_below hW y3; have z4 := cell_below hW y4; go_simp; done),
                    ZStep.val (by kernel_rfl) (fun W hW => by go_simp; done),
                    ZStep.val (by kernel_rfl) (fun W _ => by kernel_rfl),
                    ZStep.val (by kernel_rfl) (fun W _ => by kernel_rfl),
                    ZStep.val (by kernel_rfl) (fun W _ => by kernel_rfl),
                    ZStep.val (by kernel_rfl) (fun W _ => by kernel_rfl),
                    ZStep.val (by kernel_rfl) (fun W hW => by go_simp; done),
                    ZStep.val (by kernel_rfl) (fun W _ => by kernel_rfl),
                    ZStep.val (by kernel_rfl) (fun W hW => by have z1 := cell_below hW hc1; have z2 := cell_below hW hc2; have z3 := cell_below hW y3; have z4 := cell_below hW y4; go_simp; done),
                    ZStep.val (by kernel_rfl) (fun W hW => by go_simp; done),
                    ZStep.val (by kernel_rfl) (fun W _ => by kernel_rfl),
                    ZStep.val (by kernel_rfl) (fun W _ => by kernel_rfl),
                    ZStep.val (by kernel_rfl) (fun W _ => by kernel_rfl),
                    ZStep.val (by kernel_rfl) (fun W hW => by go_simp; done),
                    ZStep.val (by kernel_rfl) (fun W _ => by kernel_rfl),
                    ZStep.val (by kernel_rfl) (fun W _ => by kernel_rfl),
                    ZStep.val (by kernel_rfl) (fun W _ => by kernel_rfl),
                    ZStep.val (by kernel_rfl) (fun W hW => by go_simp; done),
                    ZStep.val (by kernel_rfl) (fun W hW => by go_simp; done),
                    ZStep.val (by kernel_rfl) (fun W hW => by have z1 := cell_below hW hc1; have z2 := cell_below hW hc2; have z3 := cell_below hW y3; have z4 := cell_below hW y4; go_simp; done),
                    ZStep.val (by kernel_rfl) (fun W _ => by kernel_rfl),
                    ZStep.val (by kernel_rfl) (fun W _ => by kernel_rfl),
                    ZStep.val (by kernel_rfl) (fun W hW => by go_simp; done),
                    ZStep.val (by kernel_rfl) (fun W hW => by have z1 := cell_below hW hc1; have z2 := cell_below hW hc2; have z3 := cell_below hW y3; have z4 := cell_below hW y4; go_simp; done),
                    ZStep.call (by kernel_rfl) 209 #[.agg #[.string ⟨p1.toArray⟩, .int .i64 ps], .agg #[.string ⟨x.toArray⟩, .int .i64 sc]] (fun _ _ => by kernel_rfl) (fun W hW => (HAH.out W).mono (by rintro e w2 ⟨rfl, hB2⟩; exact ⟨rfl, hW.trans (hB2.mono hW.size)⟩)),
                    ZStep.val (by kernel_rfl) (fun W _ => by kernel_rfl),
                    ZStep.val (by kernel_rfl) (fun W _ => by kernel_rfl),
                    ZStep.val (by kernel_rfl) (fun W _ => by kernel_rfl), trivial⟩ ?fin
          case fin =>
            intro W hW
            have DB := Lib.hid (HST.out.below0.trans (hW.mono HST.out.below0.size))
            clear hW
            go_wp2_with fail
            go_ret
            exact ⟨by rw [D.out]; rfl, DB.out⟩
        · have D := Lib.hid (show (List.range (k + 1)).all (scrD L) = true from by rw [all_range_succ, HALL.out, hs, hb1, hb3, hd1, hd2]; rfl)
          rw [hb3] at HAH
          clear hb1 hb3 hcs hx HV hp HALL hs hz hi hgen hno hex hd1 hd2
          go_wp2_with fail
          refine region_walk (S := fun W => Below wr.heap.size wr W) [(some 11, .slice (some ⟨b, off, none⟩) L.length cap), (some 12, .int .i64 (k : Int)), (some 13, .pointer (some ⟨b, off + k * 2, none⟩)), (some 14, .pointer (some ⟨b, off + k * 2, none⟩)), (some 15, .string ⟨x.toArray⟩), (some 16, .int .i64 (x.length : Int)), (some 17, .bool false), (some 18, .bool false), (some 19, .slice (some ⟨b, off, none⟩) L.length cap), (some 20, .int .i64 (k : Int)), (some 21, .pointer (some ⟨b, off + k * 2, none⟩)), (some 22, .pointer (some ⟨b, off + k * 2 + 1, none⟩)), (some 23, .int .i64 sc), (some 24, .bool false), (some 25, .bool false), (some 26, .bool false), (some 27, .slice (some ⟨b, off, none⟩) L.length cap), (some 28, .int .i64 (k : Int)), (some 29, .pointer (some ⟨b, off + k * 2, none⟩)), (some 30, .pointer (some ⟨b, off + k * 2 + 1, none⟩)), (some 31, .int .i64 sc), (some 32, .bool false), (some 33, .bool false), (some 34, .bool false), (some 35, .int .i64 (k : Int)), (some 36, .bool true), (some 37, .bool true), (some 38, .slice (some ⟨b, off, none⟩) L.length cap), (some 39, .int .i64 (k : Int)), (some 40, .int .i64 (i : Int)), (some 41, .pointer (some ⟨b, off + i * 2, none⟩)), (some 42, .agg #[.string ⟨p1.toArray⟩, .int .i64 ps]), (some 43, .slice (some ⟨b, off, none⟩) L.length cap), (some 44, .int .i64 (k : Int)), (some 45, .pointer (some ⟨b, off + k * 2, none⟩)), (some 46, .agg #[.string ⟨x.toArray⟩, .int .i64 sc]), (some 47, .bool true), (some 48, .bool false), (some 49, .bool false), (some 50, .bool false)] (by simp only [zFin, Act.put, List.setIfInBounds_toArray, List.set_cons_zero, List.set_cons_succ]; exact rfl) (by kernel_rfl) (by kernel_rfl) (by kernel_rfl) (by kernel_rfl) rfl (by kernel_rfl) (Below.refl wr.heap.size wr).drew
            ⟨ZStep.val (by kernel_rfl) (fun W _ => by kernel_rfl),
                    ZStep.val (by kernel_rfl) (fun W _ => by kernel_rfl),
                    ZStep.val (by kernel_rfl) (fun W hW => by go_simp; done),
                    ZStep.val (by kernel_rfl) (fun W _ => by kernel_rfl),
                    ZStep.val (by kernel_rfl) (fun W hW => by have z1 := cell_below hW hc1; have z2 := cell_below hW hc2; have z3 := cell_below hW y3; have z4 := cell_below hW y4; go_simp; done),
                    ZStep.val (by kernel_rfl) (fun W hW => by go_simp; done),
                    ZStep.val (by kernel_rfl) (fun W hW => by go_simp; done),
                    ZStep.val (by kernel_rfl) (fun W _ => by kernel_rfl),
                    ZStep.val (by kernel_rfl) (fun W _ => by kernel_rfl),
                    ZStep.val (by kernel_rfl) (fun W _ => by kernel_rfl),
                    ZStep.val (by kernel_rfl) (fun W hW => by go_simp; done),
                    ZStep.val (by kernel_rfl) (fun W _ => by kernel_rfl),
                    ZStep.val (by kernel_rfl) (fun W hW => by have z1 := cell_below hW hc1; have z2 := cell_below hW hc2; have z3 := cell_below hW y3; have z4 := cell_below hW y4; go_simp; done),
                    ZStep.val (by kernel_rfl) (fun W hW => by go_simp; done),
                    ZStep.val (by kernel_rfl) (fun W _ => by kernel_rfl),
                    ZStep.val (by kernel_rfl) (fun W _ => by kernel_rfl),
                    ZStep.val (by kernel_rfl) (fun W _ => by kernel_rfl),
                    ZStep.val (by kernel_rfl) (fun W _ => by kernel_rfl),
                    ZStep.val (by kernel_rfl) (fun W hW => by go_simp; done),
                    ZStep.val (by kernel_rfl) (fun W _ => by kernel_rfl),
                    ZStep.val (by kernel_rfl) (fun W hW => by have z1 := cell_below hW hc1; have z2 := cell_below hW hc2; have z3 := cell_below hW y3; have z4 := cell_below hW y4; go_simp; done),
                    ZStep.val (by kernel_rfl) (fun W hW => by go_simp; done),
                    ZStep.val (by kernel_rfl) (fun W _ => by kernel_rfl),
                    ZStep.val (by kernel_rfl) (fun W _ => by kernel_rfl),
                    ZStep.val (by kernel_rfl) (fun W _ => by kernel_rfl),
                    ZStep.val (by kernel_rfl) (fun W hW => by go_simp; done),
                    ZStep.val (by kernel_rfl) (fun W _ => by kernel_rfl),
                    ZStep.val (by kernel_rfl) (fun W _ => by kernel_rfl),
                    ZStep.val (by kernel_rfl) (fun W _ => by kernel_rfl),
                    ZStep.val (by kernel_rfl) (fun W hW => by go_simp; done),
                    ZStep.val (by kernel_rfl) (fun W hW => by go_simp; done),
                    ZStep.val (by kernel_rfl) (fun W hW => by have z1 := cell_below hW hc1; have z2 := cell_below hW hc2; have z3 := cell_below hW y3; have z4 := cell_below hW y4; go_simp; done),
                    ZStep.val (by kernel_rfl) (fun W _ => by kernel_rfl),
                    ZStep.val (by kernel_rfl) (fun W _ => by kernel_rfl),
                    ZStep.val (by kernel_rfl) (fun W hW => by go_simp; done),
                    ZStep.val (by kernel_rfl) (fun W hW => by have z1 := cell_below hW hc1; have z2 := cell_below hW hc2; have z3 := cell_below hW y3; have z4 := cell_below hW y4; go_simp; done),
                    ZStep.call (by kernel_rfl) 209 #[.agg #[.string ⟨p1.toArray⟩, .int .i64 ps], .agg #[.string ⟨x.toArray⟩, .int .i64 sc]] (fun _ _ => by kernel_rfl) (fun W hW => (HAH.out W).mono (by rintro e w2 ⟨rfl, hB2⟩; exact ⟨rfl, hW.trans (hB2.mono hW.size)⟩)),
                    ZStep.val (by kernel_rfl) (fun W _ => by kernel_rfl),
                    ZStep.val (by kernel_rfl) (fun W _ => by kernel_rfl),
                    ZStep.val (by kernel_rfl) (fun W _ => by kernel_rfl), trivial⟩ ?fin
          case fin =>
            intro W hW
            have hB := hW
            clear hW q3 q8 q4 q5 q6 q7 HAH y3 y4
            have z1 := cell_below hB hc1
            have HSQ := Lib.hid ((vw_new1 W x 9).src (P := Tryz.prog) Tryz.underlying39 (one_list [x]))
            have HRQ := Lib.hid (show Row o' (W.alloc (.cells #[.string ⟨x.toArray⟩] 9)) [9, 0] 9 1 (.slice ao k co) k (((L.take k).map Prod.fst).map txt) ∧ Stp [9] none0 w o' (W.alloc (.cells #[.string ⟨x.toArray⟩] 9)) from ⟨(HROW.out.below hB).below (lit_below _ _), (HST.out.trans (Stp.ofBelow [9] o' hB)).trans (Stp.ofBelow [9] o' (lit_below _ _))⟩)
            have HTK := Lib.hid htk
            clear hB htk
            unfold txt at HSQ
            go_wp2_with (
              at_builtin
              refine wpList_app _ rfl _ _ 39 39 rfl 9 i0 _ 1 16 Tryz.underlying39 hi0 hz0 hz1 hz2 rfl rfl HRQ.out.1 rfl HSQ.out hm1 hm2 ?_
              intro v5 w5 o5 hrow5 hst5
              obtain ⟨a5, c5, rfl, _⟩ := id hrow5.slice
              have D5 := Lib.hid (show RkRel w L (.slice a5 (k + 1) c5) (.int .i64 ((k + 1 : Nat) : Int)) w5 from ⟨k + 1, o5, hkl, rfl, by rw [HTK.out]; exact hrow5, HRQ.out.2.trans (hst5.wide (by decide)), D.out⟩)
              clear hrow5 hst5 HRQ HSQ)
            go_roundw
            case rel => exact D5.out
            case measure => simp [intOf]; omega
    · obtain rfl : k = L.length := by omega
      have hR : rankB L = decide ((ofL (L.map Prod.fst)).length = L.length) := by rw [rankB_doc, hall]; rfl
      have hv : Vw (fun _ => True) wr (.slice ao L.length co) 1 (L.map Prod.fst).length ((L.map Prod.fst).map txt) := by
        have := hrow.vw
        rw [List.take_length] at this
        rw [List.length_map]
        exact this.imp fun _ _ => trivial
      have HO := Lib.hid (rof_ok hv (by rw [List.length_map]; omega))
      have HB := Lib.hid hst.below0
      have HR := Lib.hid hR
      clear hR hv hrow hst hall hkl
      go_wp2_with fail
      refine HO.out.mono ?_; rintro e w3 ⟨a3, c3, rfl, hv3, hB3⟩
      have HB3 := Lib.hid (HB.out.trans (hB3.mono HB.out.size))
      clear hv3 hB3 HO
      by_cases hl : (ofL (L.map Prod.fst)).length = L.length
      · have D := Lib.hid (show rankB L = true from by rw [HR.out]; exact decide_eq_true hl)
        have hl2 : (((ofL (L.map Prod.fst)).length : Int) == (L.length : Int)) = true := by simp [hl]
        go_wp2_with fail
        go_ret
        exact ⟨by rw [D.out]; rfl, HB3.out⟩
      · have D := Lib.hid (show rankB L = false from by rw [HR.out]; exact decide_eq_false hl)
        have hl2 : (((ofL (L.map Prod.fst)).length : Int) == (L.length : Int)) = false := by simp; omega
        go_wp2_with fail
        go_ret
        exact ⟨by rw [D.out]; rfl, HB3.out⟩
end Go.Proofs.YthojmgjgmbnopaaGreatDoor
