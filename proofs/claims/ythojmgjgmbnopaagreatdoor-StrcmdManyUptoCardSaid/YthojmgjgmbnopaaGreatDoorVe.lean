import Derived.Test.YthojmgjgmbnopaaGreatDoorVm
namespace Go.Proofs.YthojmgjgmbnopaaGreatDoor
open Go Go.RowKit
set_option maxRecDepth 10000 in
set_option maxHeartbeats 4000000 in
theorem vcheck_k5 {A : Nat → Prop} {w : World} {V : VV} {l f r : Value} (h : Val3 A w V l f r) (hs : VSmall V) (hk : V.kind = 5) : Calls Tryz.prog 73 #[valV V l f r] w (VCh w (chkV V)) := by
  obtain ⟨a1, c1, e1, _⟩ := h.list.slice
  obtain ⟨a2, c2, e2, _⟩ := h.fields.slice
  obtain ⟨a3, c3, e3, _⟩ := h.ranked.slice
  have HO := Lib.hid (fun W => vofA_rank W l f r V hk ⟨_, _, _, e1⟩ ⟨_, _, _, e2⟩ ⟨_, _, _, e3⟩)
  have HR := Lib.hid (fun W (hB : Below w.heap.size w W) => rright_any (h.ranked.below hB) hs.ranked)
  obtain ⟨kind, text, list, fields, ranked⟩ := V
  dsimp only at hk e1 e2 e3 HO HR
  subst hk e1 e2 e3
  clear h hs
  have HX := Lib.hid (fun (w2 : World) (hB2 : Below (w.alloc (.cells #[.int .i64 5, .string ⟨text.toArray⟩, .slice a1 list.length c1, .slice a2 fields.length c2, .slice a3 ranked.length c3] 43)).heap.size (w.alloc (.cells #[.int .i64 5, .string ⟨text.toArray⟩, .slice a1 list.length c1, .slice a2 fields.length c2, .slice a3 ranked.length c3] 43)) w2) => show w2.cell? ⟨w.heap.size, 0, none⟩ = some (.int .i64 5) ∧ w2.cell? ⟨w.heap.size, 1, none⟩ = some (.string ⟨text.toArray⟩) ∧ w2.cell? ⟨w.heap.size, 2, none⟩ = some (.slice a1 list.length c1) ∧ w2.cell? ⟨w.heap.size, 3, none⟩ = some (.slice a2 fields.length c2) ∧ w2.cell? ⟨w.heap.size, 4, none⟩ = some (.slice a3 ranked.length c3) from by
    obtain ⟨hq, _⟩ := bcell hB2
    refine ⟨?_, ?_, ?_, ?_, ?_⟩ <;> (rw [hq _ _ (by simp)]; simp [go_sem]))
  by_cases htext : text = []
  · subst htext
    by_cases hlist : list = []
    · subst hlist
      by_cases hfields : fields = []
      · subst hfields
        by_cases hmine : ranked = []
        · subst hmine
          have hc : chkV ⟨5, [], [], [], []⟩ = 131 := by simp [chkV, spareV, emptyV, rightV]
          rw [hc]
          clear hc HR
          go_enter Tryz.func73, Tryz.ntmps73
          go_wp2_with fail
          refine (HO.out _).mono ?_; rintro e w2 ⟨rfl, hB2⟩
          have HB2 := Lib.hid (((Below.refl w.heap.size w).alloc (Nat.le_refl _) _).trans (hB2.mono (by simp)))
          obtain ⟨x0, x1, x2, x3, x4⟩ := HX.out w2 hB2
          clear hB2 HO HX
          go_wp2_with fail
          clear x0 x1 x2 x3 x4
          refine upon_method (f := 352) (y := .slice a3 0 c3) (by kernel_rfl) ?_
          have HE := Lib.hid (vrempty_ok w2 a3 0 c3)
          go_wp2_with fail
          refine HE.out.mono ?_; rintro e w3 ⟨rfl, rfl⟩
          go_wp2_with fail
          go_ret
          exact ⟨rfl, HB2.out⟩
        · have h0 : ((ranked.length : Int) == 0) = false := beq_eq_false_iff_ne.2 (by have := List.length_pos_iff.2 hmine; omega)
          obtain ⟨rb, hrb⟩ : ∃ rb, rb = rankB ranked := ⟨_, rfl⟩
          have hc : chkV ⟨5, [], [], [], ranked⟩ = if rb then 0 else 131 := by rw [hrb]; simp [chkV, spareV, emptyV, rightV, hmine]; try (split <;> simp_all)
          rw [hc]
          rw [← hrb] at HR
          clear hc hrb
          cases rb <;> (
            go_enter Tryz.func73, Tryz.ntmps73
            go_wp2_with fail
            refine (HO.out _).mono ?_; rintro e w2 ⟨rfl, hB2⟩
            have HB2 := Lib.hid (((Below.refl w.heap.size w).alloc (Nat.le_refl _) _).trans (hB2.mono (by simp)))
            obtain ⟨x0, x1, x2, x3, x4⟩ := HX.out w2 hB2
            clear hB2 HO HX
            go_wp2_with fail
            clear x0 x1 x2 x3 x4
            refine upon_method (f := 352) (y := .slice a3 ranked.length c3) (by kernel_rfl) ?_
            have HE := Lib.hid (vrempty_ok w2 a3 ranked.length c3)
            rw [h0] at HE
            go_wp2_with fail
            refine HE.out.mono ?_; rintro e w3 ⟨rfl, rfl⟩
            go_wp2_with fail
            refine upon_method (f := 353) (y := .slice a3 ranked.length c3) (by kernel_rfl) ?_
            go_wp2_with fail
            refine (HR.out _ HB2.out).mono ?_; rintro e w4 ⟨rfl, hB4⟩
            have HB4 := Lib.hid (HB2.out.trans (hB4.mono HB2.out.size))
            clear hB4
            go_wp2_with fail
            go_ret
            exact ⟨rfl, HB4.out⟩)
      · have hpfields : (0 : Int) < (fields.length : Int) := by have := List.length_pos_iff.2 hfields; omega
        have hc : chkV ⟨5, [], [], fields, ranked⟩ = 131 := by simp [chkV, spareV, hfields]
        rw [hc]
        clear hc HR
        go_enter Tryz.func73, Tryz.ntmps73
        go_wp2_with fail
        refine (HO.out _).mono ?_; rintro e w2 ⟨rfl, hB2⟩
        have HB2 := Lib.hid (((Below.refl w.heap.size w).alloc (Nat.le_refl _) _).trans (hB2.mono (by simp)))
        obtain ⟨x0, x1, x2, x3, x4⟩ := HX.out w2 hB2
        clear hB2 HO HX
        go_wp2_with fail
        go_ret
        exact ⟨rfl, HB2.out⟩
    · have hplist : (0 : Int) < (list.length : Int) := by have := List.length_pos_iff.2 hlist; omega
      have hc : chkV ⟨5, [], list, fields, ranked⟩ = 131 := by simp [chkV, spareV, hlist]
      rw [hc]
      clear hc HR
      go_enter Tryz.func73, Tryz.ntmps73
      go_wp2_with fail
      refine (HO.out _).mono ?_; rintro e w2 ⟨rfl, hB2⟩
      have HB2 := Lib.hid (((Below.refl w.heap.size w).alloc (Nat.le_refl _) _).trans (hB2.mono (by simp)))
      obtain ⟨x0, x1, x2, x3, x4⟩ := HX.out w2 hB2
      clear hB2 HO HX
      go_wp2_with fail
      go_ret
      exact ⟨rfl, HB2.out⟩
  · have hptext : (text == []) = false ∧ (text != []) = true := ⟨by simpa using htext, by simpa using htext⟩
    obtain ⟨hp1, hp2⟩ := hptext
    have hc : chkV ⟨5, text, list, fields, ranked⟩ = 131 := by simp [chkV, spareV, htext]
    rw [hc]
    clear hc HR
    go_enter Tryz.func73, Tryz.ntmps73
    go_wp2_with fail
    refine (HO.out _).mono ?_; rintro e w2 ⟨rfl, hB2⟩
    have HB2 := Lib.hid (((Below.refl w.heap.size w).alloc (Nat.le_refl _) _).trans (hB2.mono (by simp)))
    obtain ⟨x0, x1, x2, x3, x4⟩ := HX.out w2 hB2
    clear hB2 HO HX
    go_wp2_with fail
    go_ret
    exact ⟨rfl, HB2.out⟩
end Go.Proofs.YthojmgjgmbnopaaGreatDoor
