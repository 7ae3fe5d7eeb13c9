import Derived.Test.YthojmgjgmbnopaaGreatDoorUa
namespace Go.Proofs.YthojmgjgmbnopaaGreatDoor
open Go Go.RowKit
/-! The document's Check of any value: it answers as the program's. -/
set_option maxRecDepth 10000 in
set_option maxHeartbeats 4000000 in
theorem xcheck_k1 {A : Nat → Prop} {w : World} {V : VV} {l f r : Value} (h : Val3 A w V l f r) (hs : VSmall V) (hk : V.kind = 1) : Calls Tryz.prog 78 #[valV V l f r] w (VCh w (chkV V)) := by
  obtain ⟨a1, c1, e1, _⟩ := h.list.slice
  obtain ⟨a2, c2, e2, _⟩ := h.fields.slice
  obtain ⟨a3, c3, e3, _⟩ := h.ranked.slice
  have HE := Lib.hid (fun W => xempty_any W l f r V (by omega) ⟨_, _, e1⟩ ⟨_, _, e2⟩ ⟨_, _, e3⟩)
  have HV := Lib.hid (fun W (hB : Below w.heap.size w W) => xvalid_any (h.list.below hB) hs.list)
  have HF := Lib.hid (fun W (hB : Below w.heap.size w W) => xfields_any (h.fields.below hB) hs.fields)
  have HR := Lib.hid (fun W (hB : Below w.heap.size w W) => xranked_any (h.ranked.below hB) hs.ranked)
  have HL := Lib.hid (fun W (hB : Below w.heap.size w W) => h.list.below hB)
  have hn1 := hs.list
  obtain ⟨kind, text, list, fields, ranked⟩ := V
  dsimp only at hk e1 e2 e3 HE HF HR HV HL hn1
  subst hk e1 e2 e3
  clear h hs
  have hb : Blk none0 (w.alloc (.cells #[.int .i64 1, .string ⟨text.toArray⟩, .slice a1 list.length c1, .slice a2 fields.length c2, .slice a3 ranked.length c3] 43)) [] w.heap.size #[.int .i64 1, .string ⟨text.toArray⟩, .slice a1 list.length c1, .slice a2 fields.length c2, .slice a3 ranked.length c3] 43 := ⟨heap_alloc_new w _, rfl⟩
  have HB := Lib.hid hb
  have HB1 := Lib.hid ((Below.refl w.heap.size w).alloc (Nat.le_refl _) (.cells #[.int .i64 1, .string ⟨text.toArray⟩, .slice a1 list.length c1, .slice a2 fields.length c2, .slice a3 ranked.length c3] 43))
  clear hb
  by_cases htl : (1048576 : Int) < (text.length : Int)
  · have htx : shortB text = false := by unfold shortB; simp; omega
    have hp0 : text ≠ [] := by rintro rfl; simp at htl
    have hp1 : (text == []) = false ∧ (text != []) = true := ⟨by simpa using hp0, by simpa using hp0⟩
    obtain ⟨hp1, hp2⟩ := hp1
    have hc : chkV ⟨1, text, list, fields, ranked⟩ = 131 := by unfold chkV; simp only [rightV, htx]; split; (rename_i hh; exact absurd hh (by simp)); split <;> simp
    rw [hc]
    clear hc htx HE HF HR HV HL HB hn1
    go_enter Tryz.func78, Tryz.ntmps78
    go_wp2_with fail
    go_ret
    exact ⟨rfl, HB1.out⟩
  by_cases hlist : list = []
  · subst hlist
    by_cases hfields : fields = []
    · subst hfields
      by_cases hranked : ranked = []
      · subst hranked
        have hs1 : shortB text = true := by unfold shortB; simp; omega
        have hc : chkV ⟨1, text, [], [], []⟩ = 0 := by simp [chkV, spareV, emptyV, rightV, hs1]
        rw [hc]
        have HE := Lib.hid (show ∀ W : World, Calls Tryz.prog 144 #[.agg #[.int .i64 1, .string ⟨text.toArray⟩, .slice a1 ([] : List _).length c1, .slice a2 ([] : List _).length c2, .slice a3 ([] : List _).length c3]] W fun e w' => e = .returned (.bool false) ∧ Below W.heap.size W w' from HE.out)
        have HF := Lib.hid (show ∀ W : World, Below w.heap.size w W → Calls Tryz.prog 146 #[.slice a2 0 c2] W fun e w' => e = .returned (.bool true) ∧ Below W.heap.size W w' from HF.out)
        have HR := Lib.hid (show ∀ W : World, Below w.heap.size w W → Calls Tryz.prog 147 #[.slice a3 0 c3] W fun e w' => e = .returned (.bool true) ∧ Below W.heap.size W w' from fun W hW => by have h := HR.out W hW; rw [show rankB [] = true by decide] at h; exact h)
        obtain ⟨b, q1, q2⟩ : ∃ b, (text == []) = b ∧ (text != []) = !b := ⟨_, rfl, rfl⟩
        clear hc hs1 HV HL hn1
        cases b
        all_goals (
          simp only [Bool.not_true, Bool.not_false] at q2
          go_enter Tryz.func78, Tryz.ntmps78
          go_wp2_with fail
          refine (HE.out _).mono ?_; rintro e w2 ⟨rfl, hB2⟩
          have hb2 := HB.out.below (hB2)
          have hc2 := hb2.cell
          have hl2 := hb2.lt
          have HB2 := Lib.hid (HB1.out.trans (hB2.mono (by have := HB1.out.size; first | exact this | (simp; done) | omega)))
          have Hb2 := Lib.hid hb2
          clear hB2 hb2
          go_wp2_with fail
          refine (HF.out _ HB2.out).mono ?_; rintro e w3 ⟨rfl, hB3⟩
          have hb3 := Hb2.out.below hB3
          have hc3 := hb3.cell
          have hl3 := hb3.lt
          have HB3 := Lib.hid (HB2.out.trans (hB3.mono (by have := HB2.out.size; first | exact this | (simp; done) | omega)))
          have Hb3 := Lib.hid hb3
          clear hB3 hb3 hc2 hl2
          go_wp2_with fail
          refine (HR.out _ HB3.out).mono ?_; rintro e w4 ⟨rfl, hB4⟩
          have hb4 := Hb3.out.below hB4
          have hc4 := hb4.cell
          have hl4 := hb4.lt
          have HB4 := Lib.hid (HB3.out.trans (hB4.mono (by have := HB3.out.size; first | exact this | (simp; done) | omega)))
          have Hb4 := Lib.hid hb4
          clear hB4 hb4 hc3 hl3
          go_wp2_with fail
          go_loopw [3] (fun i wr => ∃ k q : Nat, k ≤ ([] : List Tx).length ∧ i = .int .i64 (k : Int) ∧ wr = w4.drewN q ∧ (([] : List Tx).take k).all shortB = true) (fun i _ => ([] : List Tx).length + 1 - (intOf i).toNat)
          case atStart => exact ⟨0, 0, Nat.zero_le _, rfl, rfl, rfl⟩
          case round =>
            obtain ⟨k, q, hk, rfl, rfl, hall⟩ := hrel
            obtain rfl : k = 0 := by simpa using hk
            clear hall hk
            go_wp2_with fail
            go_ret
            exact ⟨rfl, below_drewN HB4.out _⟩)
      · have hpranked : (0 : Int) < (ranked.length : Int) := by have := List.length_pos_iff.2 hranked; omega
        obtain ⟨b, q1, q2⟩ : ∃ b, (text == []) = b ∧ (text != []) = !b := ⟨_, rfl, rfl⟩
        have hc : chkV ⟨1, text, [], [], ranked⟩ = 131 := by simp [chkV, spareV, hranked]
        rw [hc]
        clear hc HE HF HR HV HL HB hn1
        cases b <;> (
          simp only [Bool.not_true, Bool.not_false] at q2
          go_enter Tryz.func78, Tryz.ntmps78
          go_wp2_with fail
          go_ret
          exact ⟨rfl, HB1.out⟩)
    · have hpfields : (0 : Int) < (fields.length : Int) := by have := List.length_pos_iff.2 hfields; omega
      obtain ⟨b, q1, q2⟩ : ∃ b, (text == []) = b ∧ (text != []) = !b := ⟨_, rfl, rfl⟩
      have hc : chkV ⟨1, text, [], fields, ranked⟩ = 131 := by simp [chkV, spareV, hfields]
      rw [hc]
      clear hc HE HF HR HV HL HB hn1
      cases b <;> (
        simp only [Bool.not_true, Bool.not_false] at q2
        go_enter Tryz.func78, Tryz.ntmps78
        go_wp2_with fail
        go_ret
        exact ⟨rfl, HB1.out⟩)
  · have hplist : (0 : Int) < (list.length : Int) := by have := List.length_pos_iff.2 hlist; omega
    obtain ⟨b, q1, q2⟩ : ∃ b, (text == []) = b ∧ (text != []) = !b := ⟨_, rfl, rfl⟩
    have hc : chkV ⟨1, text, list, fields, ranked⟩ = 131 := by simp [chkV, spareV, hlist]
    rw [hc]
    clear hc HE HF HR HV HL HB hn1
    cases b <;> (
      simp only [Bool.not_true, Bool.not_false] at q2
      go_enter Tryz.func78, Tryz.ntmps78
      go_wp2_with fail
      go_ret
      exact ⟨rfl, HB1.out⟩)
set_option maxRecDepth 10000 in
set_option maxHeartbeats 4000000 in
theorem xcheck_k2 {A : Nat → Prop} {w : World} {V : VV} {l f r : Value} (h : Val3 A w V l f r) (hs : VSmall V) (hk : V.kind = 2) : Calls Tryz.prog 78 #[valV V l f r] w (VCh w (chkV V)) := by
  obtain ⟨a1, c1, e1, _⟩ := h.list.slice
  obtain ⟨a2, c2, e2, _⟩ := h.fields.slice
  obtain ⟨a3, c3, e3, _⟩ := h.ranked.slice
  have HE := Lib.hid (fun W => xempty_any W l f r V (by omega) ⟨_, _, e1⟩ ⟨_, _, e2⟩ ⟨_, _, e3⟩)
  have HV := Lib.hid (fun W (hB : Below w.heap.size w W) => xvalid_any (h.list.below hB) hs.list)
  have HF := Lib.hid (fun W (hB : Below w.heap.size w W) => xfields_any (h.fields.below hB) hs.fields)
  have HR := Lib.hid (fun W (hB : Below w.heap.size w W) => xranked_any (h.ranked.below hB) hs.ranked)
  have HL := Lib.hid (fun W (hB : Below w.heap.size w W) => h.list.below hB)
  have hn1 := hs.list
  obtain ⟨kind, text, list, fields, ranked⟩ := V
  dsimp only at hk e1 e2 e3 HE HF HR HV HL hn1
  subst hk e1 e2 e3
  clear h hs
  have hb : Blk none0 (w.alloc (.cells #[.int .i64 2, .string ⟨text.toArray⟩, .slice a1 list.length c1, .slice a2 fields.length c2, .slice a3 ranked.length c3] 43)) [] w.heap.size #[.int .i64 2, .string ⟨text.toArray⟩, .slice a1 list.length c1, .slice a2 fields.length c2, .slice a3 ranked.length c3] 43 := ⟨heap_alloc_new w _, rfl⟩
  have HB := Lib.hid hb
  have HB1 := Lib.hid ((Below.refl w.heap.size w).alloc (Nat.le_refl _) (.cells #[.int .i64 2, .string ⟨text.toArray⟩, .slice a1 list.length c1, .slice a2 fields.length c2, .slice a3 ranked.length c3] 43))
  clear hb
  by_cases htl : (1048576 : Int) < (text.length : Int)
  · have htx : shortB text = false := by unfold shortB; simp; omega
    have hp0 : text ≠ [] := by rintro rfl; simp at htl
    have hp1 : (text == []) = false ∧ (text != []) = true := ⟨by simpa using hp0, by simpa using hp0⟩
    obtain ⟨hp1, hp2⟩ := hp1
    have hc : chkV ⟨2, text, list, fields, ranked⟩ = 131 := by simp [chkV, spareV, hp0]
    rw [hc]
    clear hc htx HE HF HR HV HL HB hn1
    go_enter Tryz.func78, Tryz.ntmps78
    go_wp2_with fail
    go_ret
    exact ⟨rfl, HB1.out⟩
  by_cases htext : text = []
  · subst htext
    clear htl
    by_cases hfields : fields = []
    · subst hfields
      by_cases hranked : ranked = []
      · subst hranked
        by_cases hown : list = []
        · subst hown
          have hc : chkV ⟨2, [], [], [], []⟩ = 131 := by simp [chkV, spareV, emptyV]
          rw [hc]
          have HE := Lib.hid (show ∀ W : World, Calls Tryz.prog 144 #[.agg #[.int .i64 2, .string ⟨([]).toArray⟩, .slice a1 ([] : List _).length c1, .slice a2 ([] : List _).length c2, .slice a3 ([] : List _).length c3]] W fun e w' => e = .returned (.bool true) ∧ Below W.heap.size W w' from HE.out)
          clear hc HF HR HV HL hn1
          go_enter Tryz.func78, Tryz.ntmps78
          go_wp2_with fail
          refine (HE.out _).mono ?_; rintro e w2 ⟨rfl, hB2⟩
          have hb2 := HB.out.below (hB2)
          have hc2 := hb2.cell
          have hl2 := hb2.lt
          have HB2 := Lib.hid (HB1.out.trans (hB2.mono (by have := HB1.out.size; first | exact this | (simp; done) | omega)))
          have Hb2 := Lib.hid hb2
          clear hB2 hb2
          go_wp2_with fail
          go_ret
          exact ⟨rfl, HB2.out⟩
        · have hE : emptyV ⟨2, [], list, [], []⟩ = false := by simp [emptyV, hown]
          have hpos : (0 : Int) < (list.length : Int) := by have := List.length_pos_iff.2 hown; omega
          have HE := Lib.hid (show ∀ W : World, Calls Tryz.prog 144 #[.agg #[.int .i64 2, .string ⟨([]).toArray⟩, .slice a1 list.length c1, .slice a2 ([] : List _).length c2, .slice a3 ([] : List _).length c3]] W fun e w' => e = .returned (.bool false) ∧ Below W.heap.size W w' from by have := HE.out; rw [hE] at this; exact this)
          have hbad : list.all shortB = false → chkV ⟨2, [], list, [], []⟩ = 131 := fun h => by simp [chkV, spareV, emptyV, rightV, h]
          have hgood : list.all shortB = true → chkV ⟨2, [], list, [], []⟩ = 0 := fun h => by simp only [chkV, spareV, emptyV, rightV, h]; simp [hown]
          have HF := Lib.hid (show ∀ W : World, Below w.heap.size w W → Calls Tryz.prog 146 #[.slice a2 0 c2] W fun e w' => e = .returned (.bool true) ∧ Below W.heap.size W w' from HF.out)
          have HR := Lib.hid (show ∀ W : World, Below w.heap.size w W → Calls Tryz.prog 147 #[.slice a3 0 c3] W fun e w' => e = .returned (.bool true) ∧ Below W.heap.size W w' from fun W hW => by have h := HR.out W hW; rw [show rankB [] = true by decide] at h; exact h)
          have HGOOD := Lib.hid hgood
          have HBAD := Lib.hid hbad
          clear hE hgood hbad HV
          go_enter Tryz.func78, Tryz.ntmps78
          go_wp2_with fail
          refine (HE.out _).mono ?_; rintro e w2 ⟨rfl, hB2⟩
          have hb2 := HB.out.below (hB2)
          have hc2 := hb2.cell
          have hl2 := hb2.lt
          have HB2 := Lib.hid (HB1.out.trans (hB2.mono (by have := HB1.out.size; first | exact this | (simp; done) | omega)))
          have Hb2 := Lib.hid hb2
          clear hB2 hb2
          go_wp2_with fail
          refine (HF.out _ HB2.out).mono ?_; rintro e w3 ⟨rfl, hB3⟩
          have hb3 := Hb2.out.below hB3
          have hc3 := hb3.cell
          have hl3 := hb3.lt
          have HB3 := Lib.hid (HB2.out.trans (hB3.mono (by have := HB2.out.size; first | exact this | (simp; done) | omega)))
          have Hb3 := Lib.hid hb3
          clear hB3 hb3 hc2 hl2
          go_wp2_with fail
          refine (HR.out _ HB3.out).mono ?_; rintro e w4 ⟨rfl, hB4⟩
          have hb4 := Hb3.out.below hB4
          have hc4 := hb4.cell
          have hl4 := hb4.lt
          have HB4 := Lib.hid (HB3.out.trans (hB4.mono (by have := HB3.out.size; first | exact this | (simp; done) | omega)))
          have Hb4 := Lib.hid hb4
          clear hB4 hb4 hc3 hl3
          go_wp2_with fail
          go_loopw [3] (fun i wr => ∃ k q : Nat, k ≤ (list : List Tx).length ∧ i = .int .i64 (k : Int) ∧ wr = w4.drewN q ∧ ((list : List Tx).take k).all shortB = true) (fun i _ => (list : List Tx).length + 1 - (intOf i).toNat)
          case atStart => exact ⟨0, 0, Nat.zero_le _, rfl, rfl, rfl⟩
          case round =>
            obtain ⟨k, q, hk, rfl, rfl, hall⟩ := hrel
            by_cases hkl : k < list.length
            · obtain ⟨x, hx⟩ : ∃ x, list[k]? = some x := ⟨_, List.getElem?_eq_getElem hkl⟩
              obtain ⟨b, off, rfl, _, _, hg⟩ := vw_get (HL.out w4 HB4.out) (by omega)
              have hcx : w4.cell? ⟨b, off + k, none⟩ = some (.string ⟨x.toArray⟩) := hg k x hx
              have hk0 : (0 : Int) ≤ k := by omega
              have hk1 : (k : Int) < list.length := by omega
              have hk2 : IntKind.i64.wrap ((k : Int) + 1) = (k : Int) + 1 := by rw [IntKind.wrap_i64]; omega
              have HA := Lib.hid hall
              have HX := Lib.hid hx
              clear hg hx hall HL
              rcases hxy : shortB x with _ | _
              · have D := Lib.hid (show chkV ⟨2, [], list, [], []⟩ = 131 from HBAD.out (all_false_of HX.out hxy))
                have q1 : (1048576 : Int) < x.length := by unfold shortB at hxy; simp at hxy; omega
                clear HA HX hxy
                go_wp2_with fail
                go_ret
                exact ⟨by rw [D.out]; rfl, below_drewN HB4.out _⟩
              · have D := Lib.hid (show (list.take (k + 1)).all shortB = true from by rw [all_take_succ HX.out, HA.out, hxy]; rfl)
                have q1 : ¬ (1048576 : Int) < x.length := by unfold shortB at hxy; simp at hxy; omega
                clear HA HX hxy
                go_wp2_with fail
                go_roundw
                case rel => exact ⟨k + 1, q, by omega, by go_num, rfl, D.out⟩
                case measure => simp [intOf]; omega
            · have hke : k = list.length := by omega
              have hk1 : ¬ (k : Int) < list.length := by omega
              have D := Lib.hid (show chkV ⟨2, [], list, [], []⟩ = 0 from HGOOD.out (by rw [hke, List.take_length] at hall; exact hall))
              clear hall hkl HL hke
              go_wp2_with fail
              go_ret
              exact ⟨by rw [D.out]; rfl, below_drewN HB4.out _⟩
      · have hpranked : (0 : Int) < (ranked.length : Int) := by have := List.length_pos_iff.2 hranked; omega
        have hc : chkV ⟨2, [], list, [], ranked⟩ = 131 := by simp [chkV, spareV, hranked]
        rw [hc]
        clear hc HE HF HR HV HL HB hn1
        go_enter Tryz.func78, Tryz.ntmps78
        go_wp2_with fail
        all_goals (
          go_ret
          exact ⟨rfl, HB1.out⟩)
    · have hpfields : (0 : Int) < (fields.length : Int) := by have := List.length_pos_iff.2 hfields; omega
      have hc : chkV ⟨2, [], list, fields, ranked⟩ = 131 := by simp [chkV, spareV, hfields]
      rw [hc]
      clear hc HE HF HR HV HL HB hn1
      go_enter Tryz.func78, Tryz.ntmps78
      go_wp2_with fail
      all_goals (
        go_ret
        exact ⟨rfl, HB1.out⟩)
  · have hptext : (text == []) = false ∧ (text != []) = true := ⟨by simpa using htext, by simpa using htext⟩
    obtain ⟨hp1, hp2⟩ := hptext
    have hc : chkV ⟨2, text, list, fields, ranked⟩ = 131 := by simp [chkV, spareV, htext]
    rw [hc]
    clear hc HE HF HR HV HL HB hn1
    go_enter Tryz.func78, Tryz.ntmps78
    go_wp2_with fail
    all_goals (
      go_ret
      exact ⟨rfl, HB1.out⟩)
set_option maxRecDepth 10000 in
set_option maxHeartbeats 4000000 in
theorem xcheck_k3 {A : Nat → Prop} {w : World} {V : VV} {l f r : Value} (h : Val3 A w V l f r) (hs : VSmall V) (hk : V.kind = 3) : Calls Tryz.prog 78 #[valV V l f r] w (VCh w (chkV V)) := by
  obtain ⟨a1, c1, e1, _⟩ := h.list.slice
  obtain ⟨a2, c2, e2, _⟩ := h.fields.slice
  obtain ⟨a3, c3, e3, _⟩ := h.ranked.slice
  have HE := Lib.hid (fun W => xempty_any W l f r V (by omega) ⟨_, _, e1⟩ ⟨_, _, e2⟩ ⟨_, _, e3⟩)
  have HV := Lib.hid (fun W (hB : Below w.heap.size w W) => xvalid_any (h.list.below hB) hs.list)
  have HF := Lib.hid (fun W (hB : Below w.heap.size w W) => xfields_any (h.fields.below hB) hs.fields)
  have HR := Lib.hid (fun W (hB : Below w.heap.size w W) => xranked_any (h.ranked.below hB) hs.ranked)
  have HL := Lib.hid (fun W (hB : Below w.heap.size w W) => h.list.below hB)
  have hn1 := hs.list
  obtain ⟨kind, text, list, fields, ranked⟩ := V
  dsimp only at hk e1 e2 e3 HE HF HR HV HL hn1
  subst hk e1 e2 e3
  clear h hs
  have hb : Blk none0 (w.alloc (.cells #[.int .i64 3, .string ⟨text.toArray⟩, .slice a1 list.length c1, .slice a2 fields.length c2, .slice a3 ranked.length c3] 43)) [] w.heap.size #[.int .i64 3, .string ⟨text.toArray⟩, .slice a1 list.length c1, .slice a2 fields.length c2, .slice a3 ranked.length c3] 43 := ⟨heap_alloc_new w _, rfl⟩
  have HB := Lib.hid hb
  have HB1 := Lib.hid ((Below.refl w.heap.size w).alloc (Nat.le_refl _) (.cells #[.int .i64 3, .string ⟨text.toArray⟩, .slice a1 list.length c1, .slice a2 fields.length c2, .slice a3 ranked.length c3] 43))
  clear hb
  by_cases htl : (1048576 : Int) < (text.length : Int)
  · have htx : shortB text = false := by unfold shortB; simp; omega
    have hp0 : text ≠ [] := by rintro rfl; simp at htl
    have hp1 : (text == []) = false ∧ (text != []) = true := ⟨by simpa using hp0, by simpa using hp0⟩
    obtain ⟨hp1, hp2⟩ := hp1
    have hc : chkV ⟨3, text, list, fields, ranked⟩ = 131 := by simp [chkV, spareV, hp0]
    rw [hc]
    clear hc htx HE HF HR HV HL HB hn1
    go_enter Tryz.func78, Tryz.ntmps78
    go_wp2_with fail
    go_ret
    exact ⟨rfl, HB1.out⟩
  by_cases htext : text = []
  · subst htext
    clear htl
    by_cases hlist : list = []
    · subst hlist
      by_cases hranked : ranked = []
      · subst hranked
        by_cases hown : fields = []
        · subst hown
          have hc : chkV ⟨3, [], [], [], []⟩ = 131 := by simp [chkV, spareV, emptyV]
          rw [hc]
          have HE := Lib.hid (show ∀ W : World, Calls Tryz.prog 144 #[.agg #[.int .i64 3, .string ⟨([]).toArray⟩, .slice a1 ([] : List _).length c1, .slice a2 ([] : List _).length c2, .slice a3 ([] : List _).length c3]] W fun e w' => e = .returned (.bool true) ∧ Below W.heap.size W w' from HE.out)
          clear hc HF HR HV HL hn1
          go_enter Tryz.func78, Tryz.ntmps78
          go_wp2_with fail
          refine (HE.out _).mono ?_; rintro e w2 ⟨rfl, hB2⟩
          have hb2 := HB.out.below (hB2)
          have hc2 := hb2.cell
          have hl2 := hb2.lt
          have HB2 := Lib.hid (HB1.out.trans (hB2.mono (by have := HB1.out.size; first | exact this | (simp; done) | omega)))
          have Hb2 := Lib.hid hb2
          clear hB2 hb2
          go_wp2_with fail
          go_ret
          exact ⟨rfl, HB2.out⟩
        · have hE : emptyV ⟨3, [], [], fields, []⟩ = false := by simp [emptyV, hown]
          have hpos : (0 : Int) < (fields.length : Int) := by have := List.length_pos_iff.2 hown; omega
          have HE := Lib.hid (show ∀ W : World, Calls Tryz.prog 144 #[.agg #[.int .i64 3, .string ⟨([]).toArray⟩, .slice a1 ([] : List _).length c1, .slice a2 fields.length c2, .slice a3 ([] : List _).length c3]] W fun e w' => e = .returned (.bool false) ∧ Below W.heap.size W w' from by have := HE.out; rw [hE] at this; exact this)
          by_cases hvl : hashB fields = false
          · have hc : chkV ⟨3, [], [], fields, []⟩ = 131 := by simp [chkV, spareV, emptyV, rightV, hvl]
            rw [hc]
            have HF := Lib.hid (show ∀ W : World, Below w.heap.size w W → Calls Tryz.prog 146 #[.slice a2 fields.length c2] W fun e w' => e = .returned (.bool false) ∧ Below W.heap.size W w' from by have := HF.out; rw [hvl] at this; exact this)
            clear hc hvl hE HV HL hn1 HR
            go_enter Tryz.func78, Tryz.ntmps78
            go_wp2_with fail
            refine (HE.out _).mono ?_; rintro e w2 ⟨rfl, hB2⟩
            have hb2 := HB.out.below (hB2)
            have hc2 := hb2.cell
            have hl2 := hb2.lt
            have HB2 := Lib.hid (HB1.out.trans (hB2.mono (by have := HB1.out.size; first | exact this | (simp; done) | omega)))
            have Hb2 := Lib.hid hb2
            clear hB2 hb2
            go_wp2_with fail
            refine (HF.out _ HB2.out).mono ?_; rintro e w3 ⟨rfl, hB3⟩
            have hb3 := Hb2.out.below hB3
            have hc3 := hb3.cell
            have hl3 := hb3.lt
            have HB3 := Lib.hid (HB2.out.trans (hB3.mono (by have := HB2.out.size; first | exact this | (simp; done) | omega)))
            have Hb3 := Lib.hid hb3
            clear hB3 hb3 hc2 hl2
            go_wp2_with fail
            go_ret
            exact ⟨rfl, HB3.out⟩
          · have hvl : hashB fields = true := by simpa using hvl
            have hc : chkV ⟨3, [], [], fields, []⟩ = 0 := by simp only [chkV, spareV, emptyV, rightV, hvl]; simp [hown]
            rw [hc]
            have HF := Lib.hid (show ∀ W : World, Below w.heap.size w W → Calls Tryz.prog 146 #[.slice a2 fields.length c2] W fun e w' => e = .returned (.bool true) ∧ Below W.heap.size W w' from by have := HF.out; rw [hvl] at this; exact this)
            have HR := Lib.hid (show ∀ W : World, Below w.heap.size w W → Calls Tryz.prog 147 #[.slice a3 0 c3] W fun e w' => e = .returned (.bool true) ∧ Below W.heap.size W w' from fun W hW => by have h := HR.out W hW; rw [show rankB [] = true by decide] at h; exact h)
            clear hc hvl hE HV HL hn1
            go_enter Tryz.func78, Tryz.ntmps78
            go_wp2_with fail
            refine (HE.out _).mono ?_; rintro e w2 ⟨rfl, hB2⟩
            have hb2 := HB.out.below (hB2)
            have hc2 := hb2.cell
            have hl2 := hb2.lt
            have HB2 := Lib.hid (HB1.out.trans (hB2.mono (by have := HB1.out.size; first | exact this | (simp; done) | omega)))
            have Hb2 := Lib.hid hb2
            clear hB2 hb2
            go_wp2_with fail
            refine (HF.out _ HB2.out).mono ?_; rintro e w3 ⟨rfl, hB3⟩
            have hb3 := Hb2.out.below hB3
            have hc3 := hb3.cell
            have hl3 := hb3.lt
            have HB3 := Lib.hid (HB2.out.trans (hB3.mono (by have := HB2.out.size; first | exact this | (simp; done) | omega)))
            have Hb3 := Lib.hid hb3
            clear hB3 hb3 hc2 hl2
            go_wp2_with fail
            refine (HR.out _ HB3.out).mono ?_; rintro e w4 ⟨rfl, hB4⟩
            have hb4 := Hb3.out.below hB4
            have hc4 := hb4.cell
            have hl4 := hb4.lt
            have HB4 := Lib.hid (HB3.out.trans (hB4.mono (by have := HB3.out.size; first | exact this | (simp; done) | omega)))
            have Hb4 := Lib.hid hb4
            clear hB4 hb4 hc3 hl3
            go_wp2_with fail
            go_loopw [3] (fun i wr => ∃ k q : Nat, k ≤ ([] : List Tx).length ∧ i = .int .i64 (k : Int) ∧ wr = w4.drewN q ∧ (([] : List Tx).take k).all shortB = true) (fun i _ => ([] : List Tx).length + 1 - (intOf i).toNat)
            case atStart => exact ⟨0, 0, Nat.zero_le _, rfl, rfl, rfl⟩
            case round =>
              obtain ⟨k, q, hk, rfl, rfl, hall⟩ := hrel
              obtain rfl : k = 0 := by simpa using hk
              clear hall hk
              go_wp2_with fail
              go_ret
              exact ⟨rfl, below_drewN HB4.out _⟩
      · have hpranked : (0 : Int) < (ranked.length : Int) := by have := List.length_pos_iff.2 hranked; omega
        have hc : chkV ⟨3, [], [], fields, ranked⟩ = 131 := by simp [chkV, spareV, hranked]
        rw [hc]
        clear hc HE HF HR HV HL HB hn1
        go_enter Tryz.func78, Tryz.ntmps78
        go_wp2_with fail
        all_goals (
          go_ret
          exact ⟨rfl, HB1.out⟩)
    · have hplist : (0 : Int) < (list.length : Int) := by have := List.length_pos_iff.2 hlist; omega
      have hc : chkV ⟨3, [], list, fields, ranked⟩ = 131 := by simp [chkV, spareV, hlist]
      rw [hc]
      clear hc HE HF HR HV HL HB hn1
      go_enter Tryz.func78, Tryz.ntmps78
      go_wp2_with fail
      all_goals (
        go_ret
        exact ⟨rfl, HB1.out⟩)
  · have hptext : (text == []) = false ∧ (text != []) = true := ⟨by simpa using htext, by simpa using htext⟩
    obtain ⟨hp1, hp2⟩ := hptext
    have hc : chkV ⟨3, text, list, fields, ranked⟩ = 131 := by simp [chkV, spareV, htext]
    rw [hc]
    clear hc HE HF HR HV HL HB hn1
    go_enter Tryz.func78, Tryz.ntmps78
    go_wp2_with fail
    all_goals (
      go_ret
      exact ⟨rfl, HB1.out⟩)
set_option maxRecDepth 10000 in
set_option maxHeartbeats 4000000 in
theorem xcheck_k4 {A : Nat → Prop} {w : World} {V : VV} {l f r : Value} (h : Val3 A w V l f r) (hs : VSmall V) (hk : V.kind = 4) : Calls Tryz.prog 78 #[valV V l f r] w (VCh w (chkV V)) := by
  obtain ⟨a1, c1, e1, _⟩ := h.list.slice
  obtain ⟨a2, c2, e2, _⟩ := h.fields.slice
  obtain ⟨a3, c3, e3, _⟩ := h.ranked.slice
  have HE := Lib.hid (fun W => xempty_any W l f r V (by omega) ⟨_, _, e1⟩ ⟨_, _, e2⟩ ⟨_, _, e3⟩)
  have HV := Lib.hid (fun W (hB : Below w.heap.size w W) => xvalid_any (h.list.below hB) hs.list)
  have HF := Lib.hid (fun W (hB : Below w.heap.size w W) => xfields_any (h.fields.below hB) hs.fields)
  have HR := Lib.hid (fun W (hB : Below w.heap.size w W) => xranked_any (h.ranked.below hB) hs.ranked)
  have HL := Lib.hid (fun W (hB : Below w.heap.size w W) => h.list.below hB)
  have hn1 := hs.list
  obtain ⟨kind, text, list, fields, ranked⟩ := V
  dsimp only at hk e1 e2 e3 HE HF HR HV HL hn1
  subst hk e1 e2 e3
  clear h hs
  have hb : Blk none0 (w.alloc (.cells #[.int .i64 4, .string ⟨text.toArray⟩, .slice a1 list.length c1, .slice a2 fields.length c2, .slice a3 ranked.length c3] 43)) [] w.heap.size #[.int .i64 4, .string ⟨text.toArray⟩, .slice a1 list.length c1, .slice a2 fields.length c2, .slice a3 ranked.length c3] 43 := ⟨heap_alloc_new w _, rfl⟩
  have HB := Lib.hid hb
  have HB1 := Lib.hid ((Below.refl w.heap.size w).alloc (Nat.le_refl _) (.cells #[.int .i64 4, .string ⟨text.toArray⟩, .slice a1 list.length c1, .slice a2 fields.length c2, .slice a3 ranked.length c3] 43))
  clear hb
  by_cases htl : (1048576 : Int) < (text.length : Int)
  · have htx : shortB text = false := by unfold shortB; simp; omega
    have hp0 : text ≠ [] := by rintro rfl; simp at htl
    have hp1 : (text == []) = false ∧ (text != []) = true := ⟨by simpa using hp0, by simpa using hp0⟩
    obtain ⟨hp1, hp2⟩ := hp1
    have hc : chkV ⟨4, text, list, fields, ranked⟩ = 131 := by simp [chkV, spareV, hp0]
    rw [hc]
    clear hc htx HE HF HR HV HL HB hn1
    go_enter Tryz.func78, Tryz.ntmps78
    go_wp2_with fail
    go_ret
    exact ⟨rfl, HB1.out⟩
  by_cases htext : text = []
  · subst htext
    clear htl
    by_cases hfields : fields = []
    · subst hfields
      by_cases hranked : ranked = []
      · subst hranked
        by_cases hown : list = []
        · subst hown
          have hc : chkV ⟨4, [], [], [], []⟩ = 131 := by simp [chkV, spareV, emptyV]
          rw [hc]
          have HE := Lib.hid (show ∀ W : World, Calls Tryz.prog 144 #[.agg #[.int .i64 4, .string ⟨([]).toArray⟩, .slice a1 ([] : List _).length c1, .slice a2 ([] : List _).length c2, .slice a3 ([] : List _).length c3]] W fun e w' => e = .returned (.bool true) ∧ Below W.heap.size W w' from HE.out)
          clear hc HF HR HV HL hn1
          go_enter Tryz.func78, Tryz.ntmps78
          go_wp2_with fail
          refine (HE.out _).mono ?_; rintro e w2 ⟨rfl, hB2⟩
          have hb2 := HB.out.below (hB2)
          have hc2 := hb2.cell
          have hl2 := hb2.lt
          have HB2 := Lib.hid (HB1.out.trans (hB2.mono (by have := HB1.out.size; first | exact this | (simp; done) | omega)))
          have Hb2 := Lib.hid hb2
          clear hB2 hb2
          go_wp2_with fail
          go_ret
          exact ⟨rfl, HB2.out⟩
        · have hE : emptyV ⟨4, [], list, [], []⟩ = false := by simp [emptyV, hown]
          have hpos : (0 : Int) < (list.length : Int) := by have := List.length_pos_iff.2 hown; omega
          have HE := Lib.hid (show ∀ W : World, Calls Tryz.prog 144 #[.agg #[.int .i64 4, .string ⟨([]).toArray⟩, .slice a1 list.length c1, .slice a2 ([] : List _).length c2, .slice a3 ([] : List _).length c3]] W fun e w' => e = .returned (.bool false) ∧ Below W.heap.size W w' from by have := HE.out; rw [hE] at this; exact this)
          by_cases hvl : riseB list = false
          · have hc : chkV ⟨4, [], list, [], []⟩ = 131 := by simp [chkV, spareV, emptyV, rightV, hvl]
            rw [hc]
            have HV := Lib.hid (show ∀ W : World, Below w.heap.size w W → Calls Tryz.prog 145 #[.slice a1 list.length c1] W fun e w' => e = .returned (.bool false) ∧ Below W.heap.size W w' from by have := HV.out; rw [hvl] at this; exact this)
            clear hc hvl hE HF HR HL
            go_enter Tryz.func78, Tryz.ntmps78
            go_wp2_with fail
            refine (HE.out _).mono ?_; rintro e w2 ⟨rfl, hB2⟩
            have hb2 := HB.out.below (hB2)
            have hc2 := hb2.cell
            have hl2 := hb2.lt
            have HB2 := Lib.hid (HB1.out.trans (hB2.mono (by have := HB1.out.size; first | exact this | (simp; done) | omega)))
            have Hb2 := Lib.hid hb2
            clear hB2 hb2
            go_wp2_with fail
            refine (HV.out _ HB2.out).mono ?_; rintro e w3 ⟨rfl, hB3⟩
            have hb3 := Hb2.out.below hB3
            have hc3 := hb3.cell
            have hl3 := hb3.lt
            have HB3 := Lib.hid (HB2.out.trans (hB3.mono (by have := HB2.out.size; first | exact this | (simp; done) | omega)))
            have Hb3 := Lib.hid hb3
            clear hB3 hb3 hc2 hl2
            go_wp2_with fail
            go_ret
            exact ⟨rfl, HB3.out⟩
          · have hvl : riseB list = true := by simpa using hvl
            have hbad : list.all shortB = false → chkV ⟨4, [], list, [], []⟩ = 131 := fun h => by simp [chkV, spareV, emptyV, rightV, h]
            have hgood : list.all shortB = true → chkV ⟨4, [], list, [], []⟩ = 0 := fun h => by simp only [chkV, spareV, emptyV, rightV, h, hvl]; simp [hown]
            have HV := Lib.hid (show ∀ W : World, Below w.heap.size w W → Calls Tryz.prog 145 #[.slice a1 list.length c1] W fun e w' => e = .returned (.bool true) ∧ Below W.heap.size W w' from by have := HV.out; rw [hvl] at this; exact this)
            clear hvl
            have HF := Lib.hid (show ∀ W : World, Below w.heap.size w W → Calls Tryz.prog 146 #[.slice a2 0 c2] W fun e w' => e = .returned (.bool true) ∧ Below W.heap.size W w' from HF.out)
            have HR := Lib.hid (show ∀ W : World, Below w.heap.size w W → Calls Tryz.prog 147 #[.slice a3 0 c3] W fun e w' => e = .returned (.bool true) ∧ Below W.heap.size W w' from fun W hW => by have h := HR.out W hW; rw [show rankB [] = true by decide] at h; exact h)
            have HGOOD := Lib.hid hgood
            have HBAD := Lib.hid hbad
            clear hE hgood hbad
            go_enter Tryz.func78, Tryz.ntmps78
            go_wp2_with fail
            refine (HE.out _).mono ?_; rintro e w2 ⟨rfl, hB2⟩
            have hb2 := HB.out.below (hB2)
            have hc2 := hb2.cell
            have hl2 := hb2.lt
            have HB2 := Lib.hid (HB1.out.trans (hB2.mono (by have := HB1.out.size; first | exact this | (simp; done) | omega)))
            have Hb2 := Lib.hid hb2
            clear hB2 hb2
            go_wp2_with fail
            refine (HV.out _ HB2.out).mono ?_; rintro e w3 ⟨rfl, hB3⟩
            have hb3 := Hb2.out.below hB3
            have hc3 := hb3.cell
            have hl3 := hb3.lt
            have HB3 := Lib.hid (HB2.out.trans (hB3.mono (by have := HB2.out.size; first | exact this | (simp; done) | omega)))
            have Hb3 := Lib.hid hb3
            clear hB3 hb3 hc2 hl2
            go_wp2_with fail
            refine (HF.out _ HB3.out).mono ?_; rintro e w4 ⟨rfl, hB4⟩
            have hb4 := Hb3.out.below hB4
            have hc4 := hb4.cell
            have hl4 := hb4.lt
            have HB4 := Lib.hid (HB3.out.trans (hB4.mono (by have := HB3.out.size; first | exact this | (simp; done) | omega)))
            have Hb4 := Lib.hid hb4
            clear hB4 hb4 hc3 hl3
            go_wp2_with fail
            refine (HR.out _ HB4.out).mono ?_; rintro e w5 ⟨rfl, hB5⟩
            have hb5 := Hb4.out.below hB5
            have hc5 := hb5.cell
            have hl5 := hb5.lt
            have HB5 := Lib.hid (HB4.out.trans (hB5.mono (by have := HB4.out.size; first | exact this | (simp; done) | omega)))
            have Hb5 := Lib.hid hb5
            clear hB5 hb5 hc4 hl4
            go_wp2_with fail
            go_loopw [3] (fun i wr => ∃ k q : Nat, k ≤ (list : List Tx).length ∧ i = .int .i64 (k : Int) ∧ wr = w5.drewN q ∧ ((list : List Tx).take k).all shortB = true) (fun i _ => (list : List Tx).length + 1 - (intOf i).toNat)
            case atStart => exact ⟨0, 0, Nat.zero_le _, rfl, rfl, rfl⟩
            case round =>
              obtain ⟨k, q, hk, rfl, rfl, hall⟩ := hrel
              by_cases hkl : k < list.length
              · obtain ⟨x, hx⟩ : ∃ x, list[k]? = some x := ⟨_, List.getElem?_eq_getElem hkl⟩
                obtain ⟨b, off, rfl, _, _, hg⟩ := vw_get (HL.out w5 HB5.out) (by omega)
                have hcx : w5.cell? ⟨b, off + k, none⟩ = some (.string ⟨x.toArray⟩) := hg k x hx
                have hk0 : (0 : Int) ≤ k := by omega
                have hk1 : (k : Int) < list.length := by omega
                have hk2 : IntKind.i64.wrap ((k : Int) + 1) = (k : Int) + 1 := by rw [IntKind.wrap_i64]; omega
                have HA := Lib.hid hall
                have HX := Lib.hid hx
                clear hg hx hall HL
                rcases hxy : shortB x with _ | _
                · have D := Lib.hid (show chkV ⟨4, [], list, [], []⟩ = 131 from HBAD.out (all_false_of HX.out hxy))
                  have q1 : (1048576 : Int) < x.length := by unfold shortB at hxy; simp at hxy; omega
                  clear HA HX hxy
                  go_wp2_with fail
                  go_ret
                  exact ⟨by rw [D.out]; rfl, below_drewN HB5.out _⟩
                · have D := Lib.hid (show (list.take (k + 1)).all shortB = true from by rw [all_take_succ HX.out, HA.out, hxy]; rfl)
                  have q1 : ¬ (1048576 : Int) < x.length := by unfold shortB at hxy; simp at hxy; omega
                  clear HA HX hxy
                  go_wp2_with fail
                  go_roundw
                  case rel => exact ⟨k + 1, q, by omega, by go_num, rfl, D.out⟩
                  case measure => simp [intOf]; omega
              · have hke : k = list.length := by omega
                have hk1 : ¬ (k : Int) < list.length := by omega
                have D := Lib.hid (show chkV ⟨4, [], list, [], []⟩ = 0 from HGOOD.out (by rw [hke, List.take_length] at hall; exact hall))
                clear hall hkl HL hke
                go_wp2_with fail
                go_ret
                exact ⟨by rw [D.out]; rfl, below_drewN HB5.out _⟩
      · have hpranked : (0 : Int) < (ranked.length : Int) := by have := List.length_pos_iff.2 hranked; omega
        have hc : chkV ⟨4, [], list, [], ranked⟩ = 131 := by simp [chkV, spareV, hranked]
        rw [hc]
        clear hc HE HF HR HV HL HB hn1
        go_enter Tryz.func78, Tryz.ntmps78
        go_wp2_with fail
        all_goals (
          go_ret
          exact ⟨rfl, HB1.out⟩)
    · have hpfields : (0 : Int) < (fields.length : Int) := by have := List.length_pos_iff.2 hfields; omega
      have hc : chkV ⟨4, [], list, fields, ranked⟩ = 131 := by simp [chkV, spareV, hfields]
      rw [hc]
      clear hc HE HF HR HV HL HB hn1
      go_enter Tryz.func78, Tryz.ntmps78
      go_wp2_with fail
      all_goals (
        go_ret
        exact ⟨rfl, HB1.out⟩)
  · have hptext : (text == []) = false ∧ (text != []) = true := ⟨by simpa using htext, by simpa using htext⟩
    obtain ⟨hp1, hp2⟩ := hptext
    have hc : chkV ⟨4, text, list, fields, ranked⟩ = 131 := by simp [chkV, spareV, htext]
    rw [hc]
    clear hc HE HF HR HV HL HB hn1
    go_enter Tryz.func78, Tryz.ntmps78
    go_wp2_with fail
    all_goals (
      go_ret
      exact ⟨rfl, HB1.out⟩)
set_option maxRecDepth 10000 in
set_option maxHeartbeats 4000000 in
theorem xcheck_k5 {A : Nat → Prop} {w : World} {V : VV} {l f r : Value} (h : Val3 A w V l f r) (hs : VSmall V) (hk : V.kind = 5) : Calls Tryz.prog 78 #[valV V l f r] w (VCh w (chkV V)) := by
  obtain ⟨a1, c1, e1, _⟩ := h.list.slice
  obtain ⟨a2, c2, e2, _⟩ := h.fields.slice
  obtain ⟨a3, c3, e3, _⟩ := h.ranked.slice
  have HE := Lib.hid (fun W => xempty_any W l f r V (by omega) ⟨_, _, e1⟩ ⟨_, _, e2⟩ ⟨_, _, e3⟩)
  have HV := Lib.hid (fun W (hB : Below w.heap.size w W) => xvalid_any (h.list.below hB) hs.list)
  have HF := Lib.hid (fun W (hB : Below w.heap.size w W) => xfields_any (h.fields.below hB) hs.fields)
  have HR := Lib.hid (fun W (hB : Below w.heap.size w W) => xranked_any (h.ranked.below hB) hs.ranked)
  have HL := Lib.hid (fun W (hB : Below w.heap.size w W) => h.list.below hB)
  have hn1 := hs.list
  obtain ⟨kind, text, list, fields, ranked⟩ := V
  dsimp only at hk e1 e2 e3 HE HF HR HV HL hn1
  subst hk e1 e2 e3
  clear h hs
  have hb : Blk none0 (w.alloc (.cells #[.int .i64 5, .string ⟨text.toArray⟩, .slice a1 list.length c1, .slice a2 fields.length c2, .slice a3 ranked.length c3] 43)) [] w.heap.size #[.int .i64 5, .string ⟨text.toArray⟩, .slice a1 list.length c1, .slice a2 fields.length c2, .slice a3 ranked.length c3] 43 := ⟨heap_alloc_new w _, rfl⟩
  have HB := Lib.hid hb
  have HB1 := Lib.hid ((Below.refl w.heap.size w).alloc (Nat.le_refl _) (.cells #[.int .i64 5, .string ⟨text.toArray⟩, .slice a1 list.length c1, .slice a2 fields.length c2, .slice a3 ranked.length c3] 43))
  clear hb
  by_cases htl : (1048576 : Int) < (text.length : Int)
  · have htx : shortB text = false := by unfold shortB; simp; omega
    have hp0 : text ≠ [] := by rintro rfl; simp at htl
    have hp1 : (text == []) = false ∧ (text != []) = true := ⟨by simpa using hp0, by simpa using hp0⟩
    obtain ⟨hp1, hp2⟩ := hp1
    have hc : chkV ⟨5, text, list, fields, ranked⟩ = 131 := by simp [chkV, spareV, hp0]
    rw [hc]
    clear hc htx HE HF HR HV HL HB hn1
    go_enter Tryz.func78, Tryz.ntmps78
    go_wp2_with fail
    go_ret
    exact ⟨rfl, HB1.out⟩
  by_cases htext : text = []
  · subst htext
    clear htl
    by_cases hlist : list = []
    · subst hlist
      by_cases hfields : fields = []
      · subst hfields
        by_cases hown : ranked = []
        · subst hown
          have hc : chkV ⟨5, [], [], [], []⟩ = 131 := by simp [chkV, spareV, emptyV]
          rw [hc]
          have HE := Lib.hid (show ∀ W : World, Calls Tryz.prog 144 #[.agg #[.int .i64 5, .string ⟨([]).toArray⟩, .slice a1 ([] : List _).length c1, .slice a2 ([] : List _).length c2, .slice a3 ([] : List _).length c3]] W fun e w' => e = .returned (.bool true) ∧ Below W.heap.size W w' from HE.out)
          clear hc HF HR HV HL hn1
          go_enter Tryz.func78, Tryz.ntmps78
          go_wp2_with fail
          refine (HE.out _).mono ?_; rintro e w2 ⟨rfl, hB2⟩
          have hb2 := HB.out.below (hB2)
          have hc2 := hb2.cell
          have hl2 := hb2.lt
          have HB2 := Lib.hid (HB1.out.trans (hB2.mono (by have := HB1.out.size; first | exact this | (simp; done) | omega)))
          have Hb2 := Lib.hid hb2
          clear hB2 hb2
          go_wp2_with fail
          go_ret
          exact ⟨rfl, HB2.out⟩
        · have hE : emptyV ⟨5, [], [], [], ranked⟩ = false := by simp [emptyV, hown]
          have hpos : (0 : Int) < (ranked.length : Int) := by have := List.length_pos_iff.2 hown; omega
          have HE := Lib.hid (show ∀ W : World, Calls Tryz.prog 144 #[.agg #[.int .i64 5, .string ⟨([]).toArray⟩, .slice a1 ([] : List _).length c1, .slice a2 ([] : List _).length c2, .slice a3 ranked.length c3]] W fun e w' => e = .returned (.bool false) ∧ Below W.heap.size W w' from by have := HE.out; rw [hE] at this; exact this)
          by_cases hvl : rankB ranked = false
          · have hc : chkV ⟨5, [], [], [], ranked⟩ = 131 := by simp [chkV, spareV, emptyV, rightV, hvl]
            rw [hc]
            have HR := Lib.hid (show ∀ W : World, Below w.heap.size w W → Calls Tryz.prog 147 #[.slice a3 ranked.length c3] W fun e w' => e = .returned (.bool false) ∧ Below W.heap.size W w' from by have := HR.out; rw [hvl] at this; exact this)
            have HF := Lib.hid (show ∀ W : World, Below w.heap.size w W → Calls Tryz.prog 146 #[.slice a2 0 c2] W fun e w' => e = .returned (.bool true) ∧ Below W.heap.size W w' from HF.out)
            clear hc hvl hE HV HL hn1
            go_enter Tryz.func78, Tryz.ntmps78
            go_wp2_with fail
            refine (HE.out _).mono ?_; rintro e w2 ⟨rfl, hB2⟩
            have hb2 := HB.out.below (hB2)
            have hc2 := hb2.cell
            have hl2 := hb2.lt
            have HB2 := Lib.hid (HB1.out.trans (hB2.mono (by have := HB1.out.size; first | exact this | (simp; done) | omega)))
            have Hb2 := Lib.hid hb2
            clear hB2 hb2
            go_wp2_with fail
            refine (HF.out _ HB2.out).mono ?_; rintro e w3 ⟨rfl, hB3⟩
            have hb3 := Hb2.out.below hB3
            have hc3 := hb3.cell
            have hl3 := hb3.lt
            have HB3 := Lib.hid (HB2.out.trans (hB3.mono (by have := HB2.out.size; first | exact this | (simp; done) | omega)))
            have Hb3 := Lib.hid hb3
            clear hB3 hb3 hc2 hl2
            go_wp2_with fail
            refine (HR.out _ HB3.out).mono ?_; rintro e w4 ⟨rfl, hB4⟩
            have hb4 := Hb3.out.below hB4
            have hc4 := hb4.cell
            have hl4 := hb4.lt
            have HB4 := Lib.hid (HB3.out.trans (hB4.mono (by have := HB3.out.size; first | exact this | (simp; done) | omega)))
            have Hb4 := Lib.hid hb4
            clear hB4 hb4 hc3 hl3
            go_wp2_with fail
            go_ret
            exact ⟨rfl, HB4.out⟩
          · have hvl : rankB ranked = true := by simpa using hvl
            have hc : chkV ⟨5, [], [], [], ranked⟩ = 0 := by simp only [chkV, spareV, emptyV, rightV, hvl]; simp [hown]
            rw [hc]
            have HR := Lib.hid (show ∀ W : World, Below w.heap.size w W → Calls Tryz.prog 147 #[.slice a3 ranked.length c3] W fun e w' => e = .returned (.bool true) ∧ Below W.heap.size W w' from by have := HR.out; rw [hvl] at this; exact this)
            have HF := Lib.hid (show ∀ W : World, Below w.heap.size w W → Calls Tryz.prog 146 #[.slice a2 0 c2] W fun e w' => e = .returned (.bool true) ∧ Below W.heap.size W w' from HF.out)
            clear hc hvl hE HV HL hn1
            go_enter Tryz.func78, Tryz.ntmps78
            go_wp2_with fail
            refine (HE.out _).mono ?_; rintro e w2 ⟨rfl, hB2⟩
            have hb2 := HB.out.below (hB2)
            have hc2 := hb2.cell
            have hl2 := hb2.lt
            have HB2 := Lib.hid (HB1.out.trans (hB2.mono (by have := HB1.out.size; first | exact this | (simp; done) | omega)))
            have Hb2 := Lib.hid hb2
            clear hB2 hb2
            go_wp2_with fail
            refine (HF.out _ HB2.out).mono ?_; rintro e w3 ⟨rfl, hB3⟩
            have hb3 := Hb2.out.below hB3
            have hc3 := hb3.cell
            have hl3 := hb3.lt
            have HB3 := Lib.hid (HB2.out.trans (hB3.mono (by have := HB2.out.size; first | exact this | (simp; done) | omega)))
            have Hb3 := Lib.hid hb3
            clear hB3 hb3 hc2 hl2
            go_wp2_with fail
            refine (HR.out _ HB3.out).mono ?_; rintro e w4 ⟨rfl, hB4⟩
            have hb4 := Hb3.out.below hB4
            have hc4 := hb4.cell
            have hl4 := hb4.lt
            have HB4 := Lib.hid (HB3.out.trans (hB4.mono (by have := HB3.out.size; first | exact this | (simp; done) | omega)))
            have Hb4 := Lib.hid hb4
            clear hB4 hb4 hc3 hl3
            go_wp2_with fail
            go_loopw [3] (fun i wr => ∃ k q : Nat, k ≤ ([] : List Tx).length ∧ i = .int .i64 (k : Int) ∧ wr = w4.drewN q ∧ (([] : List Tx).take k).all shortB = true) (fun i _ => ([] : List Tx).length + 1 - (intOf i).toNat)
            case atStart => exact ⟨0, 0, Nat.zero_le _, rfl, rfl, rfl⟩
            case round =>
              obtain ⟨k, q, hk, rfl, rfl, hall⟩ := hrel
              obtain rfl : k = 0 := by simpa using hk
              clear hall hk
              go_wp2_with fail
              go_ret
              exact ⟨rfl, below_drewN HB4.out _⟩
      · have hpfields : (0 : Int) < (fields.length : Int) := by have := List.length_pos_iff.2 hfields; omega
        have hc : chkV ⟨5, [], [], fields, ranked⟩ = 131 := by simp [chkV, spareV, hfields]
        rw [hc]
        clear hc HE HF HR HV HL HB hn1
        go_enter Tryz.func78, Tryz.ntmps78
        go_wp2_with fail
        all_goals (
          go_ret
          exact ⟨rfl, HB1.out⟩)
    · have hplist : (0 : Int) < (list.length : Int) := by have := List.length_pos_iff.2 hlist; omega
      have hc : chkV ⟨5, [], list, fields, ranked⟩ = 131 := by simp [chkV, spareV, hlist]
      rw [hc]
      clear hc HE HF HR HV HL HB hn1
      go_enter Tryz.func78, Tryz.ntmps78
      go_wp2_with fail
      all_goals (
        go_ret
        exact ⟨rfl, HB1.out⟩)
  · have hptext : (text == []) = false ∧ (text != []) = true := ⟨by simpa using htext, by simpa using htext⟩
    obtain ⟨hp1, hp2⟩ := hptext
    have hc : chkV ⟨5, text, list, fields, ranked⟩ = 131 := by simp [chkV, spareV, htext]
    rw [hc]
    clear hc HE HF HR HV HL HB hn1
    go_enter Tryz.func78, Tryz.ntmps78
    go_wp2_with fail
    all_goals (
      go_ret
      exact ⟨rfl, HB1.out⟩)
theorem xcheck_any {A : Nat → Prop} {w : World} {V : VV} {l f r : Value} (h : Val3 A w V l f r) (hs : VSmall V) : Calls Tryz.prog 78 #[valV V l f r] w (VCh w (chkV V)) := by
  by_cases h1 : V.kind = 1
  · exact xcheck_k1 h hs h1
  by_cases h2 : V.kind = 2
  · exact xcheck_k2 h hs h2
  by_cases h3 : V.kind = 3
  · exact xcheck_k3 h hs h3
  by_cases h4 : V.kind = 4
  · exact xcheck_k4 h hs h4
  by_cases h5 : V.kind = 5
  · exact xcheck_k5 h hs h5
  obtain ⟨a1, c1, e1, _⟩ := h.list.slice
  obtain ⟨a2, c2, e2, _⟩ := h.fields.slice
  obtain ⟨a3, c3, e3, _⟩ := h.ranked.slice
  have hk : V.kind < 1 ∨ 5 < V.kind := by omega
  have hc : chkV V = 130 := by unfold chkV; rw [if_pos hk]
  rw [hc]
  obtain ⟨kind, text, list, fields, ranked⟩ := V
  dsimp only at e1 e2 e3 hk
  subst e1 e2 e3
  clear h hs h1 h2 h3 h4 h5 hc
  rcases hk with hk | hk
  · go_enter Tryz.func78, Tryz.ntmps78
    go_wp2_with fail
    go_ret
    exact ⟨rfl, (Below.refl _ _).alloc (Nat.le_refl _) _⟩
  · have hk2 : ¬ kind < 1 := by omega
    go_enter Tryz.func78, Tryz.ntmps78
    go_wp2_with fail
    go_ret
    exact ⟨rfl, (Below.refl _ _).alloc (Nat.le_refl _) _⟩
/-- The error of a value and a deadline. -/
def fitV (V : VV) (d : Int) : Int := if chkV V ≠ 0 then chkV V else if d < 0 ∨ 9007199254740992 < d then 70 else 0
set_option maxRecDepth 10000 in
theorem xfit_any {A : Nat → Prop} {w : World} {V : VV} {l f r : Value} (h : Val3 A w V l f r) (hs : VSmall V) (d : Int) : Calls Tryz.prog 34 #[valV V l f r, .int .i64 d] w (VCh w (fitV V d)) := by
  obtain ⟨a1, c1, e1, _⟩ := h.list.slice
  obtain ⟨a2, c2, e2, _⟩ := h.fields.slice
  obtain ⟨a3, c3, e3, _⟩ := h.ranked.slice
  have HC := Lib.hid (fun W (hB : Below w.heap.size w W) => xcheck_any (h.below hB) hs)
  have hb : Blk none0 (w.alloc (.cells #[.int .i64 V.kind, .string ⟨V.text.toArray⟩, l, f, r] 43)) [] w.heap.size #[.int .i64 V.kind, .string ⟨V.text.toArray⟩, l, f, r] 43 := ⟨heap_alloc_new w _, rfl⟩
  have HB1 := Lib.hid ((Below.refl w.heap.size w).alloc (Nat.le_refl _) (.cells #[.int .i64 V.kind, .string ⟨V.text.toArray⟩, l, f, r] 43))
  obtain ⟨n, hn⟩ : ∃ n, n = chkV V := ⟨_, rfl⟩
  unfold fitV
  rw [← hn] at HC ⊢
  obtain ⟨kind, text, list, fields, ranked⟩ := V
  dsimp only at e1 e2 e3 HC HB1
  subst e1 e2 e3
  clear h hs hb hn
  by_cases hn : n = 0
  · subst hn
    rw [if_neg (by simp)]
    by_cases h1 : d < 0
    · rw [if_pos (.inl h1)]
      go_enter Tryz.func34, Tryz.ntmps34
      go_wp2_with fail
      refine (HC.out _ HB1.out).mono ?_; rintro e w2 ⟨rfl, hB2⟩
      have HB2 := Lib.hid (HB1.out.trans (hB2.mono HB1.out.size))
      clear hB2 HC
      go_wp2_with fail
      go_ret
      exact ⟨rfl, HB2.out⟩
    · by_cases h2 : 9007199254740992 < d
      · rw [if_pos (.inr h2)]
        go_enter Tryz.func34, Tryz.ntmps34
        go_wp2_with fail
        refine (HC.out _ HB1.out).mono ?_; rintro e w2 ⟨rfl, hB2⟩
        have HB2 := Lib.hid (HB1.out.trans (hB2.mono HB1.out.size))
        clear hB2 HC
        go_wp2_with fail
        go_ret
        exact ⟨rfl, HB2.out⟩
      · rw [if_neg (by omega)]
        go_enter Tryz.func34, Tryz.ntmps34
        go_wp2_with fail
        refine (HC.out _ HB1.out).mono ?_; rintro e w2 ⟨rfl, hB2⟩
        have HB2 := Lib.hid (HB1.out.trans (hB2.mono HB1.out.size))
        clear hB2 HC
        go_wp2_with fail
        go_ret
        exact ⟨rfl, HB2.out⟩
  · rw [if_pos hn]
    have hn2 : (n == 0) = false := by simpa using hn
    have hn3 : (n != 0) = true := by simpa using hn
    clear hn
    go_enter Tryz.func34, Tryz.ntmps34
    go_wp2_with fail
    refine (HC.out _ HB1.out).mono ?_; rintro e w2 ⟨rfl, hB2⟩
    have HB2 := Lib.hid (HB1.out.trans (hB2.mono HB1.out.size))
    clear hB2 HC
    go_wp2_with fail
    go_ret
    exact ⟨rfl, HB2.out⟩
end Go.Proofs.YthojmgjgmbnopaaGreatDoor
