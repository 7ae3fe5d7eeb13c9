import Derived.Test.YtoganolkgmilaaaGreatDoorXS
import Derived.Test.YtoganolkgmilaaaGreatDoorXT
import Derived.Deep.DeepCutAuto
import Derived.Test.YtoganolkgmilaaaGreatDoorXU
namespace Go.Proofs.YtoganolkgmilaaaGreatDoor
open Go Go.RowKit
/-! SetcmdMoves. -/
set_option maxRecDepth 10000 in
set_option maxHeartbeats 20000000 in
theorem setLawMoves_few {w0 : World} {va : Value} {a : List Tx} (ha : Vw (Old w0) w0 va 1 a.length (a.map txt)) {vb : Value} {b : List Tx} (hb : Vw (Old w0) w0 vb 1 b.length (b.map txt)) (m : Tx) (hab : a = [] ∨ b = []) :
    Calls Tryz.prog 4 #[va, vb, txt m] w0 fun e w' => e = .returned (.bool true) ∧ Below w0.heap.size w0 w' := by
  obtain ⟨aa, ca, rfl, _⟩ := id ha.slice
  obtain ⟨ab, cb, rfl, _⟩ := id hb.slice
  have HN := Lib.hid (jnew_ok none0 w0 [1])
  have hab' : ((a.length : Int) == 0) = true ∨ ((a.length : Int) == 0) = false ∧ ((b.length : Int) == 0) = true := by
    rcases hab with rfl | rfl
    · exact .inl rfl
    · cases a with
      | nil => exact .inl rfl
      | cons x t => exact .inr ⟨beq_eq_false_iff_ne.2 (by simp; omega), rfl⟩
  clear ha hb hab
  generalize a.length = na at *
  generalize b.length = nb at *
  go_enter Tryz.func4, Tryz.ntmps4
  go_wp2_with fail
  refine HN.out.mono ?_; rintro e w1 ⟨p, o1, rfl, hj, hs⟩
  have HB1 := Lib.hid hs.below0
  clear hj hs HN
  go_wp2_with fail
  refine awake_ok.mono ?_; rintro e w2 ⟨rfl, hB2⟩
  have HB2 := Lib.hid (HB1.out.trans (hB2.mono HB1.out.size))
  clear hB2
  rcases hab' with h0 | h0
  · go_wp2_with fail
    refine awake_ok.mono ?_; rintro e w3 ⟨rfl, hB3⟩
    have HB3 := Lib.hid (HB2.out.trans (hB3.mono HB2.out.size))
    clear hB3
    go_wp2_with fail
    go_ret
    exact ⟨rfl, HB3.out⟩
  · obtain ⟨h0, h1⟩ := h0
    go_wp2_with fail
    refine awake_ok.mono ?_; rintro e w3 ⟨rfl, hB3⟩
    have HB3 := Lib.hid (HB2.out.trans (hB3.mono HB2.out.size))
    clear hB3
    go_wp2_with fail
    go_ret
    exact ⟨rfl, HB3.out⟩

theorem mv_union {a b : List Tx} (m : Tx) : joinL 1 (mvF (upd (upd (fun _ => []) aB (ofL a)) bB (ofL b)) aB bB m aB) [mvF (upd (upd (fun _ => []) aB (ofL a)) bB (ofL b)) aB bB m bB] = ofL [a, b].flatten := by
  have hab : aB ≠ bB := by decide
  have ha : upd (upd (fun _ => []) aB (ofL a)) bB (ofL b) aB = ofL a := by rw [upd_far hab, upd_same]
  have hb : upd (upd (fun _ => []) aB (ofL a)) bB (ofL b) bB = ofL b := upd_same _ _ _
  unfold joinL mvF
  rw [if_neg (by decide), if_pos rfl]
  refine ofL_congr fun x => ?_
  simp only [List.flatten_cons, List.flatten_nil, List.append_nil, List.mem_append]
  rw [ha, hb]
  split
  · rename_i hm
    rw [upd_far hab, upd_same, upd_same, lessL_mem, ofL_mem, ofL_mem, List.mem_append, ofL_mem, List.mem_singleton]
    rw [ofL_mem] at hm
    constructor
    · rintro (h | h | rfl)
      · exact .inl h.1
      · exact .inr h
      · exact .inl hm
    · rintro (h | h)
      · by_cases hx : x = m
        · exact .inr (.inr hx)
        · exact .inl ⟨h, hx⟩
      · exact .inr (.inl h)
  · rw [ha, hb, ofL_mem, ofL_mem]
theorem mv_a {a b : List Tx} (m : Tx) : m ∉ mvF (upd (upd (fun _ => []) aB (ofL a)) bB (ofL b)) aB bB m aB := by
  have hab : aB ≠ bB := by decide
  have ha : upd (upd (fun _ => []) aB (ofL a)) bB (ofL b) aB = ofL a := by rw [upd_far hab, upd_same]
  unfold mvF
  rw [ha]
  split
  · rw [upd_far hab, upd_same, lessL_mem]; simp
  · rename_i h; rw [ha]; exact h
theorem mv_b {a b : List Tx} {m : Tx} (hm : m ∈ a) : m ∈ mvF (upd (upd (fun _ => []) aB (ofL a)) bB (ofL b)) aB bB m bB := by
  have hab : aB ≠ bB := by decide
  have ha : upd (upd (fun _ => []) aB (ofL a)) bB (ofL b) aB = ofL a := by rw [upd_far hab, upd_same]
  unfold mvF
  rw [ha, if_pos ((ofL_mem _ _).2 hm), upd_same, ofL_mem, upd_same]; simp
theorem mv_len {a b : List Tx} (m : Tx) (k : Tx) : (mvF (upd (upd (fun _ => []) aB (ofL a)) bB (ofL b)) aB bB m k).length ≤ a.length + b.length + 1 := by
  have hab : aB ≠ bB := by decide
  have ha : upd (upd (fun _ => []) aB (ofL a)) bB (ofL b) aB = ofL a := by rw [upd_far hab, upd_same]
  have hb : upd (upd (fun _ => []) aB (ofL a)) bB (ofL b) bB = ofL b := upd_same _ _ _
  have h1 := ofL_len a
  have h2 := ofL_len b
  have h3 : ∀ k, (upd (upd (fun _ => []) aB (ofL a)) bB (ofL b) k).length ≤ a.length + b.length := fun k => by
    unfold upd
    split
    · omega
    · split
      · omega
      · simp
  unfold mvF
  rw [ha, hb]
  split
  · by_cases hkb : k = bB
    · subst hkb
      rw [upd_same]
      have := ofL_len (ofL b ++ [m])
      simp at this
      omega
    · rw [upd_far hkb]
      by_cases hka : k = aB
      · subst hka
        rw [upd_same]
        have h4 := ofL_len ((ofL a).filter fun x => decide (x ∉ [m]))
        have h5 := List.length_filter_le (fun x => decide (x ∉ [m])) (ofL a)
        show (ofL _).length ≤ _
        omega
      · rw [upd_far hka]; have := h3 k; omega
  · have := h3 k; omega
/-- A written list of two slices. -/
theorem lit_vwS {w : World} {x y : Value} {a b : List Tx} {ca cb : Nat} {aa ab : Option Addr} (hx : x = .slice aa a.length ca) (hy : y = .slice ab b.length cb) (ha : Vw (Old w) w x 1 a.length (a.map txt)) (hb : Vw (Old w) w y 1 b.length (b.map txt)) :
    ∃ A, VwS A (w.alloc (.cells #[x, y] 22)) (.slice (some ⟨w.heap.size, 0, none⟩) 2 2) [a, b] := by
  subst hx hy
  have hB := lit_below w (.cells #[.slice aa a.length ca, .slice ab b.length cb] 22)
  refine ⟨fun b => b = w.heap.size, ⟨[.slice aa a.length ca, .slice ab b.length cb], ⟨⟨_, 2, rfl, Nat.le_refl _, by unfold maxLen; omega, .inr ⟨w.heap.size, 0, rfl, by simp, rfl, fun k u hk => ?_⟩⟩, rfl⟩, fun j l hj => ?_⟩⟩
  · unfold World.cell?
    rw [show (w.alloc (.cells #[.slice aa a.length ca, .slice ab b.length cb] 22)).heap[w.heap.size]? = some (.cells #[.slice aa a.length ca, .slice ab b.length cb] 22 (0, 0)) from heap_alloc_new w _]
    simpa using hk
  · rcases j with _ | _ | j
    · simp at hj; subst hj
      exact ⟨aa, ca, rfl, (ha.below hB).imp fun _ h => Nat.lt_of_lt_of_le h hB.size⟩
    · simp at hj; subst hj
      exact ⟨ab, cb, rfl, (hb.below hB).imp fun _ h => Nat.lt_of_lt_of_le h hB.size⟩
    · simp at hj
set_option maxRecDepth 10000 in
set_option maxHeartbeats 20000000 in
theorem moves_law {w0 : World} {va vb : Value} {a b : List Tx} (ha : Vw (Old w0) w0 va 1 a.length (a.map txt)) (hb : Vw (Old w0) w0 vb 1 b.length (b.map txt)) (m : Tx)
    (hsa : ∀ x ∈ a, x.length ≤ 1048576) (hsb : ∀ x ∈ b, x.length ≤ 1048576) (hla : a.length ≤ 1048576) (hlb : b.length ≤ 1048576) :
    Calls Tryz.prog 4 #[va, vb, txt m] w0 fun e w' => e = .returned (.bool true) ∧ Below w0.heap.size w0 w' := by
  by_cases h0a : a = []
  · exact setLawMoves_few ha hb m (.inl h0a)
  by_cases h0b : b = []
  · exact setLawMoves_few ha hb m (.inr h0b)
  obtain ⟨aa, ca, rfl, _⟩ := id ha.slice
  obtain ⟨ab, cb, rfl, _⟩ := id hb.slice
  have hl1a : 0 < a.length := List.length_pos_iff.2 h0a
  have e0a : ((a.length : Int) == 0) = false := beq_eq_false_iff_ne.2 (by omega)
  have hl1b : 0 < b.length := List.length_pos_iff.2 h0b
  have e0b : ((b.length : Int) == 0) = false := beq_eq_false_iff_ne.2 (by omega)
  have HN := Lib.hid (jnew_ok none0 w0 [1])
  have HVa := Lib.hid ha
  have HSa := Lib.hid hsa
  have H0a := Lib.hid h0a
  have HVb := Lib.hid hb
  have HSb := Lib.hid hsb
  have H0b := Lib.hid h0b
  obtain ⟨i0, hi0, hz0, hz1, hz2⟩ := info_parts infoS
  have hoa := ofL_len a
  have hob := ofL_len b
  have HSOA := Lib.hid (show ∀ x ∈ nextL true ((fun _ => []) aB) a, x.length ≤ 1048576 from fun x hx => hsa x ((ofL_mem x a).1 hx))
  have HSOB := Lib.hid (show ∀ x ∈ nextL true (upd (fun _ => []) aB (nextL true [] a) bB) b, x.length ≤ 1048576 from fun x hx => hsb x ((ofL_mem x b).1 hx))
  obtain ⟨U, hU⟩ : ∃ U, U = ofL [a, b].flatten := ⟨_, rfl⟩
  have HUL := Lib.hid (show U.length ≤ a.length + b.length from by rw [hU]; have := ofL_len [a, b].flatten; simpa using this)
  have HMU := Lib.hid ((mv_union (a := a) (b := b) m).trans hU.symm)
  have HUU := Lib.hid hU
  clear hU
  have HMA := Lib.hid (mv_a (a := a) (b := b) m)
  have HML := Lib.hid (mv_len (a := a) (b := b) m)
  have HF := Lib.hid (show upd (upd (fun _ => []) aB (nextL true [] a)) bB (nextL true (upd (fun _ => []) aB (nextL true [] a) bB) b) = upd (upd (fun _ => []) aB (ofL a)) bB (ofL b) from rfl)
  clear ha hsa h0a hb hsb h0b 
  try unfold txt
  go_enter Tryz.func4, Tryz.ntmps4
  go_wp2_with fail
  refine HN.out.mono ?_; rintro e w1 ⟨p, o1, rfl, hj, hs⟩
  have h1 : At w0 o1 w1 p (fun _ => none) ⟨0, 0⟩ 0 := ⟨hj, hs, Nat.le_refl _, Nat.le_refl _⟩
  have H1 := Lib.hid h1
  clear hj hs h1 HN
  go_wp2_with fail
  refine awake_ok.mono ?_; rintro e w2 ⟨rfl, hB2⟩
  have H2 := Lib.hid (H1.out.below hB2)
  clear hB2 H1
  go_wp2_with fail
  refine (lawshort_ok (H2.out.vw HVa.out) HSa.out (by omega)).mono ?_
  rintro e w3 ⟨rfl, rfl⟩
  go_wp2_with fail
  refine (lawshort_ok (H2.out.vw HVb.out) HSb.out (by omega)).mono ?_
  rintro e w3 ⟨rfl, rfl⟩
  have HROWp := Lib.hid (Row.lit o1 w3 [9] 9 [txt saddB, txt aB] (by decide))
  have HSRCp := Lib.hid (((H2.out.vw HVa.out).below (lit_below w3 (.cells [txt saddB, txt aB].toArray 9))).src (P := Tryz.prog) Tryz.underlying22 (one_list a))
  go_wp2_with (
    at_builtin
    refine wpList_app _ rfl _ _ 22 22 rfl 9 i0 _ 1 16 Tryz.underlying22 hi0 hz0 hz1 hz2 rfl rfl HROWp.out rfl HSRCp.out (by unfold maxLen; simp; omega) (by simp; omega) ?_
    intro v' wp4 op4 hrow hst
    obtain ⟨ap4, cp4, rfl, _⟩ := id hrow.slice
    have Hp4 := Lib.hid (H2.out.app _ hst)
    have HVp4 := Lib.hid hrow.vw.old
    clear hrow hst HROWp HSRCp)
  have hvp4 := HVp4.out
  have ep2 : [txt saddB, txt aB].length + a.length = (aB :: a).length + 1 := by simp; omega
  rw [ep2] at hvp4
  rw [show 2 + a.length = (aB :: a).length + 1 from by simp; omega]

  refine (run_change Hp4.out (by decide) Sets.empty true (k := aB) (more := a) (nm := saddB) H0a.out hvp4 (by decide) (by decide) HSOA.out (by simp) (by omega)).mono ?_
  rintro e wp5 hr
  obtain ⟨ap5, nlp5, lp5, rfl, op5, Sp5, kp5, hp5, hKp5, _⟩ := hr.num
  clear hr
  have Hp5 := Lib.hid hp5
  have HKp5 := Lib.hid hKp5
  clear hvp4 hp5 hKp5 Hp4 HVp4 ep2 H2

  have HROWq := Lib.hid (Row.lit op5 wp5 [9] 9 [txt saddB, txt bB] (by decide))
  have HSRCq := Lib.hid (((Hp5.out.vw HVb.out).below (lit_below wp5 (.cells [txt saddB, txt bB].toArray 9))).src (P := Tryz.prog) Tryz.underlying22 (one_list b))
  go_wp2_with (
    at_builtin
    refine wpList_app _ rfl _ _ 22 22 rfl 9 i0 _ 1 16 Tryz.underlying22 hi0 hz0 hz1 hz2 rfl rfl HROWq.out rfl HSRCq.out (by unfold maxLen; simp; omega) (by simp; omega) ?_
    intro v' wq4 oq4 hrow hst
    obtain ⟨aq4, cq4, rfl, _⟩ := id hrow.slice
    have Hq4 := Lib.hid (Hp5.out.app _ hst)
    have HVq4 := Lib.hid hrow.vw.old
    clear hrow hst HROWq HSRCq)
  have hvq4 := HVq4.out
  have eq2 : [txt saddB, txt bB].length + b.length = (bB :: b).length + 1 := by simp; omega
  rw [eq2] at hvq4
  rw [show 2 + b.length = (bB :: b).length + 1 from by simp; omega]

  refine (run_change Hq4.out (by decide) HKp5.out true (k := bB) (more := b) (nm := saddB) H0b.out hvq4 (by decide) (by decide) HSOB.out (by show ([] : List Tx).length ≤ _; simp) (by omega)).mono ?_
  rintro e wq5 hr
  obtain ⟨aq5, nlq5, lq5, rfl, oq5, Sq5, kq5, hq5, hKq5, _⟩ := hr.num
  clear hr
  have Hq5 := Lib.hid hq5
  have HKq5 := Lib.hid hKq5
  clear hvq4 hq5 hKq5 Hq4 HVq4 eq2 Hp5

  have HKK := Lib.hid (show Sets (upd (upd (fun _ => []) aB (ofL a)) bB (ofL b)) Sq5 from HKq5.out)
  have HRH := Lib.hid (fun (W : World) (v : Value) (h : Vw (Old W) W v 1 a.length (a.map txt)) => rhas_ok h (by omega) m)
  clear HF HKq5 HKp5
  unfold HasDid txt at HRH
  have HS1 := Lib.hid (show ∀ y ∈ upd (upd (fun _ => []) aB (ofL a)) bB (ofL b) aB, y.length ≤ 1048576 from fun y hy => HSa.out y ((ofL_mem y a).1 hy))
  have HS2 := Lib.hid (show ∀ y ∈ upd (upd (fun _ => []) aB (ofL a)) bB (ofL b) bB, y.length ≤ 1048576 from fun y hy => HSb.out y ((ofL_mem y b).1 hy))
  have HL1 := Lib.hid (show (upd (upd (fun _ => []) aB (ofL a)) bB (ofL b) aB).length ≤ 1099511627 from Nat.le_trans hoa (by omega))
  have HL2 := Lib.hid (show (upd (upd (fun _ => []) aB (ofL a)) bB (ofL b) bB).length ≤ 1099511627 from Nat.le_trans hob (by omega))
  by_cases hin : m ∈ a
  · have HMM := Lib.hid hin
    rw [decide_eq_true hin] at HRH
    have HIN := Lib.hid (show (if m ∈ upd (upd (fun _ => []) aB (ofL a)) bB (ofL b) aB then (1 : Int) else 0) = 1 from if_pos ((ofL_mem m a).2 hin))
    clear hin
    go_wp2_with fail
    refine (HRH.out wq5 _ (Hq5.out.vw HVa.out)).mono ?_; rintro e w6 ⟨rfl, rfl⟩
    go_wp2_with fail
    refine (run_move (Hq5.out.below (lit_below w6 (.cells [txt smoveB, txt aB, txt bB, txt m].toArray 9))) (by decide) HKK.out (k := aB) (d := bB) (x := m) (nm := smoveB) (by decide) (lit_vw w6 [smoveB, aB, bB, m] (by simp)) (by decide) (by decide) HS1.out HS2.out HL1.out HL2.out).mono ?_
    rw [HIN.out]
    rintro e w7 hr
    obtain ⟨a7, nl7, l7, rfl, o7, S7, k7, h7, hK7, _⟩ := hr.num
    clear hr
    have H7 := Lib.hid h7
    have HK7 := Lib.hid hK7
    clear h7 hK7 Hq5 HKK HRH
    go_wp2_with fail
    refine (lawnumber_ok _ _ _ _ _ _).mono ?_; rintro e w8 ⟨rfl, hB8⟩
    have H8 := Lib.hid (H7.out.below hB8)
    clear hB8 H7
    go_wp2_with fail
    refine (run_ismember (H8.out.below (lit_below w8 (.cells [txt sismemberB, txt aB, txt m].toArray 9))) HK7.out (k := aB) (x := m) (nm := sismemberB) (lit_vw w8 [sismemberB, aB, m] (by simp)) (by decide) (by decide) (Nat.le_trans (HML.out aB) (by omega))).mono ?_
    rw [decide_eq_false HMA.out, if_neg (by decide)]
    rintro e w9 hr
    obtain ⟨a9, nl9, l9, rfl, o9, S9, k9, h9, hK9, _⟩ := hr.num
    clear hr
    have H9 := Lib.hid h9
    have HK9 := Lib.hid hK9
    clear h9 hK9 H8 HK7
    go_wp2_with fail
    refine (lawnumber_ok _ _ _ _ _ _).mono ?_; rintro e w10 ⟨rfl, hB10⟩
    have H10 := Lib.hid (H9.out.below hB10)
    clear hB10 H9
    go_wp2_with fail
    refine (run_join2 (k := aB) (j := bB) (nm := sunionB) (low := sunionB) (way := 1) (H10.out.below (lit_below w10 (.cells [txt sunionB, txt aB, txt bB].toArray 9))) HK9.out (.inr (.inl ⟨rfl, rfl⟩)) (lit_vw w10 [sunionB, aB, bB] (by simp)) (by decide) (by decide) (by have h1 := HML.out aB; have h2 := HML.out bB; omega)).mono ?_
    rw [HMU.out]
    rintro e w11 hr11
    obtain ⟨a11, l11, rfl, hv11, o11, S11, k11, h11, rfl, _⟩ := hr11.bks
    clear hr11
    have H11 := Lib.hid h11
    have HV11 := Lib.hid hv11
    clear hv11 h11 H10
    obtain ⟨A12, hA12⟩ := lit_vwS rfl rfl (H11.out.vw HVa.out) (H11.out.vw HVb.out)
    have hun := runion_ok hA12 (by simp; omega) (by simp)
    rw [← HUU.out] at hun
    have HUN := Lib.hid hun
    clear hA12 hun
    go_wp2_with fail
    refine HUN.out.mono ?_; rintro e w12 ⟨a12, c12, rfl, hv12, hB12⟩
    have hB12' := (lit_below w11 _).trans (hB12.mono (by simp))
    have HBK := Lib.hid (lawbulks_ok (l := U) (HV11.out.below hB12') hv12 (by have := HUL.out; omega))
    have H12 := Lib.hid (H11.out.below hB12')
    clear hv12 hB12 hB12' HUN HV11 H11
    go_wp2_with fail
    refine HBK.out.mono ?_; rintro e w13 ⟨rfl, hB13⟩
    have H13 := Lib.hid (H12.out.below hB13)
    clear hB13 H12 HBK
    go_wp2_with fail
    refine (run_ismember (H13.out.below (lit_below w13 (.cells [txt sismemberB, txt bB, txt m].toArray 9))) HK9.out (k := bB) (x := m) (nm := sismemberB) (lit_vw w13 [sismemberB, bB, m] (by simp)) (by decide) (by decide) (Nat.le_trans (HML.out bB) (by omega))).mono ?_
    rw [decide_eq_true (mv_b HMM.out), if_pos rfl]
    rintro e w14 hr
    obtain ⟨a14, nl14, l14, rfl, o14, S14, k14, h14, hK14, _⟩ := hr.num
    clear hr
    have H14 := Lib.hid h14
    clear h14 hK14 H13
    go_wp2_with fail
    refine (lawnumber_ok _ _ _ _ _ _).mono ?_; rintro e w15 ⟨rfl, hB15⟩
    have HB := Lib.hid (H14.out.below hB15).since
    clear hB15 H14
    go_wp2_with fail
    go_ret
    exact ⟨rfl, HB.out⟩
  · rw [decide_eq_false hin] at HRH
    have HIN := Lib.hid (show (if m ∈ upd (upd (fun _ => []) aB (ofL a)) bB (ofL b) aB then (1 : Int) else 0) = 0 from if_neg fun h => hin ((ofL_mem m a).1 h))
    clear hin
    go_wp2_with fail
    refine (HRH.out wq5 _ (Hq5.out.vw HVa.out)).mono ?_; rintro e w6 ⟨rfl, rfl⟩
    go_wp2_with fail
    refine (run_move (Hq5.out.below (lit_below w6 (.cells [txt smoveB, txt aB, txt bB, txt m].toArray 9))) (by decide) HKK.out (k := aB) (d := bB) (x := m) (nm := smoveB) (by decide) (lit_vw w6 [smoveB, aB, bB, m] (by simp)) (by decide) (by decide) HS1.out HS2.out HL1.out HL2.out).mono ?_
    rw [HIN.out]
    rintro e w7 hr
    obtain ⟨a7, nl7, l7, rfl, o7, S7, k7, h7, hK7, _⟩ := hr.num
    clear hr
    have H7 := Lib.hid h7
    have HK7 := Lib.hid hK7
    clear h7 hK7 Hq5 HKK HRH
    go_wp2_with fail
    refine (lawnumber_ok _ _ _ _ _ _).mono ?_; rintro e w8 ⟨rfl, hB8⟩
    have H8 := Lib.hid (H7.out.below hB8)
    clear hB8 H7
    go_wp2_with fail
    refine (run_ismember (H8.out.below (lit_below w8 (.cells [txt sismemberB, txt aB, txt m].toArray 9))) HK7.out (k := aB) (x := m) (nm := sismemberB) (lit_vw w8 [sismemberB, aB, m] (by simp)) (by decide) (by decide) (Nat.le_trans (HML.out aB) (by omega))).mono ?_
    rw [decide_eq_false HMA.out, if_neg (by decide)]
    rintro e w9 hr
    obtain ⟨a9, nl9, l9, rfl, o9, S9, k9, h9, hK9, _⟩ := hr.num
    clear hr
    have H9 := Lib.hid h9
    have HK9 := Lib.hid hK9
    clear h9 hK9 H8 HK7
    go_wp2_with fail
    refine (lawnumber_ok _ _ _ _ _ _).mono ?_; rintro e w10 ⟨rfl, hB10⟩
    have H10 := Lib.hid (H9.out.below hB10)
    clear hB10 H9
    go_wp2_with fail
    refine (run_join2 (k := aB) (j := bB) (nm := sunionB) (low := sunionB) (way := 1) (H10.out.below (lit_below w10 (.cells [txt sunionB, txt aB, txt bB].toArray 9))) HK9.out (.inr (.inl ⟨rfl, rfl⟩)) (lit_vw w10 [sunionB, aB, bB] (by simp)) (by decide) (by decide) (by have h1 := HML.out aB; have h2 := HML.out bB; omega)).mono ?_
    rw [HMU.out]
    rintro e w11 hr11
    obtain ⟨a11, l11, rfl, hv11, o11, S11, k11, h11, rfl, _⟩ := hr11.bks
    clear hr11
    have H11 := Lib.hid h11
    have HV11 := Lib.hid hv11
    clear hv11 h11 H10
    obtain ⟨A12, hA12⟩ := lit_vwS rfl rfl (H11.out.vw HVa.out) (H11.out.vw HVb.out)
    have hun := runion_ok hA12 (by simp; omega) (by simp)
    rw [← HUU.out] at hun
    have HUN := Lib.hid hun
    clear hA12 hun
    go_wp2_with fail
    refine HUN.out.mono ?_; rintro e w12 ⟨a12, c12, rfl, hv12, hB12⟩
    have hB12' := (lit_below w11 _).trans (hB12.mono (by simp))
    have HBK := Lib.hid (lawbulks_ok (l := U) (HV11.out.below hB12') hv12 (by have := HUL.out; omega))
    have H12 := Lib.hid (H11.out.below hB12')
    clear hv12 hB12 hB12' HUN HV11 H11
    go_wp2_with fail
    refine HBK.out.mono ?_; rintro e w13 ⟨rfl, hB13⟩
    have H13 := Lib.hid (H12.out.below hB13)
    clear hB13 H12 HBK
    go_wp2_with fail
    go_ret
    exact ⟨rfl, H13.out.since⟩
theorem moves_con (w0 : World) (_ : Tbl w0) (a : List (List UInt8)) (va : Value) (ha : Vw (Old w0) w0 va 1 a.length (a.map txt)) (hsa : ∀ x ∈ a, x.length ≤ 1048576) (hla : a.length ≤ 1048576)
    (b : List (List UInt8)) (vb : Value) (hb : Vw (Old w0) w0 vb 1 b.length (b.map txt)) (hsb : ∀ x ∈ b, x.length ≤ 1048576) (hlb : b.length ≤ 1048576) (m : List UInt8) (_ : m.length ≤ 1048576) :
    Calls Tryz.prog 4 #[va, vb, txt m] w0 fun e w' => e = .returned (.bool true) ∧ Below w0.heap.size w0 w' := moves_law ha hb m hsa hsb hla hlb
end Go.Proofs.YtoganolkgmilaaaGreatDoor
/- SetcmdMoves: the law returns true for every input, and each argument reads behind the call as it read before; the five listed variables of the library are tied to the text. The condition: the arguments hold together at most 1048576 values and letters (the second form). -/
namespace Go.Proofs.YtoganolkgmilaaaGreatDoor
open Go Go.RowKit Go.ChangeShapes Go.WideShapes Go.ChangeAt Go.Deep Go.ChangeMaps Go.Joins
set_option maxRecDepth 100000 in
theorem setcmdMoves_contract (H : Type) (enc : TypeId × Value → H) (W : World) (base : Nat) (args : Array Value) (ds gs : List (DataW H)) (before : List MemPlace)
    (hval : ∀ (j : Nat) t v, Tryz.f4.params[j]? = some t → args[j]? = some v → Value.okWide Tryz.prog W .any base t v)
    (hW : DataW.Whole enc Tryz.prog Tryz.f4.params.toList Rows.setcmdMovesSpec.vars false W args.toList ds gs before) (hk : Rows.uptoSmall H (ds ++ gs) = true) (hL : laidMetH Tryz.prog laid5 W) :
    Calls Tryz.prog 4 args W fun e W' => ∃ v, e = .returned v ∧ Rows.setcmdMovesSpec.post enc Tryz.prog Tryz.f4 false true false false W args v W' := by
  have hT := laid_tbl hL
  have hW' := hW
  obtain ⟨p, q, hA0, hV, rfl, hfz, hnd⟩ := hW
  have hA : DataW.TrodAll enc Tryz.prog W 0 (fun _ => true) true Tryz.f4.params.toList args.toList ds p := hA0
  rw [Tryz.params4] at hA hval
  obtain ⟨v0, vs0, d0, ds0, p0, q0, hargs, rfl, rfl, h0, r0⟩ := trodAll_cons hA
  obtain ⟨v1, vs1, d1, ds1, p1, q1, rfl, rfl, rfl, h1, r1⟩ := trodAll_cons r0
  obtain ⟨v2, vs2, d2, ds2, p2, q2, rfl, rfl, rfl, h2, r2⟩ := trodAll_cons r1
  obtain ⟨rfl, rfl, rfl⟩ := trodAll_nil r2
  obtain rfl : args = #[v0, v1, v2] := by cases args; simp_all
  obtain ⟨rfl, rfl⟩ := trodVars_none hV
  have hb := upto_of (by simpa using hk)
  simp only [Rows.uptoBulkAll] at hb
  obtain ⟨aa0, ll0, cc0, hv0⟩ := okWide_slice Tryz.underlying22 (hval 0 22 v0 rfl rfl)
  obtain ⟨fuel0, hf0⟩ := h0
  obtain ⟨ws0, T0, k0⟩ := trod_strs (v := v0) (x := (d0, p0)) (by simpa [hv0, Value.cells] using hf0)
  dsimp only at k0
  have hl0 := len_le_bulkS ws0
  obtain ⟨aa1, ll1, cc1, hv1⟩ := okWide_slice Tryz.underlying22 (hval 1 22 v1 rfl rfl)
  obtain ⟨fuel1, hf1⟩ := h1
  obtain ⟨ws1, T1, k1⟩ := trod_strs (v := v1) (x := (d1, p1)) (by simpa [hv1, Value.cells] using hf1)
  dsimp only at k1
  have hl1 := len_le_bulkS ws1
  obtain ⟨s2, rfl, k2⟩ := op_str (hval 2 9 v2 rfl rfl) h2
  have hpost : ∀ W', Below W.heap.size W W' → Rows.setcmdMovesSpec.post enc Tryz.prog Tryz.f4 false true false false W _ (.bool true) W' := fun W' hg =>
    law_post laidR rfl rfl Tryz.underlying4 (by rw [Tryz.params4]; intro t ht; simp at ht; rcases ht with rfl | rfl; exact read_strs; exact read_str) hW' rfl hg
  exact (moves_con W hT ws0 v0 T0 (fun x hx => by have := le_sum_of hx; omega) (by omega) ws1 v1 T1 (fun x hx => by have := le_sum_of hx; omega) (by omega) s2 (by omega)).mono fun e W' ⟨he, hg⟩ => ⟨_, he, hpost W' hg⟩

theorem setcmdMoves_reads (os : Os) {H : Type} (enc : TypeId × Value → H) : ∃ places, DataW.whole enc Tryz.prog ((startW os).forCall (fun _ _ => 0) ⟨#[], #[.slice none 0 0, .slice none 0 0, .string ⟨#[]⟩], []⟩).memory Tryz.f4.params.toList Rows.setcmdMovesSpec.vars false (#[.slice none 0 0, .slice none 0 0, .string ⟨#[]⟩] : Array Value).toList 8 = some ([.nil, .nil, .lit (.string [])], [], places) :=
  ⟨[], by kernel_rfl⟩
set_option maxRecDepth 100000 in
theorem setcmdMoves_lifted (os : Os) (started : os.Started) (H : Type) (enc : TypeId × Value → H) (F : Stop.Interp) :
    ReturnsInHanded {} Tryz.checked os 4 .any ((Rows.OpenSpec.upto Rows.setcmdMovesSpec).preRow enc Tryz.prog Tryz.f4 Rows.setcmdMovesUptoRow.domain false Rows.setcmdMovesUptoRow.laid) (((Rows.OpenSpec.upto Rows.setcmdMovesSpec).at F).post enc Tryz.prog Tryz.f4 false true false false) := by
  obtain ⟨places, hx⟩ := setcmdMoves_reads os enc
  refine returnsInHanded_of_row (C := Tryz.checked) (s := Rows.OpenSpec.upto Rows.setcmdMovesSpec) ownR started (by kernel_rfl) Tryz.func4
    (witness_row_atRef (enc := enc) (C := Tryz.checked) false (startW os) #[.slice none 0 0, .slice none 0 0, .string ⟨#[]⟩] rfl (by kernel_rfl) (by kernel_rfl) (by kernel_rfl)
      (OpenSpec.preRow_of_cond 8 hx (by kernel_rfl) (fun k hk => by cases hk; kernel_rfl) (by kernel_rfl) (start_laid os _))) ?_
  intro W base args ds gs before hval hW _ hcond _ hL _ _
  exact setcmdMoves_contract H enc W base args ds gs before hval hW (hcond _ rfl) hL

theorem setcmdMoves_over : Rows.SetcmdMovesUptoSaid :=
  OpenClaim.holds_of_cond 4 Tryz.f4 rfl rfl rfl rfl rfl rfl rfl ⟨rfl, rfl, rfl, rfl, rfl⟩ rfl rfl rfl rfl rfl (by kernel_rfl) Tryz.func4 (by kernel_rfl)
    (of_decide_eq_true (by kernel_rfl)) (by unfold Func.isWrapper; first | (rw [if_pos (by decide +kernel)]; kernel_rfl) | (rw [if_neg (by decide +kernel)]; exact ⟨rfl, rfl⟩))
    (fun os started H enc _ F => by rw [OpenClaim.pre_eq_preRow]; exact setcmdMoves_lifted os started H enc F)
theorem setcmdMoves_plain (f : FuncId) (fn : Func) (hf : Tryz.pinned.checked.prog.funcNamed "covenant/covenantlaw21.SetcmdMoves" = some f) (hfn : Tryz.pinned.checked.prog.funcs[f]? = some fn) :
    true = Tryz.pinned.checked.prog.looks [] ∧ ∀ (j : Nat) t, fn.params[j]? = some t → Tryz.pinned.checked.prog.wantsStandIn t = false := by
  obtain rfl : f = 4 := Option.some.inj ((show Tryz.prog.funcNamed "covenant/covenantlaw21.SetcmdMoves" = some 4 by kernel_rfl).symm.trans hf) |>.symm
  obtain rfl : fn = Tryz.f4 := (Option.some.inj (Tryz.func4.symm.trans hfn)).symm
  refine ⟨by kernel_rfl, fun j t ht => ?_⟩
  rw [Tryz.params4] at ht
  have hm : t ∈ [22, 22, 9] := by simpa using Array.mem_of_getElem? ht
  have hall : ([22, 22, 9].all fun u => !Tryz.prog.wantsStandIn u) = true := by kernel_rfl
  exact (show Tryz.prog.wantsStandIn t = false by simpa using List.all_eq_true.1 hall t hm)

/-- SetcmdMoves, up to the bound, tied. -/
theorem SetcmdMoves_holds : Rows.SetcmdMovesUptoCardSaid :=
  Claim7.holds_tied_plain_at .later [] _ _ _ _ setcmdMoves_over (fun _ h => by cases h) (by kernel_rfl) (fun _ h => by cases h) setcmdMovesUpto_row_tie rfl ⟨rfl, rfl⟩ (by kernel_rfl) rfl setcmdMoves_plain (by kernel_rfl)
#print axioms SetcmdMoves_holds
end Go.Proofs.YtoganolkgmilaaaGreatDoor
