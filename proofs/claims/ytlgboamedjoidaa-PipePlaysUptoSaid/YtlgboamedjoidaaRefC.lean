import Derived.Test.YtlgboamedjoidaaRefB
namespace Go.Proofs.Ytlgboamedjoidaa
open Go Go.RowKit
section
variable {o o' : Roles} {w w' : World} {r s : List Nat} {p win : Nat} {L : List CI}
theorem Ref.alike {W : World} (h : Ref o w s p win L) (e : W.heap = w.heap) : Ref o W s p win L :=
  let ⟨lv, h⟩ := h
  ⟨lv, ⟨by rw [e]; exact h.blk.heap, h.blk.role⟩, ⟨ownsRow_agree h.row.own fun g _ => by rw [e], h.row.role⟩, h.few, h.ok, h.winle⟩
theorem RDid.alike {L' : List CI} {W : World} (h : Ref o' w' r p win L') (st : Stp r o w o' w') (v : Value) (e1 : W.heap = w'.heap) (e2 : W.os = w'.os) (e3 : W.tape = w'.tape) (e4 : W.output = w'.output) : RDid o w r p win L' v (.returned v) W :=
  ⟨rfl, o', h.alike e1, ⟨e2.trans st.os, e3.trans st.tape, e4.trans st.output, by rw [e1]; exact st.size, st.old, fun b hb hn => by rw [e1]; exact st.block b hb hn⟩⟩
set_option maxRecDepth 100000 in
set_option maxHeartbeats 4000000 in
theorem RRead_in (h : Ref o w r p win L) {i : Nat} {c : CI} (hi : L[i]? = some c) (m : Int) :
    Calls Try.prog 33 #[ptr p, .int .i64 i, .int .i64 m] w (RDid o w r p win (L.set i (if servedE c = 0 then c.rd_ (howMany m (c.up.length - c.rd)) else c)) (if servedE c = 0 then .tuple #[txt ((c.up.drop c.rd).take (howMany m (c.up.length - c.rd))), .bool (c.en && c.rd + howMany m (c.up.length - c.rd) == c.up.length), .int .i64 0] else .tuple #[txt [], .bool false, .int .i64 (servedE c)])) := by
  have hil : i < L.length := (List.getElem?_eq_some_iff.1 hi).1
  have H := server_in h hi
  have h0 := h
  obtain ⟨lv, h⟩ := h
  have hc := h.blk.cell
  obtain ⟨g, cap, hv, hcell, hfr, hgp, hpg, hput⟩ := h.elem hi
  obtain ⟨hG, hrd, htk⟩ := h.ok c (List.mem_of_getElem? hi)
  have hfew := h.few
  subst hv
  have c0 : w.cell? ⟨g, i * 8, none⟩ = some (txt c.up) := hcell 0 _ rfl
  have c2 := hcell 2 _ rfl
  have c5 := hcell 5 _ rfl
  by_cases hE : servedE c = 0
  · rw [hE] at H
    simp only [if_pos hE]
    have hkk := howMany_int m (c.up.length - c.rd)
    have hkl := howMany_le m (c.up.length - c.rd)
    obtain ⟨hR, hS⟩ := hput 2 (.int .i64 ((c.rd + howMany m (c.up.length - c.rd) : Nat) : Int)) (c.rd_ (howMany m (c.up.length - c.rd))) (by decide) rfl ⟨hG, by simp only [CI.rd_]; omega, htk⟩
    have D : ∀ W V, W.heap = (w.setCell ⟨g, i * 8 + 2, none⟩ (.int .i64 (c.rd + howMany m (c.up.length - c.rd)))).heap → W.os = w.os → W.tape = w.tape → W.output = w.output → RDid o w r p win (L.set i (c.rd_ (howMany m (c.up.length - c.rd)))) V (.returned V) W := fun W V e1 e2 e3 e4 => RDid.alike hR hS V e1 e2 e3 e4
    have D := Lib.hid D
    have hup := hG.1
    obtain ⟨d, hd⟩ : ∃ d, c.rd + d = c.up.length := ⟨c.up.length - c.rd, by omega⟩
    rw [show c.up.length - c.rd = d by omega] at *
    have ec := cut_text c.up c.rd (c.rd + howMany m d)
    rw [show c.rd + howMany m d - c.rd = howMany m d by omega] at ec
    generalize hkd : howMany m d = k at *
    generalize c.rd_ k = C2 at *
    rw [show ((c.up.drop c.rd).take k) = ((c.up.drop c.rd).take k) from rfl]
    obtain ⟨T, hT⟩ : ∃ T, (c.up.drop c.rd).take k = T := ⟨_, rfl⟩
    rw [hT] at ec ⊢
    have HT := Lib.hid hT
    have efin : (c.rd + k == c.up.length) = decide (k = d) := by rw [Bool.eq_iff_iff]; simp; omega
    rw [efin]
    clear h h0 hcell hput hR hS hi hG hrd htk hkd hE hT efin
    have hcase : (m < 0 ∧ k = 0) ∨ (m = k ∧ 0 < k ∧ k ≤ d) ∨ (m = 0 ∧ k = 0) ∨ ((d : Int) < m ∧ k = d ∧ 0 < d) ∨ ((d : Int) < m ∧ k = 0 ∧ d = 0) := by omega
    have hdl : (c.up.length : Int) - c.rd = d := by omega
    have hwd : IntKind.i64.wrap ((c.up.length : Int) - c.rd) = d := by rw [hdl]; exact IntWalk.i64_in _ (by omega)
    have hle1 : c.rd + k ≤ c.up.length := by omega
    have Hle := Lib.hid hle1
    have hw0 : IntKind.i64.wrap ((c.rd : Int)) = c.rd := IntWalk.i64_in _ (by omega)
    have hw1 : IntKind.i64.wrap ((c.rd : Int) + k) = c.rd + k := IntWalk.i64_in _ (by omega)
    have HW0 := Lib.hid hw0
    have HW1 := Lib.hid hw1
    have HWD := Lib.hid hwd
    have HE1 : (k = d → (((c.rd : Int) + k) == (c.up.length : Int)) = true ∧ decide (k = d) = true) ∧ (k ≠ d → (((c.rd : Int) + k) == (c.up.length : Int)) = false ∧ decide (k = d) = false) := by
      constructor
      · intro h; refine ⟨?_, by simpa using h⟩; simp; omega
      · intro h; refine ⟨?_, by simpa using h⟩; simp; omega
    have HE := Lib.hid HE1
    have HZ1 : (0 = d → ((c.rd : Int) == (c.up.length : Int)) = true ∧ decide (0 = d) = true) ∧ (0 ≠ d → ((c.rd : Int) == (c.up.length : Int)) = false ∧ decide (0 = d) = false) := by
      constructor
      · intro h; refine ⟨?_, by simpa using h⟩; simp; omega
      · intro h; refine ⟨?_, by simpa using h⟩; simp; omega
    have HZ := Lib.hid HZ1
    clear HZ1
    clear hw0 hw1 hwd hdl hkk hd HE1
    unfold ptr at *
    try unfold txt at *
    rcases hcase with ⟨hm, rfl⟩ | ⟨rfl, hk0, hkd⟩ | ⟨rfl, rfl⟩ | ⟨hm, rfl, hk0⟩ | ⟨hm, rfl, rfl⟩
    · have hT := HT.out
      rw [List.take_zero] at hT
      subst hT
      clear HT
      simp at ec
      cases hen : c.en
      · rw [hen] at c5
        simp only [Bool.false_and]
        clear hen
        go_enter Try.func33, Try.ntmps33
        go_wp2_with (go_at_call 52; refine H.mono ?_; rintro e w' ⟨rfl, rfl⟩)
        have hwd := HWD.out
        go_quiet (fail)
        clear hwd
        have hw0 := HW0.out
        go_wp2_with fail
        go_quiet (fail)
        clear hw0
        go_wp2_with fail
        go_quiet (fail)
        go_wp2_with fail
        go_ret3
        exact D.out _ _ (by simp; rfl) rfl rfl rfl
      · rw [hen] at c5
        simp only [Bool.true_and]
        clear hen
        by_cases hkd2 : 0 = d
        · obtain ⟨x1, x2⟩ := HZ.out.1 hkd2
          rw [x2]
          clear hkd2
          go_enter Try.func33, Try.ntmps33
          go_wp2_with (go_at_call 52; refine H.mono ?_; rintro e w' ⟨rfl, rfl⟩)
          have hwd := HWD.out
          go_quiet (fail)
          clear hwd
          have hw0 := HW0.out
          go_wp2_with fail
          go_quiet (fail)
          clear hw0
          go_wp2_with fail
          go_quiet (fail)
          go_wp2_with fail
          go_ret3
          exact D.out _ _ (by simp; rfl) rfl rfl rfl
        · obtain ⟨x1, x2⟩ := HZ.out.2 hkd2
          rw [x2]
          clear hkd2
          go_enter Try.func33, Try.ntmps33
          go_wp2_with (go_at_call 52; refine H.mono ?_; rintro e w' ⟨rfl, rfl⟩)
          have hwd := HWD.out
          go_quiet (fail)
          clear hwd
          have hw0 := HW0.out
          go_wp2_with fail
          go_quiet (fail)
          clear hw0
          go_wp2_with fail
          go_quiet (fail)
          go_wp2_with fail
          go_ret3
          exact D.out _ _ (by simp; rfl) rfl rfl rfl
    · have hle2 := Hle.out
      rw [← ec]
      clear ec
      cases hen : c.en
      · rw [hen] at c5
        simp only [Bool.false_and]
        clear hen
        go_enter Try.func33, Try.ntmps33
        go_wp2_with (go_at_call 52; refine H.mono ?_; rintro e w' ⟨rfl, rfl⟩)
        have hwd := HWD.out
        go_quiet (fail)
        clear hwd
        have hw0 := HW1.out
        go_wp2_with fail
        go_quiet (fail)
        clear hw0
        go_wp2_with fail
        go_quiet (fail)
        go_wp2_with fail
        go_ret3
        exact D.out _ _ (by simp; rfl) rfl rfl rfl
      · rw [hen] at c5
        simp only [Bool.true_and]
        clear hen
        by_cases hkd2 : k = d
        · obtain ⟨x1, x2⟩ := HE.out.1 hkd2
          rw [x2]
          clear hkd2
          go_enter Try.func33, Try.ntmps33
          go_wp2_with (go_at_call 52; refine H.mono ?_; rintro e w' ⟨rfl, rfl⟩)
          have hwd := HWD.out
          go_quiet (fail)
          clear hwd
          have hw0 := HW1.out
          go_wp2_with fail
          go_quiet (fail)
          clear hw0
          go_wp2_with fail
          go_quiet (fail)
          go_wp2_with fail
          go_ret3
          exact D.out _ _ (by simp; rfl) rfl rfl rfl
        · obtain ⟨x1, x2⟩ := HE.out.2 hkd2
          rw [x2]
          clear hkd2
          go_enter Try.func33, Try.ntmps33
          go_wp2_with (go_at_call 52; refine H.mono ?_; rintro e w' ⟨rfl, rfl⟩)
          have hwd := HWD.out
          go_quiet (fail)
          clear hwd
          have hw0 := HW1.out
          go_wp2_with fail
          go_quiet (fail)
          clear hw0
          go_wp2_with fail
          go_quiet (fail)
          go_wp2_with fail
          go_ret3
          exact D.out _ _ (by simp; rfl) rfl rfl rfl
    · have hT := HT.out
      rw [List.take_zero] at hT
      subst hT
      clear HT
      simp at ec
      cases hen : c.en
      · rw [hen] at c5
        simp only [Bool.false_and]
        clear hen
        go_enter Try.func33, Try.ntmps33
        go_wp2_with (go_at_call 52; refine H.mono ?_; rintro e w' ⟨rfl, rfl⟩)
        have hwd := HWD.out
        go_quiet (fail)
        clear hwd
        have hw0 := HW0.out
        go_wp2_with fail
        go_quiet (fail)
        clear hw0
        go_wp2_with fail
        go_quiet (fail)
        go_wp2_with fail
        go_ret3
        exact D.out _ _ (by simp; rfl) rfl rfl rfl
      · rw [hen] at c5
        simp only [Bool.true_and]
        clear hen
        by_cases hkd2 : 0 = d
        · obtain ⟨x1, x2⟩ := HZ.out.1 hkd2
          rw [x2]
          clear hkd2
          go_enter Try.func33, Try.ntmps33
          go_wp2_with (go_at_call 52; refine H.mono ?_; rintro e w' ⟨rfl, rfl⟩)
          have hwd := HWD.out
          go_quiet (fail)
          clear hwd
          have hw0 := HW0.out
          go_wp2_with fail
          go_quiet (fail)
          clear hw0
          go_wp2_with fail
          go_quiet (fail)
          go_wp2_with fail
          go_ret3
          exact D.out _ _ (by simp; rfl) rfl rfl rfl
        · obtain ⟨x1, x2⟩ := HZ.out.2 hkd2
          rw [x2]
          clear hkd2
          go_enter Try.func33, Try.ntmps33
          go_wp2_with (go_at_call 52; refine H.mono ?_; rintro e w' ⟨rfl, rfl⟩)
          have hwd := HWD.out
          go_quiet (fail)
          clear hwd
          have hw0 := HW0.out
          go_wp2_with fail
          go_quiet (fail)
          clear hw0
          go_wp2_with fail
          go_quiet (fail)
          go_wp2_with fail
          go_ret3
          exact D.out _ _ (by simp; rfl) rfl rfl rfl
    · have hle2 := Hle.out
      rw [← ec]
      clear ec
      cases hen : c.en
      · rw [hen] at c5
        simp only [Bool.false_and]
        clear hen
        go_enter Try.func33, Try.ntmps33
        go_wp2_with (go_at_call 52; refine H.mono ?_; rintro e w' ⟨rfl, rfl⟩)
        have hwd := HWD.out
        go_quiet (fail)
        clear hwd
        have hw0 := HW1.out
        go_wp2_with fail
        go_quiet (fail)
        clear hw0
        go_wp2_with fail
        go_quiet (fail)
        go_wp2_with fail
        go_ret3
        exact D.out _ _ (by simp; rfl) rfl rfl rfl
      · rw [hen] at c5
        simp only [Bool.true_and]
        clear hen
        obtain ⟨x1, x2⟩ := HE.out.1 rfl
        first | rw [x2] | simp only [decide_true]
        go_enter Try.func33, Try.ntmps33
        go_wp2_with (go_at_call 52; refine H.mono ?_; rintro e w' ⟨rfl, rfl⟩)
        have hwd := HWD.out
        go_quiet (fail)
        clear hwd
        have hw0 := HW1.out
        go_wp2_with fail
        go_quiet (fail)
        clear hw0
        go_wp2_with fail
        go_quiet (fail)
        go_wp2_with fail
        go_ret3
        exact D.out _ _ (by simp; rfl) rfl rfl rfl
    · have hT := HT.out
      rw [List.take_zero] at hT
      subst hT
      clear HT
      simp at ec
      cases hen : c.en
      · rw [hen] at c5
        simp only [Bool.false_and]
        clear hen
        go_enter Try.func33, Try.ntmps33
        go_wp2_with (go_at_call 52; refine H.mono ?_; rintro e w' ⟨rfl, rfl⟩)
        have hwd := HWD.out
        go_quiet (fail)
        clear hwd
        have hw0 := HW0.out
        go_wp2_with fail
        go_quiet (fail)
        clear hw0
        go_wp2_with fail
        go_quiet (fail)
        go_wp2_with fail
        go_ret3
        exact D.out _ _ (by simp; rfl) rfl rfl rfl
      · rw [hen] at c5
        simp only [Bool.true_and]
        clear hen
        obtain ⟨x1, x2⟩ := HZ.out.1 rfl
        first | rw [x2] | simp only [decide_true]
        go_enter Try.func33, Try.ntmps33
        go_wp2_with (go_at_call 52; refine H.mono ?_; rintro e w' ⟨rfl, rfl⟩)
        have hwd := HWD.out
        go_quiet (fail)
        clear hwd
        have hw0 := HW0.out
        go_wp2_with fail
        go_quiet (fail)
        clear hw0
        go_wp2_with fail
        go_quiet (fail)
        go_wp2_with fail
        go_ret3
        exact D.out _ _ (by simp; rfl) rfl rfl rfl
  · simp only [if_neg hE]
    rw [set_self hi]
    have D := RDid.same h0 (.tuple #[txt [], .bool false, .int .i64 (servedE c)]) 0
    have hq : ((servedE c) == 0) = false := by simpa using hE
    generalize servedE c = E at *
    clear h h0 hcell hput hi hG hrd htk hE c0 c2 c5
    unfold ptr at *
    try unfold txt at *
    go_enter Try.func33, Try.ntmps33
    go_wp2_with (go_at_call 52; refine H.mono ?_; rintro e w' ⟨rfl, rfl⟩)
    go_ret3
    exact D
end
end Go.Proofs.Ytlgboamedjoidaa
