import Derived.Test.YtlgboamedjoidaaRefA
namespace Go.Proofs.Ytlgboamedjoidaa
open Go Go.RowKit
section
variable {o o' : Roles} {w w' : World} {r s : List Nat} {p win : Nat} {L : List CI}
theorem cut_text (l : List UInt8) (i j : Nat) : ByteArray.extract ⟨l.toArray⟩ i j = ⟨((l.drop i).take (j - i)).toArray⟩ := by
  apply ByteArray.ext; apply Array.ext'
  simp [List.take_drop]

set_option maxHeartbeats 2000000 in
theorem RTake_in (h : Ref o w r p win L) {i : Nat} {c : CI} (hi : L[i]? = some c) (m : Int) :
    Calls Try.prog 29 #[ptr p, .int .i64 i, .int .i64 m] w (RDid o w r p win (L.set i (if wholeE c = 0 then c.tk_ (howMany m (c.dn.length - c.tk)) else c)) (if wholeE c = 0 then .tuple #[txt ((c.dn.drop c.tk).take (howMany m (c.dn.length - c.tk))), .int .i64 0] else .tuple #[txt [], .int .i64 (wholeE c)])) := by
  have hil : i < L.length := (List.getElem?_eq_some_iff.1 hi).1
  have H := has_in h hil
  have h0 := h
  obtain ⟨lv, h⟩ := h
  have hc := h.blk.cell
  obtain ⟨g, cap, hv, hcell, hfr, hgp, hpg, hput⟩ := h.elem hi
  obtain ⟨hG, hrd, htk⟩ := h.ok c (List.mem_of_getElem? hi)
  have hfew := h.few
  subst hv
  have c7 := hcell 7 _ rfl
  have c1 := hcell 1 _ rfl
  have c3 := hcell 3 _ rfl
  unfold wholeE
  cases hcu : c.cu
  · simp only [Bool.false_eq_true, if_false, if_true]
    rw [hcu] at c7
    have hwr : c.wrote = c.dn := by simp [CI.wrote, hcu]
    rw [hwr] at c1
    have hkk := howMany_int m (c.dn.length - c.tk)
    have hkl := howMany_le m (c.dn.length - c.tk)
    obtain ⟨hR, hS⟩ := hput 3 (.int .i64 ((c.tk + howMany m (c.dn.length - c.tk) : Nat) : Int)) (c.tk_ (howMany m (c.dn.length - c.tk))) (by decide) (by simp [rcells, CI.wrote, CI.tk_, hcu]) ⟨⟨hG.1, hG.2.1, by have := hG.2.2; simp only [CI.tk_]; omega⟩, hrd, by simp only [CI.tk_]; omega⟩
    have D : ∀ q, RDid o w r p win (L.set i (c.tk_ (howMany m (c.dn.length - c.tk)))) (.tuple #[txt ((c.dn.drop c.tk).take (howMany m (c.dn.length - c.tk))), .int .i64 0]) (.returned (.tuple #[txt ((c.dn.drop c.tk).take (howMany m (c.dn.length - c.tk))), .int .i64 0])) ((w.drewN q).setCell ⟨g, i * 8 + 3, none⟩ (.int .i64 (c.tk + howMany m (c.dn.length - c.tk)))) := fun q => RDid.of hR hS (.tuple #[txt ((c.dn.drop c.tk).take (howMany m (c.dn.length - c.tk))), .int .i64 0]) q
    have hdn := hG.2.1
    obtain ⟨d, hd⟩ : ∃ d, c.tk + d = c.dn.length := ⟨c.dn.length - c.tk, by omega⟩
    rw [show c.dn.length - c.tk = d by omega] at *
    have ec := cut_text c.dn c.tk (c.tk + howMany m d)
    rw [show c.tk + howMany m d - c.tk = howMany m d by omega] at ec
    generalize hkd : howMany m d = k at *
    obtain ⟨T, hT⟩ : ∃ T, (c.dn.drop c.tk).take k = T := ⟨_, rfl⟩
    rw [hT] at ec D
    try rw [hT]
    have HT := Lib.hid hT
    clear hT
    generalize c.tk_ k = C2 at *
    clear h h0 hcell hput hR hS hi hG hrd htk hwr hkd hcu
    have hcase : (m < 0 ∧ k = 0) ∨ (m = k ∧ 0 < k ∧ k ≤ d) ∨ (m = 0 ∧ k = 0) ∨ ((d : Int) < m ∧ k = d ∧ 0 < d) ∨ ((d : Int) < m ∧ k = 0 ∧ d = 0) := by omega
    have hdl : (c.dn.length : Int) - c.tk = d := by omega
    have hwd : IntKind.i64.wrap ((c.dn.length : Int) - c.tk) = d := by rw [hdl]; exact IntWalk.i64_in _ (by omega)
    have hle1 : c.tk + k ≤ c.dn.length := by omega
    have Hle := Lib.hid hle1
    have hw0 : IntKind.i64.wrap ((c.tk : Int)) = c.tk := IntWalk.i64_in _ (by omega)
    have hw1 : IntKind.i64.wrap ((c.tk : Int) + k) = c.tk + k := IntWalk.i64_in _ (by omega)
    have HW0 := Lib.hid hw0
    have HW1 := Lib.hid hw1
    have HWD := Lib.hid hwd
    clear hw0 hw1 hwd hdl hkk hd
    unfold ptr at *
    try unfold txt at *
    rcases hcase with ⟨hm, rfl⟩ | ⟨rfl, hk0, hkd⟩ | ⟨rfl, rfl⟩ | ⟨hm, rfl, hk0⟩ | ⟨hm, rfl, rfl⟩
    · have hT := HT.out
      rw [List.take_zero] at hT
      subst hT
      clear HT
      simp at ec D
      go_enter Try.func29, Try.ntmps29
      go_wp2_with (go_at_call 51; refine H.mono ?_; rintro e w' ⟨rfl, rfl⟩)
      have hwd := HWD.out
      go_quiet (fail)
      clear hwd
      have hw0 := HW0.out
      go_wp2_with fail
      go_quiet (fail)
      clear hw0
      go_wp2_with fail
      go_ret2
      exact D _
    · have hle2 := Hle.out
      rw [← ec] at D ⊢
      clear ec
      go_enter Try.func29, Try.ntmps29
      go_wp2_with (go_at_call 51; refine H.mono ?_; rintro e w' ⟨rfl, rfl⟩)
      have hwd := HWD.out
      go_quiet (fail)
      clear hwd
      have hw0 := HW1.out
      go_wp2_with fail
      go_quiet (fail)
      clear hw0
      go_wp2_with fail
      go_ret2
      exact D _
    · have hT := HT.out
      rw [List.take_zero] at hT
      subst hT
      clear HT
      simp at ec D
      go_enter Try.func29, Try.ntmps29
      go_wp2_with (go_at_call 51; refine H.mono ?_; rintro e w' ⟨rfl, rfl⟩)
      have hwd := HWD.out
      go_quiet (fail)
      clear hwd
      have hw0 := HW0.out
      go_wp2_with fail
      go_quiet (fail)
      clear hw0
      go_wp2_with fail
      go_ret2
      exact D _
    · have hle2 := Hle.out
      rw [← ec] at D ⊢
      clear ec
      go_enter Try.func29, Try.ntmps29
      go_wp2_with (go_at_call 51; refine H.mono ?_; rintro e w' ⟨rfl, rfl⟩)
      have hwd := HWD.out
      go_quiet (fail)
      clear hwd
      have hw0 := HW1.out
      go_wp2_with fail
      go_quiet (fail)
      clear hw0
      go_wp2_with fail
      go_ret2
      exact D _
    · have hT := HT.out
      rw [List.take_zero] at hT
      subst hT
      clear HT
      simp at ec D
      go_enter Try.func29, Try.ntmps29
      go_wp2_with (go_at_call 51; refine H.mono ?_; rintro e w' ⟨rfl, rfl⟩)
      have hwd := HWD.out
      go_quiet (fail)
      clear hwd
      have hw0 := HW0.out
      go_wp2_with fail
      go_quiet (fail)
      clear hw0
      go_wp2_with fail
      go_ret2
      exact D _
  · simp only [if_true, show ¬ (61 : Int) = 0 by decide, if_false]
    rw [set_self hi]
    rw [hcu] at c7
    have D := RDid.same h0 (.tuple #[txt [], .int .i64 61]) 0
    clear h h0 hcell hput hi hG hrd htk hcu c1 c3
    unfold ptr at *
    try unfold txt at *
    go_enter Try.func29, Try.ntmps29
    go_wp2_with (go_at_call 51; refine H.mono ?_; rintro e w' ⟨rfl, rfl⟩)
    go_ret2
    exact D
end
end Go.Proofs.Ytlgboamedjoidaa
