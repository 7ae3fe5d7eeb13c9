import Derived.Test.YtlgboamedjoidaaImplM
namespace Go.Proofs.Ytlgboamedjoidaa
open Go Go.RowKit
section
variable {o : Roles} {w : World} {r : List Nat} {p : Nat} {ps : List Nat} {n : NI}

set_option maxHeartbeats 1000000 in
theorem Read_in (h : Net o w r p ps n) {i b : Nat} {c : CI} (hb : ps[i]? = some b) (hi : n.conns[i]? = some c) (m : Int) (mw : -9223372036854775808 ≤ m ∧ m ≤ 9223372036854775807) :
    Calls Try.prog 22 #[ptr p, .int .i64 i, .int .i64 m] w (Did o w r p ps (n.put i (if servedE c = 0 then c.rd_ (howMany m (c.up.length - c.rd)) else c))
      (if servedE c = 0 then .tuple #[txt ((c.up.drop c.rd).take (howMany m (c.up.length - c.rd))), .bool (c.en && c.rd + howMany m (c.up.length - c.rd) == c.up.length), .int .i64 0] else .tuple #[txt [], .bool false, .int .i64 (servedE c)])) := by
  have H := served_in h hb hi
  by_cases hE : servedE c = 0
  · rw [pair_ok hE] at H
    simp only [if_pos hE]
    obtain ⟨uv, dv, hC⟩ := h.get hb hi
    have hk := howMany_int m (c.up.length - c.rd)
    have hk2 := howMany_le m (c.up.length - c.rd)
    have hrd := hC.rdle
    have hS := hC.upS
    have H2 := take_ok b 0 hC.up (hC.blk.cell 0) (hC.blk.cell 1) hC.upS hC.rdle (hC.blk.free 1) m (howMany m (c.up.length - c.rd)) (by rw [hk]; omega) mw
    have ⟨h1, h2⟩ := hC.rd_ (howMany m (c.up.length - c.rd)) (by omega)
    have ⟨hB, _⟩ := hC.set 1 (.int .i64 ((c.rd + howMany m (c.up.length - c.rd) : Nat) : Int)) (Stp.refl (r ++ [2, i]) o w) (List.prefix_refl _)
    have hc := hB.cell
    obtain ⟨a, cap, hv, _⟩ := hC.up.slice
    generalize howMany m (c.up.length - c.rd) = k at *
    obtain ⟨d, hd⟩ : ∃ d, c.rd + k + d = c.up.length := ⟨c.up.length - (c.rd + k), by omega⟩
    have H3 := fun q => left_ok b 0 ((w.setCell ⟨b, 1, none⟩ (.int .i64 ((c.rd + k : Nat) : Int))).drewN q) uv a _ cap (c.rd + k) d (hc 0) hv (hc 1) hS hd
    have D := fun v q => Did.one h hb h1 h2 v q
    have hcell := hC.blk.cell
    clear h hb hi hE hC h1 h2 hk mw hv hB hk2 hrd hS
    generalize (w.setCell ⟨b, 1, none⟩ (.int .i64 ((c.rd + k : Nat) : Int))) = W1 at *
    generalize ((c.up.drop c.rd).take k) = T at *
    unfold ptr at *
    cases hen : c.en
    · simp only [hen] at hc
      have D' := D (.tuple #[txt T, .bool false, .int .i64 0])
      clear hcell hd D H3
      go_enter Try.func22, Try.ntmps22
      go_wp2_with (first | (go_at_call 44; refine H.mono ?_; rintro e w' ⟨rfl, rfl⟩) | (go_at_call 48; refine H2.mono ?_; rintro e w' ⟨rfl, q, rfl⟩))
      go_ret3
      simp [txt] at D' ⊢
      exact D' _
    · simp only [hen] at hc
      have e1 : (c.rd + k == c.up.length) = decide (d = 0) := by rw [Bool.eq_iff_iff]; simp; omega
      rw [e1]
      have D' := D (.tuple #[txt T, .bool (decide (d = 0)), .int .i64 0])
      clear hcell hd D e1
      by_cases hd0 : d = 0
      · subst hd0
        go_enter Try.func22, Try.ntmps22
        go_wp2_with (first | (go_at_call 44; refine H.mono ?_; rintro e w' ⟨rfl, rfl⟩) | (go_at_call 48; refine H2.mono ?_; rintro e w' ⟨rfl, q, rfl⟩) | (go_at_call 42; refine (H3 _).mono ?_; rintro e w' ⟨rfl, q, rfl⟩))
        go_ret3
        simp [txt] at D' ⊢
        exact D' _
      · have h2 : ((d : Int) == 0) = false := by simp; omega
        have hdf : decide (d = 0) = false := by simpa using hd0
        rw [hdf] at D' ⊢
        clear hdf hd0
        go_enter Try.func22, Try.ntmps22
        go_wp2_with (first | (go_at_call 44; refine H.mono ?_; rintro e w' ⟨rfl, rfl⟩) | (go_at_call 48; refine H2.mono ?_; rintro e w' ⟨rfl, q, rfl⟩) | (go_at_call 42; refine (H3 _).mono ?_; rintro e w' ⟨rfl, q, rfl⟩))
        go_ret3
        simp [txt] at D' ⊢
        exact D' _
  · rw [pair_no hE] at H
    simp only [if_neg hE]
    rw [NI.put_same n i c hi]
    have D := Did.same h (.tuple #[txt [], .bool false, .int .i64 (servedE c)]) 0
    generalize servedE c = E at *
    clear h hb hi hE
    unfold ptr at *
    go_enter Try.func22, Try.ntmps22
    go_wp2_with (go_at_call 44; refine H.mono ?_; rintro e w' ⟨rfl, rfl⟩)
    go_ret3
    exact D

set_option maxHeartbeats 400000 in
theorem Sent_out (h : Net o w r p ps n) (c : Int) (hb : outR ps c) :
    Calls Try.prog 17 #[ptr p, .int .i64 c] w fun e w' => e = .returned (txt []) ∧ ∃ k, w' = w.drewN k := by
  have H := of_out h c hb
  clear hb h
  unfold ptr at *
  go_enter Try.func17, Try.ntmps17
  go_wp2_with (go_at_call 41; refine H.mono ?_; rintro e w' ⟨rfl, rfl⟩)
  go_ret
  exact ⟨rfl, 0, rfl⟩

set_option maxHeartbeats 400000 in
theorem Sent_in (h : Net o w r p ps n) {i b : Nat} {c : CI} (hb : ps[i]? = some b) (hi : n.conns[i]? = some c) :
    Calls Try.prog 17 #[ptr p, .int .i64 i] w fun e w' => e = .returned (txt c.up) ∧ ∃ k, w' = w.drewN k := by
  have H := of_in h i b hb
  obtain ⟨uv, dv, hC⟩ := h.get hb hi
  have hc := hC.blk.cell
  have ht := row_text hC.up 0
  rw [World.drewN_zero] at ht
  clear h hb hi hC
  unfold ptr at *
  go_enter Try.func17, Try.ntmps17
  go_wp2_with (go_at_call 41; refine H.mono ?_; rintro e w' ⟨rfl, rfl⟩)
  go_ret
  exact ⟨rfl, 0, rfl⟩

set_option maxHeartbeats 400000 in
theorem Taken_out (h : Net o w r p ps n) (c : Int) (hb : outR ps c) :
    Calls Try.prog 18 #[ptr p, .int .i64 c] w fun e w' => e = .returned (txt []) ∧ ∃ k, w' = w.drewN k := by
  have H := of_out h c hb
  clear hb h
  unfold ptr at *
  go_enter Try.func18, Try.ntmps18
  go_wp2_with (go_at_call 41; refine H.mono ?_; rintro e w' ⟨rfl, rfl⟩)
  go_ret
  exact ⟨rfl, 0, rfl⟩

set_option maxHeartbeats 400000 in
theorem Taken_in (h : Net o w r p ps n) {i b : Nat} {c : CI} (hb : ps[i]? = some b) (hi : n.conns[i]? = some c) :
    Calls Try.prog 18 #[ptr p, .int .i64 i] w fun e w' => e = .returned (txt (c.dn.take c.tk)) ∧ ∃ k, w' = w.drewN k := by
  have H := of_in h i b hb
  obtain ⟨uv, dv, hC⟩ := h.get hb hi
  have H2 := past_ok b 2 hC.dn (hC.blk.cell 2) (hC.blk.cell 3) hC.tkle
  clear h hb hi hC
  unfold ptr at *
  go_enter Try.func18, Try.ntmps18
  go_wp2_with (first | (go_at_call 41; refine H.mono ?_; rintro e w' ⟨rfl, rfl⟩) | (go_at_call 43; refine H2.mono ?_; rintro e w' ⟨rfl, k, rfl⟩))
  go_ret
  exact ⟨rfl, _, rfl⟩

set_option maxHeartbeats 400000 in
theorem Conns_ok (h : Net o w r p ps n) : Calls Try.prog 9 #[ptr p] w fun e w' => e = .returned (.int .i64 n.conns.length) ∧ ∃ k, w' = w.drewN k := by
  obtain ⟨cv, h⟩ := h
  have hc := h.blk.cell
  obtain ⟨a, cap, hv, _⟩ := h.row.slice
  have hl := h.len
  rw [← hl]
  subst hv
  clear h hl
  unfold ptr at *
  go_enter Try.func9, Try.ntmps9
  go_wp2
  go_ret
  exact ⟨rfl, 0, rfl⟩
end
end Go.Proofs.Ytlgboamedjoidaa
