import Derived.Test.YtgdgnpjgemcjgaaPL
namespace Go.Proofs.Ytgdgnpjgemcjgaa
open Go Go.RowKit
theorem LLIn.cut {w : World} {v : Value} {A t : List (List (List UInt8))} (h : LLIn w v (A ++ t)) :
    ∃ sv, (∀ W, (Instr.slice 24 v none (some (.int .i64 A.length)) none).run Try.prog W = .ok sv W) ∧ LLIn w sv A := by
  obtain ⟨a, cap, rfl, h2, h3, h0, h4⟩ := h
  obtain ⟨i0, hi0, hz0, hz1, hz2⟩ := info_parts infoStrs
  have hle : A.length ≤ cap := by rw [List.length_append] at h2; omega
  refine ⟨.slice a A.length cap, fun W => ?_, a, cap, rfl, hle, h3, fun ws hw => h0 ws (List.mem_append_left _ hw), ?_⟩
  · have ha : a.map (fun x => x.add 0) = a := by cases a <;> simp [Addr.add]
    simp [Instr.slice, run_underlying Try.underlying24, Instr.sliceBounds, Instr.sliceBound, asIntOf, sizeOf, typeInfo, hi0]
    rw [if_pos (by omega)]
    simp [ha]
  · rcases h4 with h4 | ⟨b, off, h5, h6, h7⟩
    · exact .inl (List.append_eq_nil_iff.1 h4).1
    · exact .inr ⟨b, off, h5, h6, fun k ws hk => h7 k ws (by rw [List.getElem?_append_left (List.getElem?_eq_some_iff.1 hk).1]; exact hk)⟩
theorem beginsX (b a n : Int) (s m : List UInt8) : ∃ t, (wholeX b a n (s ++ m)).1 = (wholeX b a n s).1 ++ t ∧ (wholeX b a n s).2.2 ≤ (wholeX b a n (s ++ m)).2.2 ∧ (wholeX b a n (s ++ m)).2.2 ≤ s.length + m.length ∧
    ((wholeX b a n s).2.1 ≠ [] → (wholeX b a n (s ++ m)).2.1 = (wholeX b a n s).2.1 ∧ (wholeX b a n (s ++ m)).2.2 = (wholeX b a n s).2.2 ∧ t = []) := by
  by_cases h : LimI b a n
  · rw [wholeX_pos s h, wholeX_pos (s ++ m) h]
    obtain ⟨t, h1, h2, h3, h4⟩ := begins_plain (limL b a n) s m
    exact ⟨t, h1, h2, h3, fun hf => ⟨by rw [(h4 hf).1], by rw [(h4 hf).1], (h4 hf).2⟩⟩
  · rw [wholeX_neg s h, wholeX_neg (s ++ m) h]
    exact ⟨[], rfl, Nat.le_refl _, Nat.zero_le _, fun hf => absurd rfl hf⟩
set_option maxRecDepth 10000 in
set_option maxHeartbeats 4000000 in
theorem begins_law (w : World) (b a n : Int) (s m : List UInt8) (hs : s.length + m.length ≤ 2097152) : Calls Try.prog 10 #[limV b a n, .string ⟨s.toArray⟩, .string ⟨m.toArray⟩] w fun e w' => e = .returned (.bool true) ∧ Below w.heap.size w w' := by
  have H1 := Lib.hid (fun W => whole_x b a n s (by omega) W)
  have H2 := Lib.hid (fun W => whole_x b a n (s ++ m) (by rw [List.length_append]; omega) W)
  have hxl := wholeX_len b a n s
  obtain ⟨t, hB, hU, hN, hF⟩ := beginsX b a n s m
  have hsz1 : (⟨s.toArray⟩ : ByteArray).size = s.length := by simp [ByteArray.size]
  have hsz2 : (⟨m.toArray⟩ : ByteArray).size = m.length := by simp [ByteArray.size]
  unfold limV at *
  unfold WX at *
  generalize wholeX b a n s = X at *
  generalize wholeX b a n (s ++ m) = Y at *
  obtain ⟨A, F, U⟩ := X
  obtain ⟨B, G, N⟩ := Y
  dsimp only at *
  have hAl : A.length ≤ B.length := by rw [hB, List.length_append]; omega
  have hF' : F ≠ [] → G = F ∧ N = U ∧ B.length = A.length := fun h => ⟨(hF h).1, (hF h).2.1, by rw [hB, (hF h).2.2, List.append_nil]⟩
  have HF := Lib.hid hF'
  clear hF'
  have HB := Lib.hid hB
  clear hF hB
  go_enter Try.func10, Try.ntmps10
  go_wp2_with fail
  refine (H1.out _).mono ?_; rintro e w1 ⟨va, vn, vc, rfl, hL1, hB1⟩
  obtain ⟨hc1, _⟩ := bcell hB1
  have HB1 := Lib.hid (((Below.refl w.heap.size w).alloc (Nat.le_refl _) _).trans (hB1.mono (by simp)))
  have hx0 : w1.cell? ⟨w.heap.size, 0, none⟩ = some (.int .i64 b) := by rw [hc1 _ _ (by simp)]; simp [go_sem]
  have hx1 : w1.cell? ⟨w.heap.size, 1, none⟩ = some (.int .i64 a) := by rw [hc1 _ _ (by simp)]; simp [go_sem]
  have hx2 : w1.cell? ⟨w.heap.size, 2, none⟩ = some (.int .i64 n) := by rw [hc1 _ _ (by simp)]; simp [go_sem]
  have hvn : vn = A.length := by obtain ⟨_, _, h, _⟩ := hL1; cases h; rfl
  subst hvn
  have HL1 := Lib.hid hL1
  clear hc1 hB1 hL1
  go_wp2_with fail
  refine (H2.out _).mono ?_; rintro e w2 ⟨ub, un, uc, rfl, hL2, hB2⟩
  have hun : un = B.length := by obtain ⟨_, _, h, _⟩ := hL2; cases h; rfl
  subst hun
  have HB2 := Lib.hid (HB1.out.trans (hB2.mono HB1.out.size))
  rw [HB.out] at hL2
  obtain ⟨sv, hcut, hL3⟩ := hL2.cut
  have hL12 := HL1.out.below hB2
  rw [← HB.out] at hcut
  have HALL := Lib.hid (all_same (xs := A) hL12 hL3 (by omega))
  clear hx0 hx1 hx2 hB2 hL2 hL3 hL12
  generalize A.length = la at *
  generalize B.length = lb at *
  go_wp2_with fail
  have hd1 : decide (lb < la) = false := by simpa using hAl
  refine HALL.out.mono ?_; rintro e w3 ⟨rfl, k, rfl⟩
  by_cases hFn : F = []
  · have hne : F.isEmpty = true := by rw [hFn]; rfl
    subst hFn
    clear HF
    go_wp2_with fail
    refine (sure_ok _).mono ?_; rintro e w4 ⟨rfl, hB⟩
    go_wp2_with fail
    go_ret
    exact ⟨rfl, (below_drewN HB2.out _).trans (hB.mono (by have := HB2.out.size; simpa using this))⟩
  · obtain ⟨rfl, rfl, rfl⟩ := HF.out hFn
    have hne : G.isEmpty = false := by simpa using hFn
    clear HF
    go_wp2_with fail
    refine (sure_ok _).mono ?_; rintro e w4 ⟨rfl, hB⟩
    go_wp2_with fail
    go_ret
    exact ⟨rfl, (below_drewN HB2.out _).trans (hB.mono (by have := HB2.out.size; simpa using this))⟩
end Go.Proofs.Ytgdgnpjgemcjgaa
