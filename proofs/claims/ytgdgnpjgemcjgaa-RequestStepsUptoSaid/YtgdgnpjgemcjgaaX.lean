import Derived.Test.YtgdgnpjgemcjgaaW
namespace Go.Proofs.Ytgdgnpjgemcjgaa
open Go Go.RowKit
theorem TextsIn.drewN {w : World} {v : Value} {ws : List (List UInt8)} (h : TextsIn w v ws) (n : Nat) : TextsIn (w.drewN n) v ws := h.below ((Below.refl _ _) |> fun h => ⟨h.os, h.tape, h.output, h.size, h.block⟩)
def SameRel (w : World) (xs ys : List (List UInt8)) (i : Value) (wr : World) : Prop := ∃ (k q : Nat), i = .int .i64 (k : Int) ∧ wr = w.drewN q ∧ k ≤ xs.length ∧ xs.take k = ys.take k
theorem take_same {α : Type} {xs ys : List α} {k : Nat} {x : α} (h : xs.take k = ys.take k) (hx : xs[k]? = some x) (hy : ys[k]? = some x) : xs.take (k + 1) = ys.take (k + 1) := by
  rw [List.take_add_one, List.take_add_one, h, hx, hy]
set_option maxHeartbeats 1000000 in
theorem same_ok {w : World} {va vb : Value} {xs ys : List (List UInt8)} (ha : TextsIn w va xs) (hb : TextsIn w vb ys) (hl : xs.length ≤ 1099511627776) :
    Calls Try.prog 19 #[va, vb] w fun e w' => e = .returned (.bool (decide (xs = ys))) ∧ ∃ k, w' = w.drewN k := by
  obtain ⟨a, ca, rfl, ha1, ha2, ha3⟩ := ha
  obtain ⟨b, cb, rfl, hb1, hb2, hb3⟩ := hb
  by_cases hlen : xs.length = ys.length
  · have hne : ((xs.length : Int) != (ys.length : Int)) = false := by simp [hlen]
    have hlen' := Lib.hid hlen
    have hat : SameRel w xs ys (.int .i64 0) w := ⟨0, 0, rfl, rfl, Nat.zero_le _, by simp⟩
    rw [← hlen] at hb1 ⊢
    clear hlen hne
    go_enter Try.func19, Try.ntmps19
    go_wp2_with fail
    go_loopw [5] (fun i wr => SameRel w xs ys i wr) (fun i _ => xs.length - (intOf i).toNat)
    case atStart => exact hat
    case round =>
      obtain ⟨k, q, rfl, rfl, hk, hI⟩ := hrel
      clear hat
      have HI := Lib.hid hI
      clear hI
      by_cases hkl : k < xs.length
      · rcases ha3 with hnil | ⟨ba, oa, rfl, hba, hca⟩
        · subst hnil; exact absurd hkl (by simp)
        rcases hb3 with hnil | ⟨bb, ob, rfl, hbb, hcb⟩
        · exfalso; have := hlen'.out; rw [hnil, List.length_nil] at this; omega
        obtain ⟨x, hx⟩ : ∃ x, xs[k]? = some x := ⟨_, List.getElem?_eq_getElem hkl⟩
        obtain ⟨y, hy⟩ : ∃ y, ys[k]? = some y := ⟨_, List.getElem?_eq_getElem (by have := hlen'.out; omega)⟩
        have c1 := hca k x hx
        have c2 := hcb k y hy
        have hkI : (0 : Int) ≤ k ∧ (k : Int) < xs.length := by omega
        obtain ⟨hk0, hk1⟩ := hkI
        have HX := Lib.hid hx
        have HY := Lib.hid hy
        clear hca hcb hx hy
        by_cases hxy : x = y
        · subst hxy
          have hN := Lib.hid (take_same HI.out HX.out HY.out)
          go_wp2_with fail
          go_quiet (fail)
          go_wp2_with fail
          go_roundw
          case rel => exact ⟨k + 1, _, by go_num, by first | rfl | exact World.drewN_drewN _ _ _, by omega, hN.out⟩
          case measure => simp [intOf]; omega
        · have hne : (x == y) = false := by simpa using hxy
          have D : decide (xs = ys) = false := by
            have h1 := HX.out
            have h2 := HY.out
            simp only [decide_eq_false_iff_not]
            intro e; subst e; rw [h1] at h2; cases h2; exact hxy rfl
          have HD := Lib.hid D
          clear D
          go_wp2_with fail
          go_quiet (fail)
          go_wp2_with fail
          go_ret
          exact ⟨by rw [HD.out]; rfl, q + nq, by first | rfl | exact World.drewN_drewN _ _ _⟩
      · have D : decide (xs = ys) = true := by
          have h := HI.out
          have h2 := hlen'.out
          rw [List.take_of_length_le (by omega), List.take_of_length_le (by omega)] at h
          simpa using h
        have HD := Lib.hid D
        clear D ha3 hb3
        go_wp2_with fail
        go_ret
        exact ⟨by rw [HD.out]; rfl, q, rfl⟩
  · have hne : ((xs.length : Int) != (ys.length : Int)) = true := by simp; omega
    have D : decide (xs = ys) = false := by simp only [decide_eq_false_iff_not]; intro e; exact hlen (by rw [e])
    have HD := Lib.hid D
    clear D ha3 hb3 hlen
    go_enter Try.func19, Try.ntmps19
    go_wp2_with fail
    go_ret
    exact ⟨by rw [HD.out]; rfl, 0, rfl⟩

/-- A list of lists of texts that can be read. -/
def LLIn (w : World) (v : Value) (reqs : List (List (List UInt8))) : Prop :=
  ∃ a cap, v = .slice a reqs.length cap ∧ reqs.length ≤ cap ∧ cap ≤ maxLen ∧ (∀ ws ∈ reqs, ws.length ≤ 1099511627776) ∧ (reqs = [] ∨ ∃ b off, a = some ⟨b, off, none⟩ ∧ b < w.heap.size ∧ ∀ (k : Nat) ws, reqs[k]? = some ws → ∃ u, w.cell? ⟨b, off + k, none⟩ = some u ∧ TextsIn w u ws)
theorem LLIn.below {w w' : World} {v : Value} {reqs : List (List (List UInt8))} (h : LLIn w v reqs) (hB : Below w.heap.size w w') : LLIn w' v reqs := by
  obtain ⟨a, cap, h1, h2, h3, h0, h4⟩ := h
  refine ⟨a, cap, h1, h2, h3, h0, ?_⟩
  rcases h4 with h4 | ⟨b, off, h5, h6, h7⟩
  · exact .inl h4
  · refine .inr ⟨b, off, h5, by have := hB.size; omega, fun k x hk => ?_⟩
    obtain ⟨u, h8, h9⟩ := h7 k x hk
    exact ⟨u, by rw [hB.cell (p := ⟨b, off + k, none⟩) h6]; exact h8, h9.below hB⟩
theorem LLIn.drewN {w : World} {v : Value} {reqs : List (List (List UInt8))} (h : LLIn w v reqs) (n : Nat) : LLIn (w.drewN n) v reqs := h.below ((Below.refl _ _) |> fun h => ⟨h.os, h.tape, h.output, h.size, h.block⟩)
theorem LL.llIn {o : Roles} {w : World} {r : List Nat} {f : Nat → List Nat} {v : Value} {reqs : List (List (List UInt8))} (h : LL o w r f v reqs) (h0 : ∀ ws ∈ reqs, ws.length ≤ 1099511627776) : LLIn w v reqs := by
  obtain ⟨vs, h1, h2, h3⟩ := h
  rcases h1.form with ⟨rfl, h4, h5⟩ | ⟨g, cap, cur, rfl, hb, h5, h6, h7, h8⟩
  · have : reqs = [] := List.eq_nil_of_length_eq_zero (by omega)
    subst this
    exact ⟨none, 0, rfl, Nat.le_refl _, by simp, h0, .inl rfl⟩
  · refine ⟨some ⟨g, 0, none⟩, cap, by rw [h2], by omega, h6, h0, .inr ⟨g, 0, rfl, hb.lt, fun k ws hk => ?_⟩⟩
    have hkl : k < reqs.length := (List.getElem?_eq_some_iff.1 hk).1
    obtain ⟨u, hu⟩ : ∃ u, vs[k]? = some u := ⟨_, List.getElem?_eq_getElem (by omega)⟩
    refine ⟨u, ?_, (h3 k u ws hu hk).textsIn⟩
    rw [Nat.zero_add, hb.cell, ← Array.getElem?_toList, ← hu, ← h8, List.getElem?_take, if_pos (by omega)]
def AllRel (w : World) (xs ys : List (List (List UInt8))) (i : Value) (wr : World) : Prop := ∃ (k q : Nat), i = .int .i64 (k : Int) ∧ wr = w.drewN q ∧ k ≤ xs.length ∧ xs.take k = ys.take k
set_option maxHeartbeats 1000000 in
theorem all_ok {w : World} {va vb : Value} {xs ys : List (List (List UInt8))} (ha : LLIn w va xs) (hb : LLIn w vb ys) (hl : xs.length ≤ 1099511627776) :
    Calls Try.prog 13 #[va, vb] w fun e w' => e = .returned (.bool (decide (xs = ys))) ∧ ∃ k, w' = w.drewN k := by
  obtain ⟨a, ca, rfl, ha1, ha2, ha0, ha3⟩ := ha
  obtain ⟨b, cb, rfl, hb1, hb2, hb0, hb3⟩ := hb
  by_cases hlen : xs.length = ys.length
  · have hne : ((xs.length : Int) != (ys.length : Int)) = false := by simp [hlen]
    have hlen' := Lib.hid hlen
    have ha0' := Lib.hid ha0
    have hat : AllRel w xs ys (.int .i64 0) w := ⟨0, 0, rfl, rfl, Nat.zero_le _, by simp⟩
    rw [← hlen] at hb1 ⊢
    clear hlen hne ha0 hb0
    go_enter Try.func13, Try.ntmps13
    go_wp2_with fail
    go_loopw [5] (fun i wr => AllRel w xs ys i wr) (fun i _ => xs.length - (intOf i).toNat)
    case atStart => exact hat
    case round =>
      obtain ⟨k, q, rfl, hwq, hk, hI⟩ := hrel
      have HWQ := Lib.hid hwq
      clear hwq
      clear hat
      have HI := Lib.hid hI
      clear hI
      by_cases hkl : k < xs.length
      · rcases ha3 with hnil | ⟨ba, oa, rfl, hba, hca⟩
        · subst hnil; exact absurd hkl (by simp)
        rcases hb3 with hnil | ⟨bb, ob, rfl, hbb, hcb⟩
        · exfalso; have := hlen'.out; rw [hnil, List.length_nil] at this; omega
        obtain ⟨x, hx⟩ : ∃ x, xs[k]? = some x := ⟨_, List.getElem?_eq_getElem hkl⟩
        obtain ⟨y, hy⟩ : ∃ y, ys[k]? = some y := ⟨_, List.getElem?_eq_getElem (by have := hlen'.out; omega)⟩
        obtain ⟨u1, c1', hT1'⟩ := hca k x hx
        obtain ⟨u2, c2', hT2'⟩ := hcb k y hy
        have c1 : wr.cell? ⟨ba, oa + k, none⟩ = some u1 := by rw [HWQ.out, World.cell?_drewN]; exact c1'
        have c2 : wr.cell? ⟨bb, ob + k, none⟩ = some u2 := by rw [HWQ.out, World.cell?_drewN]; exact c2'
        have hT1 : TextsIn wr u1 x := by rw [HWQ.out]; exact hT1'.drewN q
        have hT2 : TextsIn wr u2 y := by rw [HWQ.out]; exact hT2'.drewN q
        have hkI : (0 : Int) ≤ k ∧ (k : Int) < xs.length := by omega
        obtain ⟨hk0, hk1⟩ := hkI
        have HX := Lib.hid hx
        have HY := Lib.hid hy
        have hxl := ha0'.out x (List.mem_of_getElem? hx)
        have HS := Lib.hid (fun n => same_ok (hT1.drewN n) (hT2.drewN n) hxl)
        clear hca hcb hx hy hT1 hT2 c1' c2' hT1' hT2'
        by_cases hxy : x = y
        · subst hxy
          have hN := Lib.hid (take_same HI.out HX.out HY.out)
          have hd : decide (x = x) = true := by simp
          rw [hd] at HS
          clear hd
          go_wp2_with fail
          go_quiet ((go_at_call 19; exact Calls.quiet_of (HS.out _)))
          go_wp2_with fail
          go_roundw
          case rel => exact ⟨k + 1, _, by go_num, by rw [HWQ.out]; exact World.drewN_drewN _ _ _, by omega, hN.out⟩
          case measure => simp [intOf]; omega
        · have hd : decide (x = y) = false := by simpa using hxy
          rw [hd] at HS
          clear hd
          have D : decide (xs = ys) = false := by
            have h1 := HX.out
            have h2 := HY.out
            simp only [decide_eq_false_iff_not]
            intro e; subst e; rw [h1] at h2; cases h2; exact hxy rfl
          have HD := Lib.hid D
          clear D
          go_wp2_with fail
          go_quiet ((go_at_call 19; exact Calls.quiet_of (HS.out _)))
          go_wp2_with fail
          go_ret
          exact ⟨by rw [HD.out]; rfl, q + nq, by rw [HWQ.out]; exact World.drewN_drewN _ _ _⟩
      · have D : decide (xs = ys) = true := by
          have h := HI.out
          have h2 := hlen'.out
          rw [List.take_of_length_le (by omega), List.take_of_length_le (by omega)] at h
          simpa using h
        have HD := Lib.hid D
        clear D ha3 hb3
        go_wp2_with fail
        go_ret
        exact ⟨by rw [HD.out]; rfl, q, HWQ.out⟩
  · have hne : ((xs.length : Int) != (ys.length : Int)) = true := by simp; omega
    have D : decide (xs = ys) = false := by simp only [decide_eq_false_iff_not]; intro e; exact hlen (by rw [e])
    have HD := Lib.hid D
    clear D ha3 hb3 hlen ha0 hb0
    go_enter Try.func13, Try.ntmps13
    go_wp2_with fail
    go_ret
    exact ⟨by rw [HD.out]; rfl, 0, rfl⟩
theorem limits_ok (w : World) : Calls Try.prog 32 #[] w fun e w' => e = .returned (limV 10 3 32) ∧ Below w.heap.size w w' := by
  go_enter Try.func32, Try.ntmps32
  go_wp2
  exact bodyPost_ret (v := limV 10 3 32) (by simp [results, Try.results32, go_sem, limV]) rfl ⟨rfl, by repeat (first | exact Below.refl _ _ | exact (Below.refl _ _).alloc (Nat.le_refl _) _ | refine Below.setCell ?_ (by simp) _)⟩
end Go.Proofs.Ytgdgnpjgemcjgaa
