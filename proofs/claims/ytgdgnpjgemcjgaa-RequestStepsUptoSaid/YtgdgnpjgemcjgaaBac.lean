import Derived.Test.YtgdgnpjgemcjgaaBL
namespace Go.Proofs.Ytgdgnpjgemcjgaa
open Go Go.RowKit
def RightRel (w : World) (l : Lim) (reqs : List (List (List UInt8))) (i : Value) (wr : World) : Prop := ∃ k q : Nat, k ≤ reqs.length ∧ i = .int .i64 (k : Int) ∧ wr = w.drewN q ∧ ∀ x ∈ reqs.take k, RightR l x
def RightIn (w : World) (l : Lim) (ws : List (List UInt8)) (i : Value) (wr : World) : Prop := ∃ k q : Nat, k ≤ ws.length ∧ i = .int .i64 (k : Int) ∧ wr = w.drewN q ∧ ∀ x ∈ ws.take k, x.length ≤ l.bulk
theorem take_all {α : Type} {P : α → Prop} {ws : List α} {k : Nat} {x : α} (h : ∀ x ∈ ws.take k, P x) (hx : ws[k]? = some x) (hl : P x) : ∀ x ∈ ws.take (k + 1), P x := by
  intro y hy
  rw [List.take_add_one, hx] at hy
  rcases List.mem_append.1 hy with h1 | h1
  · exact h y h1
  · simp at h1; subst h1; exact hl
instance (l : Lim) (ws : List (List UInt8)) : Decidable (RightR l ws) := by unfold RightR; infer_instance
set_option maxRecDepth 10000 in
set_option maxHeartbeats 4000000 in
theorem right_ok (w : World) (l : Lim) (hl : LimOk l) (reqs : List (List (List UInt8))) (v : Value) (hL : LLIn w v reqs) (hn : reqs.length ≤ 1099511627776) :
    Calls Try.prog 31 #[.agg #[.int .i64 l.bulk, .int .i64 l.args, .int .i64 l.line], v] w fun e w' => e = .returned (.bool (decide (∀ ws ∈ reqs, RightR l ws))) ∧ Below w.heap.size w w' := by
  have hL' := hL.below ((Below.refl w.heap.size w).alloc (Nat.le_refl _) (.cells #[.int .i64 l.bulk, .int .i64 l.args, .int .i64 l.line] 23))
  obtain ⟨a, ca, rfl, ha1, ha2, ha0, ha3⟩ := hL'
  have HB := Lib.hid ((Below.refl w.heap.size w).alloc (Nat.le_refl _) (.cells #[.int .i64 l.bulk, .int .i64 l.args, .int .i64 l.line] 23))
  have hlb := hl.bulk.2
  have hla := hl.args.2
  have HA0 := Lib.hid ha0
  clear hL hl ha0
  go_enter Try.func31, Try.ntmps31
  go_wp2_with fail
  have hw0 : (w.alloc (.cells #[.int .i64 l.bulk, .int .i64 l.args, .int .i64 l.line] 23)).cell? ⟨w.heap.size, 0, none⟩ = some (.int .i64 l.bulk) := by simp [go_sem]
  have hw1 : (w.alloc (.cells #[.int .i64 l.bulk, .int .i64 l.args, .int .i64 l.line] 23)).cell? ⟨w.heap.size, 1, none⟩ = some (.int .i64 l.args) := by simp [go_sem]
  have hsz : w.heap.size < (w.alloc (.cells #[.int .i64 l.bulk, .int .i64 l.args, .int .i64 l.line] 23)).heap.size := by simp
  generalize hW1 : w.alloc (.cells #[.int .i64 l.bulk, .int .i64 l.args, .int .i64 l.line] 23) = w1 at *
  have hat : RightRel w1 l reqs (.int .i64 0) w1 := ⟨0, 0, Nat.zero_le _, rfl, rfl, by simp⟩
  go_loopw [5] (fun i wr => RightRel w1 l reqs i wr) (fun i _ => reqs.length - (intOf i).toNat)
  case atStart => exact hat
  case round =>
    obtain ⟨k, q, hk, rfl, hwq, hI⟩ := hrel
    have HWQ := Lib.hid hwq
    have HI := Lib.hid hI
    clear hat hwq hI
    by_cases hkl : k < reqs.length
    · obtain ⟨ws, hws⟩ : ∃ x, reqs[k]? = some x := ⟨_, List.getElem?_eq_getElem hkl⟩
      rcases ha3 with hnil | ⟨ba, oa, rfl, hba, hca⟩
      · subst hnil; exact absurd hkl (by simp)
      obtain ⟨u, c1', hT'⟩ := hca k ws hws
      have c1 : wr.cell? ⟨ba, oa + k, none⟩ = some u := by rw [HWQ.out, World.cell?_drewN]; exact c1'
      have d0 : wr.cell? ⟨w.heap.size, 0, none⟩ = some (.int .i64 l.bulk) := by rw [HWQ.out, World.cell?_drewN]; exact hw0
      have d1 : wr.cell? ⟨w.heap.size, 1, none⟩ = some (.int .i64 l.args) := by rw [HWQ.out, World.cell?_drewN]; exact hw1
      obtain ⟨au, cu, rfl, hu1, hu2, hu3⟩ := hT'
      have hkI : (0 : Int) ≤ k ∧ (k : Int) < reqs.length := by omega
      obtain ⟨hk0, hk1⟩ := hkI
      have HX := Lib.hid hws
      have hwl := HA0.out ws (List.mem_of_getElem? hws)
      have HCA := Lib.hid hca
      clear hca hws c1'
      by_cases h0 : ws.length = 0
      · have e0 : ((ws.length : Int) == 0) = true := by rw [h0]; rfl
        have D := Lib.hid (show decide (∀ ws ∈ reqs, RightR l ws) = false from by
          rw [decide_eq_false_iff_not]
          intro h; exact (h ws (List.mem_of_getElem? HX.out)).1 (List.eq_nil_of_length_eq_zero h0))
        clear h0
        go_wp2_with fail
        go_quiet (fail)
        go_wp2_with fail
        go_ret
        exact ⟨by rw [D.out]; rfl, by rw [HWQ.out]; exact below_drewN (below_drewN HB.out _) _⟩
      · have e0 : ((ws.length : Int) == 0) = false := beq_eq_false_iff_ne.2 (by omega)
        by_cases h1 : l.args < ws.length
        · have e1 : decide ((l.args : Int) < ws.length) = true := by simpa using h1
          have D := Lib.hid (show decide (∀ ws ∈ reqs, RightR l ws) = false from by
            rw [decide_eq_false_iff_not]
            intro h; have := (h ws (List.mem_of_getElem? HX.out)).2.1; omega)
          go_wp2_with fail
          go_quiet (fail)
          go_wp2_with fail
          go_ret
          exact ⟨by rw [D.out]; rfl, by rw [HWQ.out]; exact below_drewN (below_drewN HB.out _) _⟩
        · have e1 : decide ((l.args : Int) < ws.length) = false := by simp; omega
          go_wp2_with fail
          go_quiet (fail)
          clear e0 e1
          obtain ⟨W2, hW2⟩ : ∃ W2, W2 = wr.drewN nq := ⟨_, rfl⟩
          rw [← hW2]
          have g1 : W2.cell? ⟨ba, oa + k, none⟩ = some (.slice au ws.length cu) := by rw [hW2, World.cell?_drewN]; exact c1
          have g0 : W2.cell? ⟨w.heap.size, 0, none⟩ = some (.int .i64 l.bulk) := by rw [hW2, World.cell?_drewN]; exact d0
          have HW2 := Lib.hid (show W2 = w1.drewN (q + nq) from by rw [hW2, HWQ.out]; exact World.drewN_drewN _ _ _)
          clear c1 d0 d1 hW2 HWQ
          go_wp2_with fail
          go_loopw [6] (fun i wi => RightIn W2 l ws i wi) (fun i _ => ws.length - (intOf i).toNat)
          case atStart => exact ⟨0, 0, Nat.zero_le _, rfl, rfl, by simp⟩
          case round =>
            obtain ⟨j, q2, hj, rfl, hwq2, hI2⟩ := hrel
            have HWQ2 := Lib.hid (show wr = w1.drewN (q + nq + q2) from by rw [hwq2, HW2.out]; exact World.drewN_drewN _ _ _)
            have c1 : wr.cell? ⟨ba, oa + k, none⟩ = some (.slice au ws.length cu) := by rw [hwq2, World.cell?_drewN]; exact g1
            have d0 : wr.cell? ⟨w.heap.size, 0, none⟩ = some (.int .i64 l.bulk) := by rw [hwq2, World.cell?_drewN]; exact g0
            have HI2 := Lib.hid hI2
            have HWQ3 := Lib.hid hwq2
            clear hwq2 hI2
            by_cases hjl : j < ws.length
            · obtain ⟨x, hx⟩ : ∃ x, ws[j]? = some x := ⟨_, List.getElem?_eq_getElem hjl⟩
              rcases hu3 with hnil | ⟨bu, ou, rfl, hbu, hcu⟩
              · subst hnil; exact absurd hjl (by simp)
              have c2 : wr.cell? ⟨bu, ou + j, none⟩ = some (.string ⟨x.toArray⟩) := by rw [HWQ2.out, World.cell?_drewN]; exact hcu j x hx
              have hxsz : (⟨x.toArray⟩ : ByteArray).size = x.length := by simp [ByteArray.size]
              have hjI : (0 : Int) ≤ j ∧ (j : Int) < ws.length := by omega
              obtain ⟨hj0, hj1⟩ := hjI
              have HXJ := Lib.hid hx
              have HCU := Lib.hid hcu
              clear hcu hx
              by_cases h2 : l.bulk < x.length
              · have e2 : decide ((l.bulk : Int) < x.length) = true := by simpa using h2
                have D := Lib.hid (show decide (∀ ws ∈ reqs, RightR l ws) = false from by
                  rw [decide_eq_false_iff_not]
                  intro h; have := (h ws (List.mem_of_getElem? HX.out)).2.2 x (List.mem_of_getElem? HXJ.out); omega)
                go_wp2_with fail
                go_quiet (fail)
                go_wp2_with fail
                go_ret
                exact ⟨by rw [D.out]; rfl, by rw [HWQ2.out]; exact below_drewN (below_drewN HB.out _) _⟩
              · have e2 : decide ((l.bulk : Int) < x.length) = false := by simp; omega
                have HN := Lib.hid (take_all HI2.out HXJ.out (Nat.le_of_not_lt h2))
                go_wp2_with fail
                go_quiet (fail)
                go_wp2_with fail
                go_roundw
                case rel => exact ⟨j + 1, _, by omega, by go_num, by rw [HWQ3.out]; exact World.drewN_drewN _ _ _, HN.out⟩
                case measure => simp [intOf]; omega
            · have hne : ws ≠ [] := fun e => h0 (by rw [e]; rfl)
              have hall := HI2.out
              rw [List.take_of_length_le (by omega)] at hall
              have HN := Lib.hid (take_all HI.out HX.out ⟨hne, by omega, hall⟩)
              clear hall
              go_wp2_with fail
              go_roundw
              case rel => exact ⟨k + 1, _, by omega, by go_num, HWQ2.out, HN.out⟩
              case measure => simp [intOf]; omega
    · have D := Lib.hid (show decide (∀ ws ∈ reqs, RightR l ws) = true from by
        have h := HI.out
        rw [List.take_of_length_le (by omega)] at h
        rw [decide_eq_true_iff]; exact h)
      clear ha3
      go_wp2_with fail
      go_ret
      exact ⟨by rw [D.out]; rfl, by rw [HWQ.out]; exact below_drewN HB.out _⟩
end Go.Proofs.Ytgdgnpjgemcjgaa
