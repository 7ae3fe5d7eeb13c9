import Derived.Test.YtgdgnpjgemcjgaaZX
import Derived.Deep.RegionHeld
namespace Go.Proofs.Ytgdgnpjgemcjgaa
open Go Go.RowKit
theorem thingR_args {l : Lim} {s r : List UInt8} {ws : List (List UInt8)} (h : thingR l s = .ok ws r) : ws.length ≤ l.args := by
  rw [thingR] at h
  cases hq : lineR l.line s with
  | more => rw [hq] at h; cases h
  | bad => rw [hq] at h; cases h
  | ok t q =>
    rw [hq] at h
    simp only at h
    split at h
    · cases hn : countR l.args (trim13 t).tail with
      | none => rw [hn] at h; cases h
      | some n =>
        rw [hn] at h
        have := (bulksR_len n h).1
        have h2 := countR_le hn
        omega
    · cases hn : splitL (trim13 t) with
      | none => rw [hn] at h; cases h
      | some n =>
        rw [hn] at h
        simp only at h
        split at h
        · cases h
        · split at h
          · cases h
          · cases h; omega
theorem reqF_args {l : Lim} : ∀ (n : Nat) {s r rr : List UInt8} {ws : List (List UInt8)}, reqF l n s = (.ok ws r, rr) → ws.length ≤ l.args
  | 0, s, r, rr, ws, h => by cases h
  | n + 1, s, r, rr, ws, h => by
    rw [reqF] at h
    cases hq : thingR l s with
    | more => rw [hq] at h; cases h
    | fault w' => rw [hq] at h; cases h
    | ok ws' r' =>
      have := thingR_args hq
      rw [hq] at h
      cases ws' with
      | nil => exact reqF_args n h
      | cons a t => cases h; exact this
theorem next_args {R R' : RI} {ws : List (List UInt8)} (h : R.next = (.one ws, R')) : ws.length ≤ R.l.args ∧ R'.l = R.l := by
  unfold RI.next at h
  split at h
  · cases h
  · split at h
    · rename_i ws' r' rest heq
      cases h
      exact ⟨reqF_args _ heq, rfl⟩
    · cases h
    · cases h
theorem wholeF_args : ∀ (n : Nat) (R : RI), ∀ ws ∈ (wholeF n R).1, ws.length ≤ R.l.args
  | 0, R, ws, h => by simp [wholeF] at h
  | n + 1, R, ws, h => by
    rw [wholeF] at h
    rcases hq : R.next with ⟨x, R'⟩
    rw [hq] at h
    cases x with
    | more => simp at h
    | fault => simp at h
    | one ws' =>
      have := next_args hq
      simp only [List.mem_cons] at h
      rcases h with rfl | h
      · exact this.1
      · have h2 := wholeF_args n R' ws h
        rw [this.2] at h2
        exact h2
theorem wholeF_len : ∀ (n : Nat) (R : RI), (wholeF n R).1.length ≤ R.held.length
  | 0, R => by simp [wholeF]
  | n + 1, R => by
    rw [wholeF]
    rcases hq : R.next with ⟨x, R'⟩
    cases x with
    | more => simp
    | fault => simp
    | one ws' =>
      have := next_len hq
      have := wholeF_len n R'
      simp only [List.length_cons]
      omega
instance (b a n : Int) : Decidable (LimI b a n) := by unfold LimI; infer_instance
/-- What Whole says, with limits as they come. -/
def wholeX (b a n : Int) (s : List UInt8) : List (List (List UInt8)) × List UInt8 × Nat :=
  if LimI b a n then ((wholeR (start (limL b a n) s)).1, (wholeR (start (limL b a n) s)).2.fault, (wholeR (start (limL b a n) s)).2.used) else ([], [], 0)
def checkX (b a n : Int) : Int :=
  if LimI b a n then 0 else 40
theorem wholeX_pos {b a n : Int} (s : List UInt8) (h : LimI b a n) : wholeX b a n s = ((wholeR (start (limL b a n) s)).1, (wholeR (start (limL b a n) s)).2.fault, (wholeR (start (limL b a n) s)).2.used) := by unfold wholeX; rw [if_pos h]
theorem wholeX_neg {b a n : Int} (s : List UInt8) (h : ¬ LimI b a n) : wholeX b a n s = ([], [], 0) := by unfold wholeX; rw [if_neg h]
theorem limL_args {b a n : Int} (h : LimI b a n) : (limL b a n).args ≤ 65536 := by
  obtain ⟨_, ⟨h3, h4⟩, _⟩ := h
  show a.toNat ≤ 65536
  omega
def WX (b a n : Int) (s : List UInt8) (W : World) (e : Ending) (w' : World) : Prop :=
  ∃ va vn vc, e = .returned (.tuple #[.slice va vn vc, .string ⟨(wholeX b a n s).2.1.toArray⟩, .int .i64 (wholeX b a n s).2.2]) ∧ LLIn w' (.slice va vn vc) (wholeX b a n s).1 ∧ Below W.heap.size W w'
theorem LLIn.nil (w : World) : LLIn w (.slice none 0 0) [] := ⟨none, 0, rfl, Nat.le_refl _, by simp, by simp, .inl rfl⟩
theorem whole_x (b a n : Int) (s : List UInt8) (hs : s.length ≤ 1099511627776) (W : World) : Calls Try.prog 11 #[limV b a n, .string ⟨s.toArray⟩] W (WX b a n s W) := by
  by_cases h : LimI b a n
  · refine (whole_ok h none0 W [11] s hs).mono ?_
    rintro e w' ⟨v, o', rfl, hL, hst⟩
    have hI := hL.llIn (fun ws hw => Nat.le_trans (wholeF_args _ _ ws hw) (Nat.le_trans (limL_args h) (by decide)))
    obtain ⟨va, vc, hv, _⟩ := id hI
    subst hv
    exact ⟨va, _, vc, by rw [wholeX_pos s h], by rw [wholeX_pos s h]; exact hI, hst.below0⟩
  · refine (whole_bad h W s).mono ?_
    rintro e w' ⟨rfl, hB⟩
    exact ⟨none, 0, 0, by rw [wholeX_neg s h]; rfl, by rw [wholeX_neg s h]; exact .nil _, hB⟩
theorem rwhole_x (b a n : Int) (s : List UInt8) (hs : s.length ≤ 1099511627776) (W : World) : Calls Try.prog 12 #[limV b a n, .string ⟨s.toArray⟩] W (WX b a n s W) := by
  by_cases h : LimI b a n
  · refine (rwhole_ok h none0 W [11] s hs).mono ?_
    rintro e w' ⟨v, o', rfl, hL, hst⟩
    have hI := hL.llIn (fun ws hw => Nat.le_trans (wholeF_args _ _ ws hw) (Nat.le_trans (limL_args h) (by decide)))
    obtain ⟨va, vc, hv, _⟩ := id hI
    subst hv
    exact ⟨va, _, vc, by rw [wholeX_pos s h], by rw [wholeX_pos s h]; exact hI, hst.below0⟩
  · refine (rwhole_bad h W s).mono ?_
    rintro e w' ⟨rfl, hB⟩
    exact ⟨none, 0, 0, by rw [wholeX_neg s h]; rfl, by rw [wholeX_neg s h]; exact .nil _, hB⟩
theorem check_x (b a n : Int) (W : World) : Calls Try.prog 14 #[limV b a n] W fun e w' => e = .returned (.int .i64 (checkX b a n)) ∧ Below W.heap.size W w' := by
  unfold checkX
  by_cases h : LimI b a n
  · rw [if_pos h]; exact check_ok h W
  · rw [if_neg h]; exact check_bad h W
theorem rcheck_x (b a n : Int) (W : World) : Calls Try.prog 15 #[limV b a n] W fun e w' => e = .returned (.int .i64 (checkX b a n)) ∧ Below W.heap.size W w' := by
  unfold checkX
  by_cases h : LimI b a n
  · rw [if_pos h]; exact rcheck_ok h W
  · rw [if_neg h]; exact rcheck_bad h W
theorem wholeX_len (b a n : Int) (s : List UInt8) : (wholeX b a n s).1.length ≤ s.length := by
  by_cases h : LimI b a n
  · rw [wholeX_pos s h]; exact wholeF_len _ _
  · rw [wholeX_neg s h]; simp
set_option maxRecDepth 10000 in
set_option maxHeartbeats 4000000 in
theorem whole_law (w : World) (b a n : Int) (s : List UInt8) (hs : s.length ≤ 1048576) : Calls Try.prog 3 #[limV b a n, .string ⟨s.toArray⟩] w fun e w' => e = .returned (.bool true) ∧ Below w.heap.size w w' := by
  have H1 := Lib.hid (fun W => whole_x b a n s (by omega) W)
  have H2 := Lib.hid (fun W => rwhole_x b a n s (by omega) W)
  have HC1 := Lib.hid (fun W => check_x b a n W)
  have HC2 := Lib.hid (fun W => rcheck_x b a n W)
  have hxl := wholeX_len b a n s
  unfold limV at *
  unfold WX at *
  generalize wholeX b a n s = X at *
  obtain ⟨X1, F, U⟩ := X
  dsimp only at *
  go_enter Try.func3, Try.ntmps3
  go_wp2_with fail
  refine (H1.out _).mono ?_; rintro e w1 ⟨va, vn, vc, rfl, hL1, hB1⟩
  obtain ⟨hc1, _⟩ := bcell hB1
  have HL1 := Lib.hid hL1
  have HB1 := Lib.hid (((Below.refl w.heap.size w).alloc (Nat.le_refl _) _).trans (hB1.mono (by simp)))
  have hz1 : w.heap.size < w1.heap.size := by have := hB1.size; simp at this; omega
  have hx0 : w1.cell? ⟨w.heap.size, 0, none⟩ = some (.int .i64 b) := by rw [hc1 _ _ (by simp)]; simp [go_sem]
  have hx1 : w1.cell? ⟨w.heap.size, 1, none⟩ = some (.int .i64 a) := by rw [hc1 _ _ (by simp)]; simp [go_sem]
  have hx2 : w1.cell? ⟨w.heap.size, 2, none⟩ = some (.int .i64 n) := by rw [hc1 _ _ (by simp)]; simp [go_sem]
  clear hc1 hB1 hL1
  go_wp2_with fail
  refine (H2.out _).mono ?_; rintro e w2 ⟨ub, un, uc, rfl, hL2, hB2⟩
  have hy0 : w2.cell? ⟨w.heap.size, 0, none⟩ = some (.int .i64 b) := by rw [(bcell hB2).1 _ _ hz1]; exact hx0
  have hy1 : w2.cell? ⟨w.heap.size, 1, none⟩ = some (.int .i64 a) := by rw [(bcell hB2).1 _ _ hz1]; exact hx1
  have hy2 : w2.cell? ⟨w.heap.size, 2, none⟩ = some (.int .i64 n) := by rw [(bcell hB2).1 _ _ hz1]; exact hx2
  have hz2 : w.heap.size < w2.heap.size := Nat.lt_of_lt_of_le hz1 hB2.size
  have HB2 := Lib.hid (HB1.out.trans (hB2.mono HB1.out.size))
  have hX1 : X1.length ≤ 1099511627776 := by omega
  have hL12 := HL1.out.below hB2
  have HALL := Lib.hid (fun (W : World) (hW : Below w2.heap.size w2 W) => all_same (xs := X1) (hL12.below hW) (hL2.below hW) hX1)
  clear hx0 hx1 hx2 hB2 hL2 hz1 hL12
  have hFF := Lib.hid (rfl : F = F)
  go_wp2_with fail
  go_region_held (fun W => W.cell? ⟨w.heap.size, 0, none⟩ = some (.int .i64 b) ∧ W.cell? ⟨w.heap.size, 1, none⟩ = some (.int .i64 a) ∧ W.cell? ⟨w.heap.size, 2, none⟩ = some (.int .i64 n))
    (first | exact ⟨hy0, hy1, hy2⟩ | exact ⟨k0, k1, k2⟩ | exact ⟨m0, m1, m2⟩ | exact ⟨n0, n1, n2⟩ | (refine ⟨?_, ?_, ?_⟩ <;> (go_simp; done))) (first
    | (go_at_call 13; (with_reducible refine (HALL.out _ ?_).mono ?_); exact (Below.refl _ _).drew; rintro e w3 ⟨rfl, k3, rfl⟩)
    | (go_at_call 14
       (with_reducible refine (HC1.out _).mono ?_)
       rintro e w3 ⟨rfl, hB3⟩
       have k0 : w3.cell? ⟨w.heap.size, 0, none⟩ = some (.int .i64 b) := by rw [(bcell hB3).1 _ _ (by simpa using hz2)]; simpa [go_sem, World.cell?_drewN] using hy0
       have k1 : w3.cell? ⟨w.heap.size, 1, none⟩ = some (.int .i64 a) := by rw [(bcell hB3).1 _ _ (by simpa using hz2)]; simpa [go_sem, World.cell?_drewN] using hy1
       have k2 : w3.cell? ⟨w.heap.size, 2, none⟩ = some (.int .i64 n) := by rw [(bcell hB3).1 _ _ (by simpa using hz2)]; simpa [go_sem, World.cell?_drewN] using hy2
       have hz3 : w.heap.size < w3.heap.size := Nat.lt_of_lt_of_le (by simpa using hz2) hB3.size
       have HB3 := Lib.hid (show Below w.heap.size w w3 from Below.trans (by repeat (first | exact HB2.out | refine Below.drew ?_ | refine below_drewN ?_ _)) (hB3.mono (by first | omega | (simp; omega))))
       clear hB3)
    | (go_at_call 15
       (with_reducible refine (HC2.out _).mono ?_)
       rintro e w4 ⟨rfl, hB4⟩
       have m0 : w4.cell? ⟨w.heap.size, 0, none⟩ = some (.int .i64 b) := by rw [(bcell hB4).1 _ _ (by simpa using hz3)]; simpa [go_sem, World.cell?_drewN] using k0
       have m1 : w4.cell? ⟨w.heap.size, 1, none⟩ = some (.int .i64 a) := by rw [(bcell hB4).1 _ _ (by simpa using hz3)]; simpa [go_sem, World.cell?_drewN] using k1
       have m2 : w4.cell? ⟨w.heap.size, 2, none⟩ = some (.int .i64 n) := by rw [(bcell hB4).1 _ _ (by simpa using hz3)]; simpa [go_sem, World.cell?_drewN] using k2
       have hz4 : w.heap.size < w4.heap.size := Nat.lt_of_lt_of_le (by simpa using hz3) hB4.size
       have HB4 := Lib.hid (show Below w.heap.size w w4 from Below.trans (by repeat (first | exact HB3.out | refine Below.drew ?_ | refine below_drewN ?_ _)) (hB4.mono (by first | omega | (simp; omega))))
       clear hB4)
    | (go_at_call 16
       (with_reducible refine (sure_ok _).mono ?_)
       rintro e w5 ⟨rfl, hB5⟩
       have n0 : w5.cell? ⟨w.heap.size, 0, none⟩ = some (.int .i64 b) := by rw [(bcell hB5).1 _ _ (by simpa using hz4)]; simpa [go_sem, World.cell?_drewN] using m0
       have n1 : w5.cell? ⟨w.heap.size, 1, none⟩ = some (.int .i64 a) := by rw [(bcell hB5).1 _ _ (by simpa using hz4)]; simpa [go_sem, World.cell?_drewN] using m1
       have n2 : w5.cell? ⟨w.heap.size, 2, none⟩ = some (.int .i64 n) := by rw [(bcell hB5).1 _ _ (by simpa using hz4)]; simpa [go_sem, World.cell?_drewN] using m2
       have HB5 := Lib.hid (show Below w.heap.size w w5 from Below.trans (by repeat (first | exact HB4.out | refine Below.drew ?_ | refine below_drewN ?_ _)) (hB5.mono (by first | omega | (simp; omega))))
       clear hB5))
  go_wp2_with fail
  go_ret
  exact ⟨rfl, by repeat (first | exact HB5.out | refine Below.drew ?_ | refine below_drewN ?_ _)⟩
end Go.Proofs.Ytgdgnpjgemcjgaa
