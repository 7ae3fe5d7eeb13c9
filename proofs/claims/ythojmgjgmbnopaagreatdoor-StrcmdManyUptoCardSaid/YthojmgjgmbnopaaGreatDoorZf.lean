import Derived.Test.YthojmgjgmbnopaaGreatDoorZe
import Derived.Test.YthojmgjgmbnopaaGreatDoorRb
namespace Go.Proofs.YthojmgjgmbnopaaGreatDoor
open Go Go.RowKit
/-! Replies without lists that are the same; rows of replies; what a tick shows. -/
set_option maxRecDepth 10000 in
theorem r3samel_nil (w : World) (a b : Option Addr) (ca cb : Nat) : Calls Tryz.prog 90 #[.slice a 0 ca, .slice b 0 cb] w fun e w' => e = .returned (.bool true) ∧ w' = w := by
  go_enter Tryz.func90, Tryz.ntmps90
  go_wp2_with fail
  go_loopw [5] (fun i wr => i = .int .i64 0 ∧ w = wr) (fun _ _ => 0)
  case atStart => exact ⟨rfl, rfl⟩
  case round =>
    obtain ⟨rfl, rfl⟩ := hrel
    go_wp2_with fail
    go_ret
    exact ⟨rfl, rfl⟩
set_option maxRecDepth 10000 in
set_option maxHeartbeats 1000000 in
theorem r3same_eq (w : World) (k : Int) (t : ByteArray) (n : Int) (a b : Option Addr) (ca cb : Nat) : Calls Tryz.prog 56 #[.agg #[.int .i64 k, .string t, .int .i64 n, .slice a 0 ca], .agg #[.int .i64 k, .string t, .int .i64 n, .slice b 0 cb]] w fun e w' => e = .returned (.bool true) ∧ Below w.heap.size w w' := by
  have HL := Lib.hid (fun W => r3samel_nil W a b ca cb)
  go_enter Tryz.func56, Tryz.ntmps56
  go_wp2_with fail
  refine (HL.out _).mono ?_; rintro e w2 ⟨rfl, rfl⟩
  go_wp2_with fail
  go_ret
  exact ⟨rfl, ((Below.refl _ _).alloc (Nat.le_refl _) _).alloc (by simp) _⟩
theorem vw_rfs {A : Nat → Prop} {w : World} {v : Value} {n : Nat} {X : List Rf} (h : Vw A w v 4 n (rfsC X)) {k : Nat} {y : Rf} (hy : X[k]? = some y) : ∃ b off cap, v = .slice (some ⟨b, off, none⟩) n cap ∧ n ≤ cap ∧ b < w.heap.size ∧ A b ∧
    ∀ (k : Nat) (y : Rf), X[k]? = some y → ∀ (j : Nat) (u : Value), (rfC y)[j]? = some u → w.cell? ⟨b, off + k * 4 + j, none⟩ = some u := by
  have hlen : X.length = n := by have := h.len; rw [rfsC_len] at this; omega
  have hk : k < X.length := (List.getElem?_eq_some_iff.1 hy).1
  obtain ⟨⟨a', c', e, h1, h2, h3⟩, h4⟩ := h
  subst e
  rcases h3 with h3 | ⟨b, off, rfl, g5, g6, g7⟩
  · omega
  refine ⟨b, off, c', rfl, h1, g5, g6, fun k y hy j u hj => ?_⟩
  have hk : k < X.length := (List.getElem?_eq_some_iff.1 hy).1
  have hd : X = X.take k ++ y :: X.drop (k + 1) := by
    have e1 : X.drop k = y :: X.drop (k + 1) := by
      rw [List.drop_eq_getElem_cons hk]
      congr 1
      rw [List.getElem?_eq_getElem hk] at hy
      cases hy; rfl
    rw [← e1, List.take_append_drop]
  have hj2 : j < 4 := (List.getElem?_eq_some_iff.1 hj).1
  have := g7 (k * 4 + j) u (by
    rw [hd, rfsC_app, List.getElem?_append_right (by rw [rfsC_len, List.length_take]; omega)]
    rw [rfsC_len, List.length_take, Nat.min_eq_left (Nat.le_of_lt hk)]
    show (rfC y ++ rfsC (X.drop (k + 1)))[_]? = _
    rw [show k * 4 + j - k * 4 = j by omega, List.getElem?_append_left (by simpa using hj2)]
    exact hj)
  rw [← Nat.add_assoc] at this; exact this
/-- A tick that is too low or too high shows what the lowest or the highest shows. -/
theorem at_clamp {o : Roles} {w : World} {q : List Nat} {p : Nat} {c : Cnt} {S : SP} (h : SpJ o w q p S c) (now : Int) (k : Tx) : S.at now k = S.at (max 0 (min now 9007199254740992)) k := by
  cases hS : S k with
  | none => rw [SP.at_none hS, SP.at_none hS]
  | some H =>
    have hl := h.lim hS
    have e : H.over now = H.over (max 0 (min now 9007199254740992)) := by
      unfold Hd.over
      by_cases h0 : H.due = 0
      · rw [h0]; rfl
      · have h1 : (H.due ≤ now) ↔ (H.due ≤ max 0 (min now 9007199254740992)) := by
          rw [Int.max_def, Int.min_def]
          split <;> split <;> omega
        rw [decide_eq_decide.2 h1]
    unfold SP.at
    rw [hS]
    simp only [Option.filter, e]
end Go.Proofs.YthojmgjgmbnopaaGreatDoor
