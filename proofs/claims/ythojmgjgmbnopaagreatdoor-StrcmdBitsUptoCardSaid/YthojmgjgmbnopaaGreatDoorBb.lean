import Derived.Lib.BitFns
import Derived.Test.YthojmgjgmbnopaaGreatDoorXA
namespace Go.Proofs.YthojmgjgmbnopaaGreatDoor
open Go Go.RowKit
/-! Bits of a byte, and of a text: plain laws. -/
def bitB (c j : Nat) : Nat := c / 2 ^ (7 - j) % 2
def orB (c j : Nat) : Nat := if bitB c j = 1 then c else c + 2 ^ (7 - j)
theorem byte_or : ∀ (c : Fin 256) (j : Fin 8), orB c.val j.val < 256 := by decide +kernel
theorem byte_bit : ∀ (c : Fin 256) (j k : Fin 8), bitB (orB c.val j.val) k.val = if k = j then 1 else bitB c.val k.val := by decide +kernel
theorem byte_count : ∀ c : Fin 256, Lib.onesCount c.val = ((List.range 8).filter fun k => bitB c.val k == 1).length := by decide +kernel
theorem byte_first : ∀ c : Fin 256, c.val ≠ 0 → Lib.bitLen c.val ≤ 8 ∧ 8 - Lib.bitLen c.val < 8 ∧ bitB c.val (8 - Lib.bitLen c.val) = 1 ∧ ∀ i : Fin 8, i.val < 8 - Lib.bitLen c.val → bitB c.val i.val = 0 := by decide +kernel
theorem bitB_lt (c j : Nat) : bitB c j < 2 := Nat.mod_lt _ (by decide)
theorem bitB_zero (j : Nat) : bitB 0 j = 0 := by simp [bitB]
/-- Bit p of a text; behind its end all are 0. -/
def bitT (T : List UInt8) (p : Nat) : Nat := bitB (T.getD (p / 8) 0).toNat (p % 8)
def padT (T : List UInt8) (n : Nat) : List UInt8 := T ++ List.replicate (n - T.length) 0
def setT (T : List UInt8) (p : Nat) : List UInt8 := (padT T (p / 8 + 1)).set (p / 8) (UInt8.ofNat (orB (T.getD (p / 8) 0).toNat (p % 8)))
theorem padT_length (T : List UInt8) (n : Nat) : (padT T n).length = max T.length n := by unfold padT; simp; omega
theorem padT_get (T : List UInt8) (n i : Nat) : (padT T n).getD i 0 = T.getD i 0 := by
  unfold padT
  rw [List.getD_eq_getElem?_getD, List.getD_eq_getElem?_getD, List.getElem?_append]
  split
  · rfl
  · rename_i h
    rw [List.getElem?_replicate, List.getElem?_eq_none (by omega : T.length ≤ i)]
    split <;> rfl
theorem setT_length (T : List UInt8) (p : Nat) : (setT T p).length = max T.length (p / 8 + 1) := by unfold setT; rw [List.length_set, padT_length]
theorem orB_lt (c : UInt8) {j : Nat} (h : j < 8) : orB c.toNat j < 256 := byte_or ⟨c.toNat, c.toNat_lt⟩ ⟨j, h⟩
theorem setT_bit (T : List UInt8) (p q : Nat) : bitT (setT T p) q = if q = p then 1 else bitT T q := by
  have hp : p % 8 < 8 := Nat.mod_lt _ (by decide)
  have hq : q % 8 < 8 := Nat.mod_lt _ (by decide)
  unfold bitT setT
  by_cases e : q / 8 = p / 8
  · rw [e, List.getD_eq_getElem?_getD, List.getElem?_set_self (by rw [padT_length]; omega)]
    simp only [Option.getD_some]
    rw [UInt8.toNat_ofNat', Nat.mod_eq_of_lt (orB_lt _ hp)]
    have h := byte_bit ⟨(T.getD (p / 8) 0).toNat, UInt8.toNat_lt _⟩ ⟨p % 8, hp⟩ ⟨q % 8, hq⟩
    dsimp only at h
    rw [h]
    by_cases e2 : q = p
    · subst e2; simp
    · rw [if_neg e2, if_neg (by intro e3; injection e3 with e3; omega)]
  · rw [List.getD_eq_getElem?_getD, List.getElem?_set_ne (by omega), ← List.getD_eq_getElem?_getD, padT_get, if_neg (by intro e2; subst e2; exact e rfl)]
theorem bitT_far {T : List UInt8} {p : Nat} (h : 8 * T.length ≤ p) : bitT T p = 0 := by
  unfold bitT
  rw [List.getD_eq_getElem?_getD, List.getElem?_eq_none (by omega)]
  exact bitB_zero _
/-- How many bits are 1. -/
def countT (T : List UInt8) : Nat := (T.map fun c => Lib.onesCount c.toNat).sum
theorem countT_eq : ∀ T : List UInt8, countT T = ((List.range (8 * T.length)).filter fun p => bitT T p == 1).length
  | [] => rfl
  | c :: T => by
    have ih := countT_eq T
    have e1 : List.range (8 * (c :: T).length) = List.range 8 ++ (List.range (8 * T.length)).map (8 + ·) := by
      rw [List.length_cons, show 8 * (T.length + 1) = 8 + 8 * T.length by omega, List.range_add]
    rw [e1, List.filter_append, List.length_append, List.filter_map, List.length_map]
    unfold countT at *
    rw [List.map_cons, List.sum_cons, ih, byte_count ⟨c.toNat, c.toNat_lt⟩]
    have A : (List.range 8).filter (fun p => bitB c.toNat p == 1) = (List.range 8).filter (fun p => bitT (c :: T) p == 1) := by
      refine List.filter_congr fun k hk => ?_
      have hk : k < 8 := List.mem_range.1 hk
      unfold bitT
      rw [show k / 8 = 0 by omega, show k % 8 = k by omega]; rfl
    have B : (List.range (8 * T.length)).filter (fun p => bitT T p == 1) = (List.range (8 * T.length)).filter ((fun p => bitT (c :: T) p == 1) ∘ (8 + ·)) := by
      refine List.filter_congr fun k _ => ?_
      show _ = (bitT (c :: T) (8 + k) == 1)
      unfold bitT
      rw [show (8 + k) / 8 = k / 8 + 1 by omega, show (8 + k) % 8 = k % 8 by omega]; rfl
    rw [← A, ← B]
theorem countT_set {T : List UInt8} {J : List Nat} (hn : J.Nodup) (h : ∀ p, bitT T p = 1 ↔ p ∈ J) : countT T = J.length := by
  rw [countT_eq]
  refine List.Perm.length_eq ((List.perm_ext_iff_of_nodup (List.nodup_range.sublist List.filter_sublist) hn).2 fun p => ?_)
  rw [List.mem_filter, List.mem_range, beq_iff_eq, h]
  refine ⟨fun h => h.2, fun hp => ⟨?_, hp⟩⟩
  rcases Nat.lt_or_ge p (8 * T.length) with h1 | h1
  · exact h1
  · have := (h p).2 hp
    rw [bitT_far h1] at this; cases this
/-- The first bit that is 1, from byte i on. -/
def firstT : Nat → List UInt8 → Int
  | _, [] => -1
  | i, c :: T => if c = 0 then firstT (i + 1) T else ((8 * i + (8 - Lib.bitLen c.toNat) : Nat) : Int)
theorem firstT_law : ∀ (T : List UInt8) (i : Nat), (firstT i T = -1 ∧ ∀ p, bitT T p = 0) ∨ (∃ p : Nat, firstT i T = ((8 * i + p : Nat) : Int) ∧ bitT T p = 1 ∧ ∀ q, q < p → bitT T q = 0)
  | [], i => .inl ⟨rfl, fun p => bitT_far (by simp)⟩
  | c :: T, i => by
    have shift : ∀ q, bitT (c :: T) (8 + q) = bitT T q := fun q => by
      unfold bitT
      rw [show (8 + q) / 8 = q / 8 + 1 by omega, show (8 + q) % 8 = q % 8 by omega]; rfl
    have low : ∀ q, q < 8 → bitT (c :: T) q = bitB c.toNat q := fun q hq => by
      unfold bitT
      rw [show q / 8 = 0 by omega, show q % 8 = q by omega]; rfl
    unfold firstT
    by_cases h0 : c = 0
    · rw [if_pos h0]
      subst h0
      have lz : ∀ q, q < 8 → bitT (0 :: T) q = 0 := fun q hq => by rw [low q hq]; exact bitB_zero _
      rcases firstT_law T (i + 1) with ⟨h1, h2⟩ | ⟨p, h1, h2, h3⟩
      · refine .inl ⟨h1, fun p => ?_⟩
        rcases Nat.lt_or_ge p 8 with h | h
        · exact lz p h
        · have := shift (p - 8); rw [show 8 + (p - 8) = p by omega] at this; rw [this]; exact h2 _
      · refine .inr ⟨8 + p, by rw [h1]; congr 1; omega, by rw [shift]; exact h2, fun q hq => ?_⟩
        rcases Nat.lt_or_ge q 8 with h | h
        · exact lz q h
        · have := shift (q - 8); rw [show 8 + (q - 8) = q by omega] at this; rw [this]; exact h3 _ (by omega)
    · rw [if_neg h0]
      have hc : c.toNat ≠ 0 := fun e => h0 (UInt8.toNat_inj.1 (by simpa using e))
      obtain ⟨f1, f2, f3, f4⟩ := byte_first ⟨c.toNat, c.toNat_lt⟩ hc
      dsimp only at f1 f2 f3 f4
      exact .inr ⟨8 - Lib.bitLen c.toNat, rfl, by rw [low _ f2]; exact f3, fun q hq => by rw [low q (by omega)]; exact f4 ⟨q, by omega⟩ hq⟩
/-- The least of a list, or -1. -/
def leastJ (J : List Nat) : Int := J.foldl (fun (m : Int) (p : Nat) => if m < 0 ∨ (p : Int) < m then (p : Int) else m) (-1)
theorem leastJ_law : ∀ (J : List Nat) (m : Int), (m = -1 ∨ ∃ k : Nat, m = (k : Int)) →
    let r := J.foldl (fun (m : Int) (p : Nat) => if m < 0 ∨ (p : Int) < m then (p : Int) else m) m
    ((r = -1 ∧ m = -1 ∧ J = []) ∨ ∃ k : Nat, r = (k : Int) ∧ ((k : Int) = m ∨ k ∈ J) ∧ (m = -1 ∨ (k : Int) ≤ m) ∧ ∀ p ∈ J, k ≤ p)
  | [], m, hm => by
    rcases hm with rfl | ⟨k, rfl⟩
    · exact .inl ⟨rfl, rfl, rfl⟩
    · exact .inr ⟨k, rfl, .inl rfl, .inr (Int.le_refl _), by simp⟩
  | p :: J, m, hm => by
    have hm2 : (if m < 0 ∨ (p : Int) < m then (p : Int) else m) = -1 ∨ ∃ k : Nat, (if m < 0 ∨ (p : Int) < m then (p : Int) else m) = (k : Int) := by
      split
      · exact .inr ⟨p, rfl⟩
      · rcases hm with rfl | ⟨k, rfl⟩
        · omega
        · exact .inr ⟨k, rfl⟩
    have ih := leastJ_law J _ hm2
    dsimp only at ih ⊢
    rw [List.foldl_cons]
    rcases ih with ⟨h1, h2, h3⟩ | ⟨k, h1, h2, h3, h4⟩
    · exfalso
      rcases hm with rfl | ⟨k, rfl⟩
      · split at h2 <;> omega
      · split at h2 <;> omega
    · refine .inr ⟨k, h1, ?_, ?_, ?_⟩
      · rcases h2 with h2 | h2
        · split at h2
          · exact .inr (List.mem_cons.2 (.inl (by omega)))
          · exact .inl h2
        · exact .inr (List.mem_cons.2 (.inr h2))
      · rcases hm with rfl | ⟨j, rfl⟩
        · exact .inl rfl
        · right
          split at h3 <;> omega
      · intro x hx
        rcases List.mem_cons.1 hx with rfl | hx
        · rcases hm with rfl | ⟨j, rfl⟩
          · split at h3 <;> omega
          · split at h3 <;> omega
        · exact h4 x hx
theorem first_least {T : List UInt8} {J : List Nat} (h : ∀ p, bitT T p = 1 ↔ p ∈ J) : firstT 0 T = leastJ J := by
  have h1 := leastJ_law J (-1) (.inl rfl)
  have h2 := firstT_law T 0
  unfold leastJ
  dsimp only at h1
  rcases h2 with ⟨a, b⟩ | ⟨p, a, b, c⟩
  · rcases h1 with ⟨e, _⟩ | ⟨k, e, f, _, _⟩
    · rw [a, e]
    · rcases f with f | f
      · omega
      · have := (h k).2 f; rw [b k] at this; cases this
  · rcases h1 with ⟨e, _, f⟩ | ⟨k, e, f, _, g⟩
    · have := (h p).1 b; rw [f] at this; cases this
    · rcases f with f | f
      · omega
      · have h3 := g p ((h p).1 b)
        have h4 : ¬ k < p := fun hk => by have := (h k).2 f; rw [c k hk] at this; cases this
        rw [a, e]; congr 1; omega
end Go.Proofs.YthojmgjgmbnopaaGreatDoor
