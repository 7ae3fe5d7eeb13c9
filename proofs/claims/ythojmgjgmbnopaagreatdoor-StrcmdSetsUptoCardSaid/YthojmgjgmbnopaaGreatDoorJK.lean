import Derived.Lib.BitFns
import Derived.Test.YthojmgjgmbnopaaGreatDoorXA
import Derived.Test.YthojmgjgmbnopaaGreatDoorJA
import Derived.Test.YthojmgjgmbnopaaGreatDoorJD
import Derived.OwnWalk
namespace Go.Proofs.YthojmgjgmbnopaaGreatDoor
open Go Go.RowKit
/-! Bits of a byte, and of a text: plain laws. -/
def bitB (c j : Nat) : Nat := c / 2 ^ (7 - j) % 2
def orB (c j : Nat) : Nat := if bitB c j = 1 then c else c + 2 ^ (7 - j)
theorem byte_or : ∀ (c : Fin 256) (j : Fin 8), orB c.val j.val < 256 := by decide +kernel
theorem byte_bit : ∀ (c : Fin 256) (j k : Fin 8), bitB (orB c.val j.val) k.val = if k = j then 1 else bitB c.val k.val := by decide +kernel
theorem byte_count : ∀ c : Fin 256, Lib.onesCount c.val = ((List.range 8).filter fun k => bitB c.val k == 1).length := by decide +kernel
theorem byte_first : ∀ c : Fin 256, c.val ≠ 0 → Lib.bitLen c.val ≤ 8 ∧ 8 - Lib.bitLen c.val < 8 ∧ bitB c.val (8 - Lib.bitLen c.val) = 1 ∧ ∀ i : Fin 8, i.val < 8 - Lib.bitLen c.val → bitB c.val i.val = 0 := by decide +kernel
theorem bitB_lt (c j : Nat) : bitB c j < 2 := Nat.mod_lt _ (by decide)
theorem bitB_zero (j : Nat) : bitB 0 j = 0 := by simp [bitB]
/-- Bit p of a text; behind its end all are 0. -/
def bitT (T : List UInt8) (p : Nat) : Nat := bitB (T.getD (p / 8) 0).toNat (p % 8)
def padT (T : List UInt8) (n : Nat) : List UInt8 := T ++ List.replicate (n - T.length) 0
def setT (T : List UInt8) (p : Nat) : List UInt8 := (padT T (p / 8 + 1)).set (p / 8) (UInt8.ofNat (orB (T.getD (p / 8) 0).toNat (p % 8)))
theorem padT_length (T : List UInt8) (n : Nat) : (padT T n).length = max T.length n := by unfold padT; simp; omega
theorem padT_get (T : List UInt8) (n i : Nat) : (padT T n).getD i 0 = T.getD i 0 := by
  unfold padT
  rw [List.getD_eq_getElem?_getD, List.getD_eq_getElem?_getD, List.getElem?_append]
  split
  · rfl
  · rename_i h
    rw [List.getElem?_replicate, List.getElem?_eq_none (by omega : T.length ≤ i)]
    split <;> rfl
theorem setT_length (T : List UInt8) (p : Nat) : (setT T p).length = max T.length (p / 8 + 1) := by unfold setT; rw [List.length_set, padT_length]
theorem orB_lt (c : UInt8) {j : Nat} (h : j < 8) : orB c.toNat j < 256 := byte_or ⟨c.toNat, c.toNat_lt⟩ ⟨j, h⟩
theorem setT_bit (T : List UInt8) (p q : Nat) : bitT (setT T p) q = if q = p then 1 else bitT T q := by
  have hp : p % 8 < 8 := Nat.mod_lt _ (by decide)
  have hq : q % 8 < 8 := Nat.mod_lt _ (by decide)
  unfold bitT setT
  by_cases e : q / 8 = p / 8
  · rw [e, List.getD_eq_getElem?_getD, List.getElem?_set_self (by rw [padT_length]; omega)]
    simp only [Option.getD_some]
    rw [UInt8.toNat_ofNat', Nat.mod_eq_of_lt (orB_lt _ hp)]
    have h := byte_bit ⟨(T.getD (p / 8) 0).toNat, UInt8.toNat_lt _⟩ ⟨p % 8, hp⟩ ⟨q % 8, hq⟩
    dsimp only at h
    rw [h]
    by_cases e2 : q = p
    · subst e2; simp
    · rw [if_neg e2, if_neg (by intro e3; injection e3 with e3; omega)]
  · rw [List.getD_eq_getElem?_getD, List.getElem?_set_ne (by omega), ← List.getD_eq_getElem?_getD, padT_get, if_neg (by intro e2; subst e2; exact e rfl)]
theorem bitT_far {T : List UInt8} {p : Nat} (h : 8 * T.length ≤ p) : bitT T p = 0 := by
  unfold bitT
  rw [List.getD_eq_getElem?_getD, List.getElem?_eq_none (by omega)]
  exact bitB_zero _
/-- How many bits are 1. -/
def countT (T : List UInt8) : Nat := (T.map fun c => Lib.onesCount c.toNat).sum
theorem countT_eq : ∀ T : List UInt8, countT T = ((List.range (8 * T.length)).filter fun p => bitT T p == 1).length
  | [] => rfl
  | c :: T => by
    have ih := countT_eq T
    have e1 : List.range (8 * (c :: T).length) = List.range 8 ++ (List.range (8 * T.length)).map (8 + ·) := by
      rw [List.length_cons, show 8 * (T.length + 1) = 8 + 8 * T.length by omega, List.range_add]
    rw [e1, List.filter_append, List.length_append, List.filter_map, List.length_map]
    unfold countT at *
    rw [List.map_cons, List.sum_cons, ih, byte_count ⟨c.toNat, c.toNat_lt⟩]
    have A : (List.range 8).filter (fun p => bitB c.toNat p == 1) = (List.range 8).filter (fun p => bitT (c :: T) p == 1) := by
      refine List.filter_congr fun k hk => ?_
      have hk : k < 8 := List.mem_range.1 hk
      unfold bitT
      rw [show k / 8 = 0 by omega, show k % 8 = k by omega]; rfl
    have B : (List.range (8 * T.length)).filter (fun p => bitT T p == 1) = (List.range (8 * T.length)).filter ((fun p => bitT (c :: T) p == 1) ∘ (8 + ·)) := by
      refine List.filter_congr fun k _ => ?_
      show _ = (bitT (c :: T) (8 + k) == 1)
      unfold bitT
      rw [show (8 + k) / 8 = k / 8 + 1 by omega, show (8 + k) % 8 = k % 8 by omega]; rfl
    rw [← A, ← B]
theorem countT_set {T : List UInt8} {J : List Nat} (hn : J.Nodup) (h : ∀ p, bitT T p = 1 ↔ p ∈ J) : countT T = J.length := by
  rw [countT_eq]
  refine List.Perm.length_eq ((List.perm_ext_iff_of_nodup (List.nodup_range.sublist List.filter_sublist) hn).2 fun p => ?_)
  rw [List.mem_filter, List.mem_range, beq_iff_eq, h]
  refine ⟨fun h => h.2, fun hp => ⟨?_, hp⟩⟩
  rcases Nat.lt_or_ge p (8 * T.length) with h1 | h1
  · exact h1
  · have := (h p).2 hp
    rw [bitT_far h1] at this; cases this
/-- The first bit that is 1, from byte i on. -/
def firstT : Nat → List UInt8 → Int
  | _, [] => -1
  | i, c :: T => if c = 0 then firstT (i + 1) T else ((8 * i + (8 - Lib.bitLen c.toNat) : Nat) : Int)
theorem firstT_law : ∀ (T : List UInt8) (i : Nat), (firstT i T = -1 ∧ ∀ p, bitT T p = 0) ∨ (∃ p : Nat, firstT i T = ((8 * i + p : Nat) : Int) ∧ bitT T p = 1 ∧ ∀ q, q < p → bitT T q = 0)
  | [], i => .inl ⟨rfl, fun p => bitT_far (by simp)⟩
  | c :: T, i => by
    have shift : ∀ q, bitT (c :: T) (8 + q) = bitT T q := fun q => by
      unfold bitT
      rw [show (8 + q) / 8 = q / 8 + 1 by omega, show (8 + q) % 8 = q % 8 by omega]; rfl
    have low : ∀ q, q < 8 → bitT (c :: T) q = bitB c.toNat q := fun q hq => by
      unfold bitT
      rw [show q / 8 = 0 by omega, show q % 8 = q by omega]; rfl
    unfold firstT
    by_cases h0 : c = 0
    · rw [if_pos h0]
      subst h0
      have lz : ∀ q, q < 8 → bitT (0 :: T) q = 0 := fun q hq => by rw [low q hq]; exact bitB_zero _
      rcases firstT_law T (i + 1) with ⟨h1, h2⟩ | ⟨p, h1, h2, h3⟩
      · refine .inl ⟨h1, fun p => ?_⟩
        rcases Nat.lt_or_ge p 8 with h | h
        · exact lz p h
        · have := shift (p - 8); rw [show 8 + (p - 8) = p by omega] at this; rw [this]; exact h2 _
      · refine .inr ⟨8 + p, by rw [h1]; congr 1; omega, by rw [shift]; exact h2, fun q hq => ?_⟩
        rcases Nat.lt_or_ge q 8 with h | h
        · exact lz q h
        · have := shift (q - 8); rw [show 8 + (q - 8) = q by omega] at this; rw [this]; exact h3 _ (by omega)
    · rw [if_neg h0]
      have hc : c.toNat ≠ 0 := fun e => h0 (UInt8.toNat_inj.1 (by simpa using e))
      obtain ⟨f1, f2, f3, f4⟩ := byte_first ⟨c.toNat, c.toNat_lt⟩ hc
      dsimp only at f1 f2 f3 f4
      exact .inr ⟨8 - Lib.bitLen c.toNat, rfl, by rw [low _ f2]; exact f3, fun q hq => by rw [low q (by omega)]; exact f4 ⟨q, by omega⟩ hq⟩
/-- The least of a list, or -1. -/
def leastJ (J : List Nat) : Int := J.foldl (fun (m : Int) (p : Nat) => if m < 0 ∨ (p : Int) < m then (p : Int) else m) (-1)
theorem leastJ_law : ∀ (J : List Nat) (m : Int), (m = -1 ∨ ∃ k : Nat, m = (k : Int)) →
    let r := J.foldl (fun (m : Int) (p : Nat) => if m < 0 ∨ (p : Int) < m then (p : Int) else m) m
    ((r = -1 ∧ m = -1 ∧ J = []) ∨ ∃ k : Nat, r = (k : Int) ∧ ((k : Int) = m ∨ k ∈ J) ∧ (m = -1 ∨ (k : Int) ≤ m) ∧ ∀ p ∈ J, k ≤ p)
  | [], m, hm => by
    rcases hm with rfl | ⟨k, rfl⟩
    · exact .inl ⟨rfl, rfl, rfl⟩
    · exact .inr ⟨k, rfl, .inl rfl, .inr (Int.le_refl _), by simp⟩
  | p :: J, m, hm => by
    have hm2 : (if m < 0 ∨ (p : Int) < m then (p : Int) else m) = -1 ∨ ∃ k : Nat, (if m < 0 ∨ (p : Int) < m then (p : Int) else m) = (k : Int) := by
      split
      · exact .inr ⟨p, rfl⟩
      · rcases hm with rfl | ⟨k, rfl⟩
        · omega
        · exact .inr ⟨k, rfl⟩
    have ih := leastJ_law J _ hm2
    dsimp only at ih ⊢
    rw [List.foldl_cons]
    rcases ih with ⟨h1, h2, h3⟩ | ⟨k, h1, h2, h3, h4⟩
    · exfalso
      rcases hm with rfl | ⟨k, rfl⟩
      · split at h2 <;> omega
      · split at h2 <;> omega
    · refine .inr ⟨k, h1, ?_, ?_, ?_⟩
      · rcases h2 with h2 | h2
        · split at h2
          · exact .inr (List.mem_cons.2 (.inl (by omega)))
          · exact .inl h2
        · exact .inr (List.mem_cons.2 (.inr h2))
      · rcases hm with rfl | ⟨j, rfl⟩
        · exact .inl rfl
        · right
          split at h3 <;> omega
      · intro x hx
        rcases List.mem_cons.1 hx with rfl | hx
        · rcases hm with rfl | ⟨j, rfl⟩
          · split at h3 <;> omega
          · split at h3 <;> omega
        · exact h4 x hx
theorem first_least {T : List UInt8} {J : List Nat} (h : ∀ p, bitT T p = 1 ↔ p ∈ J) : firstT 0 T = leastJ J := by
  have h1 := leastJ_law J (-1) (.inl rfl)
  have h2 := firstT_law T 0
  unfold leastJ
  dsimp only at h1
  rcases h2 with ⟨a, b⟩ | ⟨p, a, b, c⟩
  · rcases h1 with ⟨e, _⟩ | ⟨k, e, f, _, _⟩
    · rw [a, e]
    · rcases f with f | f
      · omega
      · have := (h k).2 f; rw [b k] at this; cases this
  · rcases h1 with ⟨e, _, f⟩ | ⟨k, e, f, _, g⟩
    · have := (h p).1 b; rw [f] at this; cases this
    · rcases f with f | f
      · omega
      · have h3 := g p ((h p).1 b)
        have h4 : ¬ k < p := fun hk => by have := (h k).2 f; rw [c k hk] at this; cases this
        rw [a, e]; congr 1; omega
end Go.Proofs.YthojmgjgmbnopaaGreatDoor
namespace Go.Proofs.YthojmgjgmbnopaaGreatDoor
open Go Go.RowKit
/-! blob: a bit, a bit that is set, how many there are, the first. -/
theorem idx_ok {s : List UInt8} {k : Nat} {b : UInt8} (h : s[k]? = some b) (w : World) :
    (Instr.index 9 (.string ⟨s.toArray⟩) (.int .i64 (k : Int))).run Tryz.prog w = .ok (.int .u8 (b.toNat : Int)) w := by
  have hk : k < s.length := (List.getElem?_eq_some_iff.1 h).1
  have hs : (⟨s.toArray⟩ : ByteArray).size = s.length := by simp [ByteArray.size]
  rw [run_index_string w 9 _ .i64 _ Tryz.underlying9, dif_pos ⟨by omega, by rw [hs]; omega⟩]
  obtain ⟨_, h⟩ := List.getElem?_eq_some_iff.1 h
  congr 3
  simp only [← h]
  rfl
theorem bplace_ok (w : World) {p : Nat} (hp : p < 8388608) : Calls Tryz.prog 252 #[.int .i64 p] w fun e w' => e = .returned (.bool true) ∧ w' = w := by
  have h1 : (0 : Int) ≤ p ∧ (p : Int) < 8388608 := by omega
  obtain ⟨h1, h2⟩ := h1
  go_enter Tryz.func252, Tryz.ntmps252
  go_wp2_with fail
  go_ret
  exact ⟨rfl, rfl⟩
theorem bit_val : ∀ (c : Fin 256) (j : Fin 8), bits .and .i64 (wrap64 ((c.val : Int) / 2 ^ (7 - j.val))) 1 = (bitB c.val j.val : Int) := by decide +kernel
set_option maxRecDepth 10000 in
set_option maxHeartbeats 2000000 in
theorem bbit_ok (w : World) (T : List UInt8) {p : Nat} (hp : p < 8388608) : Calls Tryz.prog 189 #[txt T, .int .i64 p] w fun e w' => e = .returned (.tuple #[.int .i64 (bitT T p), .int .i64 0]) ∧ w' = w := by
  have hsz : (⟨T.toArray⟩ : ByteArray).size = T.length := by simp [ByteArray.size]
  have HPL := Lib.hid (fun W => bplace_ok W hp)
  obtain ⟨a, ha⟩ : ∃ a, a = p / 8 := ⟨_, rfl⟩
  obtain ⟨m, hm⟩ : ∃ m, m = p % 8 := ⟨_, rfl⟩
  have hq : Int.tdiv (p : Int) 8 = (a : Int) := by rw [ha]; rfl
  have hr : Int.tmod (p : Int) 8 = (m : Int) := by rw [hm]; rfl
  have hm8 : m < 8 := by omega
  have haI : a ≤ 1048576 := by omega
  unfold bitT
  rw [← ha, ← hm]
  clear ha hm
  by_cases hl : T.length ≤ a
  · have hd : decide ((T.length : Int) ≤ (a : Int)) = true := decide_eq_true (by omega)
    have e0 : bitB (T.getD a 0).toNat m = 0 := by rw [List.getD_eq_getElem?_getD, List.getElem?_eq_none hl]; exact bitB_zero _
    rw [e0]
    unfold txt
    go_enter Tryz.func189, Tryz.ntmps189
    go_wp2_with fail
    refine (HPL.out _).mono ?_; rintro e w2 ⟨rfl, rfl⟩
    go_wp2_with fail
    go_ret2
    exact ⟨rfl, rfl⟩
  · have hd : decide ((T.length : Int) ≤ (a : Int)) = false := decide_eq_false (by omega)
    have ew : IntKind.i64.wrap (7 - (m : Int)) = 7 - (m : Int) := by rw [IntKind.wrap_i64]; omega
    obtain ⟨x, hx⟩ : ∃ x, T[a]? = some x := ⟨_, List.getElem?_eq_getElem (by omega)⟩
    have hix := fun W => idx_ok hx W
    have hgx : T.getD a 0 = x := by rw [List.getD_eq_getElem?_getD, hx]; rfl
    have hv := bit_val ⟨x.toNat, x.toNat_lt⟩ ⟨m, hm8⟩
    dsimp only at hv
    have hxb := x.toNat_lt
    rw [hgx]
    have HV := Lib.hid hv
    clear hx hgx hv
    unfold txt
    go_enter Tryz.func189, Tryz.ntmps189
    go_wp2_with fail
    refine (HPL.out _).mono ?_; rintro e w2 ⟨rfl, rfl⟩
    go_wp2_with fail
    go_ret2
    refine ⟨?_, rfl⟩
    rw [← HV.out]
    rfl
theorem rep_cells (n : Nat) : (madeCells (Value.int .u8 0).cells (n * 1)).toList = (List.replicate n (0 : UInt8)).map bv := by
  simp only [madeCells, Nat.mul_one, List.map_replicate]
  apply List.ext_getElem
  · simp
  · intro k h1 h2
    simp [Value.cells, bv, Nat.mod_one]
theorem padT_laid (T : List UInt8) (n : Nat) : laidAt ((List.replicate n (0 : UInt8)).map bv) 0 (T.map bv) = (padT T n).map bv := by
  unfold laidAt padT
  simp only [List.take_zero, List.nil_append, List.length_map, Nat.zero_add, List.map_append]
  rw [← List.map_drop, List.drop_replicate]
theorem setT_eq (T : List UInt8) (p : Nat) : (setT T p).length = (padT T (p / 8 + 1)).length := by unfold setT; rw [List.length_set]
def clrB (c j : Nat) : Nat := if bitB c j = 1 then c - 2 ^ (7 - j) else c
theorem clr_val : ∀ (c : Fin 256) (j : Fin 8), bits .andNot .u8 (c.val : Int) (2 ^ (7 - j.val) % 256) = (clrB c.val j.val : Int) := by decide +kernel
theorem set_val : ∀ (c : Fin 256) (j : Fin 8), bits .or .u8 (clrB c.val j.val : Int) (2 ^ (7 - j.val) % 256) = (orB c.val j.val : Int) := by decide +kernel
theorem clr_lt : ∀ (c : Fin 256) (j : Fin 8), clrB c.val j.val < 256 := by decide +kernel
theorem infoB : (Tryz.prog.info? 5).map (fun i => (i.zero, i.size, i.bytes)) = some (some (.int .u8 0), 1, 1) := by kernel_rfl
set_option maxRecDepth 10000 in
set_option maxHeartbeats 4000000 in
theorem bsetbit_ok (w : World) (T : List UInt8) {p : Nat} (hp : p < 8388608) (hT : T.length ≤ 1048576) : Calls Tryz.prog 197 #[txt T, .int .i64 p, .int .i64 1] w fun e w' => e = .returned (.tuple #[txt (setT T p), .int .i64 (bitT T p), .int .i64 0]) ∧ Below w.heap.size w w' := by
  have hsz : (⟨T.toArray⟩ : ByteArray).size = T.length := by simp [ByteArray.size]
  obtain ⟨i0, hi0, hz0, hz1, hz2⟩ := info_parts infoB
  have HPL := Lib.hid (fun W => bplace_ok W hp)
  have HBI := Lib.hid (fun W => bbit_ok W T hp)
  obtain ⟨bt, hbt⟩ : ∃ bt, bt = bitT T p := ⟨_, rfl⟩
  obtain ⟨t2, ht2⟩ : ∃ t2, t2 = setT T p := ⟨_, rfl⟩
  rw [← hbt] at HBI ⊢
  rw [← ht2]
  have HT2 := Lib.hid ht2
  clear ht2 hbt
  unfold setT at HT2
  obtain ⟨a, ha⟩ : ∃ a, a = p / 8 := ⟨_, rfl⟩
  obtain ⟨m, hm⟩ : ∃ m, m = p % 8 := ⟨_, rfl⟩
  have hq : Int.tdiv (p : Int) 8 = (a : Int) := by rw [ha]; rfl
  have hr : Int.tmod (p : Int) 8 = (m : Int) := by rw [hm]; rfl
  have hm8 : m < 8 := by omega
  have haI : a < 1048576 := by omega
  rw [← ha, ← hm] at HT2
  clear ha hm
  obtain ⟨n, hn⟩ : ∃ n, n = max T.length (a + 1) := ⟨_, rfl⟩
  have hnm : max (T.length : Int) ((a : Int) + 1) = (n : Int) := by omega
  have han : a < n := by omega
  have hn2 : n ≤ 1048576 := by omega
  have hTn : T.length ≤ n := by omega
  have ew : IntKind.i64.wrap (7 - (m : Int)) = 7 - (m : Int) := by rw [IntKind.wrap_i64]; omega
  have HPAD := Lib.hid (show padT T (a + 1) = padT T n by
    unfold padT
    congr 2
    omega)
  clear hn
  obtain ⟨w4, hmk, hown, hgr⟩ := run_make_full (P := Tryz.prog) w w.heap.size 98 5 i0 (.int .u8 0) 1 Tryz.underlying98 hi0 hz0 hz1 .i64 .i64 n (by rw [hz2]; omega) (by unfold maxLen; omega) (Nat.le_refl _)
  have hB4 : Below w.heap.size w w4 := ⟨hgr.os, hgr.tape, hgr.output, hgr.size, fun b hb => hgr.block b hb (by simp)⟩
  have hrow : Row (none0.put w.heap.size [9]) w4 [9] 5 1 (.slice (some ⟨w.heap.size, 0, none⟩) n n) n ((List.replicate n (0 : UInt8)).map bv) := by
    rw [rep_cells] at hown
    rcases hown.2 with ⟨h1, _⟩ | ⟨g, cap, cur, h1, h2, rest⟩
    · cases h1
    · refine ⟨⟨hown.1, .inr ⟨g, cap, cur, h1, Nat.zero_le _, rest⟩⟩, fun k hk => ?_⟩
      simp only [Value.ownBlock, Option.some.injEq] at hk
      subst hk; exact Roles.put_same _ _ _
  obtain ⟨cs, hblk, hcl, _, _, hct⟩ := hrow.blk
  have hcs : cs = (List.replicate n (0 : UInt8)).map bv := by rw [← hct, Nat.mul_one]; exact (List.take_of_length_le (by omega)).symm
  subst hcs
  have hcp := fun ty => run_copy_into (P := Tryz.prog) hblk Tryz.underlying98 hi0 ty 0 n n (sT := 9) (x := .string ⟨T.toArray⟩) (m := T.length) (news := T.map bv) (by
    have := Src.ofString (P := Tryz.prog) w4 Tryz.underlying9 ⟨T.toArray⟩
    rw [hsz] at this
    rw [hz1]
    exact this) hTn (by simp; omega)
  have hblk5 := hblk.setCells 0 (T.map bv) (by simp; omega)
  rw [padT_laid T n] at hblk5
  have hst5 := (Stp.ofBelow [9] none0 hB4).name w.heap.size [9] (Nat.le_refl _) |>.setCells (g := w.heap.size) (by rw [Roles.put_same]; exact List.prefix_refl _) 0 (T.map bv)
  have HB5 := Lib.hid hst5.below0
  generalize w4.setCells w.heap.size 0 (T.map bv) = w5 at *
  clear hown hgr hB4 hrow hblk hcl hct hst5
  obtain ⟨x, hx⟩ : ∃ x, x = T.getD a 0 := ⟨_, rfl⟩
  have hpl : (padT T n).length = n := by rw [padT_length]; omega
  have hxa : (padT T n)[a]? = some x := by
    have h := padT_get T n a
    rw [List.getD_eq_getElem?_getD, List.getElem?_eq_getElem (by omega), Option.getD_some] at h
    rw [List.getElem?_eq_getElem (by omega), h, hx]
  have hc5 : w5.cell? ⟨w.heap.size, a, none⟩ = some (.int .u8 (x.toNat : Int)) := by
    rw [hblk5.cell]
    simp [hxa, bv]
  have hf5 := hblk5.free a
  have hlt5 := hblk5.lt
  have hs1 := clr_val ⟨x.toNat, x.toNat_lt⟩ ⟨m, hm8⟩
  have hs2 := set_val ⟨x.toNat, x.toNat_lt⟩ ⟨m, hm8⟩
  have hs3 := clr_lt ⟨x.toNat, x.toNat_lt⟩ ⟨m, hm8⟩
  have hol := orB_lt x hm8
  dsimp only at hs1 hs2 hs3
  have ht2 : t2 = (padT T n).set a (UInt8.ofNat (orB x.toNat m)) := by rw [HT2.out, HPAD.out, ← hx]
  have hbz : bv (UInt8.ofNat (orB x.toNat m)) = .int .u8 (orB x.toNat m : Int) := by
    unfold bv; rw [UInt8.toNat_ofNat', Nat.mod_eq_of_lt hol]
  have hcv : ∀ u, (convert 98 9 (.slice (some ⟨w.heap.size, 0, none⟩) n n)).run Tryz.prog ((w5.setCell ⟨w.heap.size, a, none⟩ u).setCell ⟨w.heap.size, a, none⟩ (.int .u8 (orB x.toNat m : Int))) = .ok (.string ⟨t2.toArray⟩) ((w5.setCell ⟨w.heap.size, a, none⟩ u).setCell ⟨w.heap.size, a, none⟩ (.int .u8 (orB x.toNat m : Int))) := fun u => by
    refine run_bytes_text _ _ _ t2 (fun j z hj => ?_) n (by rw [ht2, List.length_set, hpl])
    rw [((hblk5.setCell a u).setCell a _).cell, ← hbz]
    rw [ht2, List.getElem?_set] at hj
    simp only [Array.getElem?_setIfInBounds, Array.size_setIfInBounds]
    by_cases haj : a = j
    · subst haj
      rw [if_pos rfl, if_pos (by omega)] at hj
      cases hj
      simp [hpl, han]
    · rw [if_neg haj] at hj
      simp [haj, hj]
  have HB7 := Lib.hid (show ∀ u v, Below w.heap.size w ((w5.setCell ⟨w.heap.size, a, none⟩ u).setCell ⟨w.heap.size, a, none⟩ v) from fun u v => (HB5.out.setCell (Nat.le_refl _) u).setCell (Nat.le_refl _) v)
  generalize orB x.toNat m = z at *
  generalize clrB x.toNat m = y at *
  clear hblk5 hxa ht2 hbz hx hpl HT2 HPAD
  unfold txt at HBI ⊢
  go_enter Tryz.func197, Tryz.ntmps197
  go_wp2_with fail
  refine (HPL.out _).mono ?_; rintro e w2 ⟨rfl, rfl⟩
  go_wp2_with fail
  refine (HBI.out _).mono ?_; rintro e w3 ⟨rfl, rfl⟩
  clear HBI HPL
  go_wp2_with fail
  go_ret3
  exact ⟨rfl, HB7.out _ _⟩
set_option maxRecDepth 10000 in
theorem bplaces_ok (w : World) {n : Nat} (hn : n ≤ 1048576) : Calls Tryz.prog 248 #[.int .i64 n, .int .i64 0, .int .i64 (-1)] w fun e w' => e = .returned (.tuple #[.int .i64 0, .int .i64 n]) ∧ w' = w := by
  have e1 : IntKind.i64.wrap (-1 + (n : Int)) = (n : Int) - 1 := by rw [IntKind.wrap_i64]; omega
  have e2 : IntKind.i64.wrap ((n : Int) - 1) = (n : Int) - 1 := by rw [IntKind.wrap_i64]; omega
  have e3 : min ((n : Int) - 1) ((n : Int) - 1) = (n : Int) - 1 := by omega
  have e4 : IntKind.i64.wrap ((n : Int) - 1 + 1) = (n : Int) := by rw [IntKind.wrap_i64]; omega
  by_cases h0 : n = 0
  · subst h0
    go_enter Tryz.func248, Tryz.ntmps248
    go_wp2_with fail
    go_ret2
    exact ⟨rfl, rfl⟩
  · have hd : decide ((n : Int) ≤ 0) = false := decide_eq_false (by omega)
    go_enter Tryz.func248, Tryz.ntmps248
    go_wp2_with fail
    go_ret2
    exact ⟨rfl, rfl⟩
theorem cut_all (T : List UInt8) (W : World) : (Instr.slice 9 (.string ⟨T.toArray⟩) (some (.int .i64 0)) (some (.int .i64 (T.length : Int))) none).run Tryz.prog W = .ok (.string ⟨T.toArray⟩) W := by
  have hsz : (⟨T.toArray⟩ : ByteArray).size = T.length := by simp [ByteArray.size]
  simp [Instr.slice, run_underlying Tryz.underlying9, Instr.sliceBounds, Instr.sliceBound, asIntOf, hsz]
  rw [← hsz]
  exact ByteArray.extract_zero_size
set_option maxRecDepth 10000 in
theorem brange_ok (w : World) (T : List UInt8) (hT : T.length ≤ 1048576) : Calls Tryz.prog 193 #[txt T, .int .i64 0, .int .i64 (-1)] w fun e w' => e = .returned (txt T) ∧ w' = w := by
  have hsz : (⟨T.toArray⟩ : ByteArray).size = T.length := by simp [ByteArray.size]
  have HP := Lib.hid (fun W => bplaces_ok W hT)
  have hcut := fun W => cut_all T W
  unfold txt
  go_enter Tryz.func193, Tryz.ntmps193
  go_wp2_with fail
  refine (HP.out _).mono ?_; rintro e w2 ⟨rfl, rfl⟩
  go_wp2_with fail
  go_ret
  exact ⟨rfl, rfl⟩
theorem countT_take {T : List UInt8} {k : Nat} {x : UInt8} (hx : T[k]? = some x) : countT (T.take (k + 1)) = countT (T.take k) + Lib.onesCount x.toNat := by
  unfold countT
  rw [List.take_add_one, hx]
  simp
theorem countT_small (T : List UInt8) : countT T ≤ 8 * T.length := by
  rw [countT_eq]
  refine Nat.le_trans (List.length_filter_le _ _) (by simp)
set_option maxRecDepth 10000 in
set_option maxHeartbeats 2000000 in
theorem bcount_ok (w : World) (T : List UInt8) (hT : T.length ≤ 1048576) : Calls Tryz.prog 180 #[txt T, .int .i64 0, .int .i64 (-1)] w fun e w' => e = .returned (.int .i64 (countT T : Int)) ∧ Below w.heap.size w w' := by
  have hsz : (⟨T.toArray⟩ : ByteArray).size = T.length := by simp [ByteArray.size]
  have HR := Lib.hid (fun W => brange_ok W T hT)
  have hcv := Lib.run_convert_string_bytes (P := Tryz.prog) w 9 98 5 ⟨T.toArray⟩ Tryz.underlying9 Tryz.underlying98 Tryz.underlying5
  rw [hsz] at hcv
  have hB : Below w.heap.size w (Lib.bytesWorld w 5 ⟨T.toArray⟩) := ⟨rfl, rfl, rfl, by rw [Lib.bytesWorld_size]; omega, fun b hb => Lib.bytesWorld_at_old w _ _ b hb⟩
  have hc : ∀ (j : Nat) (x : UInt8), T[j]? = some x → (Lib.bytesWorld w 5 ⟨T.toArray⟩).cell? ⟨w.heap.size, j, none⟩ = some (bv x) := fun j x hj => by
    have hjl : j < T.length := (List.getElem?_eq_some_iff.1 hj).1
    rw [Lib.bytesWorld_cell w _ _ j (by rw [hsz]; exact hjl)]
    simp only [List.getD_eq_getElem?_getD]
    rw [hj]; rfl
  have hl : w.heap.size < (Lib.bytesWorld w 5 ⟨T.toArray⟩).heap.size := by rw [Lib.bytesWorld_size]; omega
  generalize Lib.bytesWorld w 5 ⟨T.toArray⟩ = w1 at *
  generalize grownCap w T.length 0 5 = cap at *
  have HC := Lib.hid hc
  have HB := Lib.hid hB
  clear hc hB
  unfold txt at *
  go_enter Tryz.func180, Tryz.ntmps180
  go_wp2_with fail
  refine (HR.out _).mono ?_; rintro e w2 ⟨rfl, rfl⟩
  go_wp2_with fail
  go_loopw [7, 16] (fun n i wr => ∃ k : Nat, k ≤ T.length ∧ i = .int .i64 (k : Int) ∧ n = .int .i64 (countT (T.take k) : Int) ∧ wr = w1) (fun _ i _ => T.length - (intOf i).toNat)
  case atStart => exact ⟨0, Nat.zero_le _, rfl, rfl, rfl⟩
  case round =>
    obtain ⟨k, hk, rfl, rfl, rfl⟩ := hrel
    by_cases hkl : k < T.length
    · obtain ⟨x, hx⟩ : ∃ x, T[k]? = some x := ⟨_, List.getElem?_eq_getElem hkl⟩
      have hcell : wr.cell? ⟨w2.heap.size, k, none⟩ = some (.int .u8 x.toNat) := HC.out k x hx
      have hxb := x.toNat_lt
      have HO := Lib.hid (Tryz.bits_OnesCount8 (x.toNat : Int) wr (by omega) (by omega))
      have hcs := countT_small (T.take k)
      have hct := countT_take hx
      have hle : Lib.onesCount x.toNat ≤ 8 := Lib.onesCount_le8 ⟨x.toNat, hxb⟩
      rw [List.length_take] at hcs
      have hsm : countT (T.take k) ≤ 8388608 := by omega
      have hkI : (0 : Int) ≤ k ∧ (k : Int) < T.length := by omega
      have hct2 : (countT (T.take (k + 1)) : Int) = (countT (T.take k) : Int) + (Lib.onesCount x.toNat : Int) := by rw [hct]; omega
      have D := Lib.hid hct2
      clear hct hcs hx hct2
      generalize countT (T.take k) = n at *
      go_wp2_with fail
      refine HO.out.mono ?_; rintro e w3 ⟨rfl, rfl⟩
      rw [show (x.toNat : Int).toNat = x.toNat from rfl]
      have ew : IntKind.i64.wrap ((n : Int) + (Lib.onesCount x.toNat : Int)) = (n : Int) + (Lib.onesCount x.toNat : Int) := by rw [IntKind.wrap_i64]; omega
      go_wp2_with fail
      go_roundw
      case rel => exact ⟨k + 1, hkl, by go_num, by rw [D.out], by first | rfl | trivial⟩
      case measure => simp [intOf]; omega
    · obtain rfl : k = T.length := by omega
      rw [List.take_length]
      go_wp2_with fail
      go_ret
      exact ⟨rfl, HB.out⟩
set_option maxRecDepth 10000 in
set_option maxHeartbeats 2000000 in
theorem bfirst_ok (w : World) (T : List UInt8) (hT : T.length ≤ 1048576) : Calls Tryz.prog 185 #[txt T, .int .i64 1, .int .i64 0, .int .i64 (-1)] w fun e w' => e = .returned (.tuple #[.int .i64 (firstT 0 T), .int .i64 0]) ∧ w' = w := by
  have hsz : (⟨T.toArray⟩ : ByteArray).size = T.length := by simp [ByteArray.size]
  have HP := Lib.hid (fun W => bplaces_ok W hT)
  unfold txt
  go_enter Tryz.func185, Tryz.ntmps185
  go_wp2_with fail
  refine (HP.out _).mono ?_; rintro e w2 ⟨rfl, rfl⟩
  go_wp2_with fail
  go_loopw [12] (fun i wr => ∃ k : Nat, k ≤ T.length ∧ i = .int .i64 (k : Int) ∧ firstT 0 T = firstT k (T.drop k) ∧ wr = w2) (fun i _ => T.length - (intOf i).toNat)
  case atStart => exact ⟨0, Nat.zero_le _, rfl, rfl, rfl⟩
  case round =>
    obtain ⟨k, hk, rfl, hf, rfl⟩ := hrel
    by_cases hkl : k < T.length
    · obtain ⟨x, hx⟩ : ∃ x, T[k]? = some x := ⟨_, List.getElem?_eq_getElem hkl⟩
      have hix := fun W => idx_ok hx W
      have hxb := x.toNat_lt
      have hd : T.drop k = x :: T.drop (k + 1) := by
        rw [List.drop_eq_getElem_cons hkl]
        congr 1
        rw [List.getElem?_eq_getElem hkl] at hx
        cases hx; rfl
      rw [hd, firstT] at hf
      have hkI : (0 : Int) ≤ k ∧ (k : Int) < T.length := by omega
      by_cases h0 : x = 0
      · rw [if_pos h0] at hf
        have D := Lib.hid hf
        subst h0
        clear hf hd hx
        go_wp2_with fail
        go_roundw
        case rel => exact ⟨k + 1, hkl, by go_num, D.out, by first | rfl | trivial⟩
        case measure => simp [intOf]; omega
      · rw [if_neg h0] at hf
        have hne : ((x.toNat : Int) != 0) = true := by
          have : x.toNat ≠ 0 := fun e => h0 (UInt8.toNat_inj.1 (by simpa using e))
          simp; omega
        have hbl : Lib.bitLen x.toNat ≤ 8 := Lib.bitLen_le8 ⟨x.toNat, hxb⟩
        have HL := Lib.hid (Tryz.bits_LeadingZeros8 (x.toNat : Int) wr (by omega) (by omega))
        have D := Lib.hid hf
        clear hf hd hx h0
        go_wp2_with fail
        refine HL.out.mono ?_; rintro e w3 ⟨rfl, rfl⟩
        rw [show (x.toNat : Int).toNat = x.toNat from rfl]
        go_wp2_with fail
        go_ret2
        refine ⟨?_, rfl⟩
        rw [D.out]
        rw [show ((8 * k + (8 - Lib.bitLen x.toNat) : Nat) : Int) = 8 * (k : Int) + (8 - (Lib.bitLen x.toNat : Int)) by omega]
        rfl
    · obtain rfl : k = T.length := by omega
      rw [List.drop_length] at hf
      have D := Lib.hid hf
      clear hf
      go_wp2_with fail
      go_ret2
      exact ⟨by rw [D.out]; rfl, rfl⟩
end Go.Proofs.YthojmgjgmbnopaaGreatDoor
