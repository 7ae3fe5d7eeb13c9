import Derived.Test.YthojmgjgmbnopaaGreatDoorBb
import Derived.Test.YthojmgjgmbnopaaGreatDoorCb
import Derived.Test.YthojmgjgmbnopaaGreatDoorBn
import Derived.OwnWalk
namespace Go.Proofs.YthojmgjgmbnopaaGreatDoor
open Go Go.RowKit
/-! blob: a bit, a bit that is set, how many there are, the first. -/
theorem idx_ok {s : List UInt8} {k : Nat} {b : UInt8} (h : s[k]? = some b) (w : World) :
    (Instr.index 9 (.string ⟨s.toArray⟩) (.int .i64 (k : Int))).run Tryz.prog w = .ok (.int .u8 (b.toNat : Int)) w := by
  have hk : k < s.length := (List.getElem?_eq_some_iff.1 h).1
  have hs : (⟨s.toArray⟩ : ByteArray).size = s.length := by simp [ByteArray.size]
  rw [run_index_string w 9 _ .i64 _ Tryz.underlying9, dif_pos ⟨by omega, by rw [hs]; omega⟩]
  obtain ⟨_, h⟩ := List.getElem?_eq_some_iff.1 h
  congr 3
  simp only [← h]
  rfl
theorem bplace_ok (w : World) {p : Nat} (hp : p < 8388608) : Calls Tryz.prog 252 #[.int .i64 p] w fun e w' => e = .returned (.bool true) ∧ w' = w := by
  have h1 : (0 : Int) ≤ p ∧ (p : Int) < 8388608 := by omega
  obtain ⟨h1, h2⟩ := h1
  go_enter Tryz.func252, Tryz.ntmps252
  go_wp2_with fail
  go_ret
  exact ⟨rfl, rfl⟩
theorem bit_val : ∀ (c : Fin 256) (j : Fin 8), bits .and .i64 (wrap64 ((c.val : Int) / 2 ^ (7 - j.val))) 1 = (bitB c.val j.val : Int) := by decide +kernel
set_option maxRecDepth 10000 in
set_option maxHeartbeats 2000000 in
theorem bbit_ok (w : World) (T : List UInt8) {p : Nat} (hp : p < 8388608) : Calls Tryz.prog 189 #[txt T, .int .i64 p] w fun e w' => e = .returned (.tuple #[.int .i64 (bitT T p), .int .i64 0]) ∧ w' = w := by
  have hsz : (⟨T.toArray⟩ : ByteArray).size = T.length := by simp [ByteArray.size]
  have HPL := Lib.hid (fun W => bplace_ok W hp)
  obtain ⟨a, ha⟩ : ∃ a, a = p / 8 := ⟨_, rfl⟩
  obtain ⟨m, hm⟩ : ∃ m, m = p % 8 := ⟨_, rfl⟩
  have hq : Int.tdiv (p : Int) 8 = (a : Int) := by rw [ha]; rfl
  have hr : Int.tmod (p : Int) 8 = (m : Int) := by rw [hm]; rfl
  have hm8 : m < 8 := by omega
  have haI : a ≤ 1048576 := by omega
  unfold bitT
  rw [← ha, ← hm]
  clear ha hm
  by_cases hl : T.length ≤ a
  · have hd : decide ((T.length : Int) ≤ (a : Int)) = true := decide_eq_true (by omega)
    have e0 : bitB (T.getD a 0).toNat m = 0 := by rw [List.getD_eq_getElem?_getD, List.getElem?_eq_none hl]; exact bitB_zero _
    rw [e0]
    unfold txt
    go_enter Tryz.func189, Tryz.ntmps189
    go_wp2_with fail
    refine (HPL.out _).mono ?_; rintro e w2 ⟨rfl, rfl⟩
    go_wp2_with fail
    go_ret2
    exact ⟨rfl, rfl⟩
  · have hd : decide ((T.length : Int) ≤ (a : Int)) = false := decide_eq_false (by omega)
    have ew : IntKind.i64.wrap (7 - (m : Int)) = 7 - (m : Int) := by rw [IntKind.wrap_i64]; omega
    obtain ⟨x, hx⟩ : ∃ x, T[a]? = some x := ⟨_, List.getElem?_eq_getElem (by omega)⟩
    have hix := fun W => idx_ok hx W
    have hgx : T.getD a 0 = x := by rw [List.getD_eq_getElem?_getD, hx]; rfl
    have hv := bit_val ⟨x.toNat, x.toNat_lt⟩ ⟨m, hm8⟩
    dsimp only at hv
    have hxb := x.toNat_lt
    rw [hgx]
    have HV := Lib.hid hv
    clear hx hgx hv
    unfold txt
    go_enter Tryz.func189, Tryz.ntmps189
    go_wp2_with fail
    refine (HPL.out _).mono ?_; rintro e w2 ⟨rfl, rfl⟩
    go_wp2_with fail
    go_ret2
    refine ⟨?_, rfl⟩
    rw [← HV.out]
    rfl
theorem rep_cells (n : Nat) : (madeCells (Value.int .u8 0).cells (n * 1)).toList = (List.replicate n (0 : UInt8)).map bv := by
  simp only [madeCells, Nat.mul_one, List.map_replicate]
  apply List.ext_getElem
  · simp
  · intro k h1 h2
    simp [Value.cells, bv, Nat.mod_one]
theorem padT_laid (T : List UInt8) (n : Nat) : laidAt ((List.replicate n (0 : UInt8)).map bv) 0 (T.map bv) = (padT T n).map bv := by
  unfold laidAt padT
  simp only [List.take_zero, List.nil_append, List.length_map, Nat.zero_add, List.map_append]
  rw [← List.map_drop, List.drop_replicate]
theorem setT_eq (T : List UInt8) (p : Nat) : (setT T p).length = (padT T (p / 8 + 1)).length := by unfold setT; rw [List.length_set]
def clrB (c j : Nat) : Nat := if bitB c j = 1 then c - 2 ^ (7 - j) else c
theorem clr_val : ∀ (c : Fin 256) (j : Fin 8), bits .andNot .u8 (c.val : Int) (2 ^ (7 - j.val) % 256) = (clrB c.val j.val : Int) := by decide +kernel
theorem set_val : ∀ (c : Fin 256) (j : Fin 8), bits .or .u8 (clrB c.val j.val : Int) (2 ^ (7 - j.val) % 256) = (orB c.val j.val : Int) := by decide +kernel
theorem clr_lt : ∀ (c : Fin 256) (j : Fin 8), clrB c.val j.val < 256 := by decide +kernel
theorem infoB : (Tryz.prog.info? 5).map (fun i => (i.zero, i.size, i.bytes)) = some (some (.int .u8 0), 1, 1) := by kernel_rfl
set_option maxRecDepth 10000 in
set_option maxHeartbeats 4000000 in
theorem bsetbit_ok (w : World) (T : List UInt8) {p : Nat} (hp : p < 8388608) (hT : T.length ≤ 1048576) : Calls Tryz.prog 197 #[txt T, .int .i64 p, .int .i64 1] w fun e w' => e = .returned (.tuple #[txt (setT T p), .int .i64 (bitT T p), .int .i64 0]) ∧ Below w.heap.size w w' := by
  have hsz : (⟨T.toArray⟩ : ByteArray).size = T.length := by simp [ByteArray.size]
  obtain ⟨i0, hi0, hz0, hz1, hz2⟩ := info_parts infoB
  have HPL := Lib.hid (fun W => bplace_ok W hp)
  have HBI := Lib.hid (fun W => bbit_ok W T hp)
  obtain ⟨bt, hbt⟩ : ∃ bt, bt = bitT T p := ⟨_, rfl⟩
  obtain ⟨t2, ht2⟩ : ∃ t2, t2 = setT T p := ⟨_, rfl⟩
  rw [← hbt] at HBI ⊢
  rw [← ht2]
  have HT2 := Lib.hid ht2
  clear ht2 hbt
  unfold setT at HT2
  obtain ⟨a, ha⟩ : ∃ a, a = p / 8 := ⟨_, rfl⟩
  obtain ⟨m, hm⟩ : ∃ m, m = p % 8 := ⟨_, rfl⟩
  have hq : Int.tdiv (p : Int) 8 = (a : Int) := by rw [ha]; rfl
  have hr : Int.tmod (p : Int) 8 = (m : Int) := by rw [hm]; rfl
  have hm8 : m < 8 := by omega
  have haI : a < 1048576 := by omega
  rw [← ha, ← hm] at HT2
  clear ha hm
  obtain ⟨n, hn⟩ : ∃ n, n = max T.length (a + 1) := ⟨_, rfl⟩
  have hnm : max (T.length : Int) ((a : Int) + 1) = (n : Int) := by omega
  have han : a < n := by omega
  have hn2 : n ≤ 1048576 := by omega
  have hTn : T.length ≤ n := by omega
  have ew : IntKind.i64.wrap (7 - (m : Int)) = 7 - (m : Int) := by rw [IntKind.wrap_i64]; omega
  have HPAD := Lib.hid (show padT T (a + 1) = padT T n by
    unfold padT
    congr 2
    omega)
  clear hn
  obtain ⟨w4, hmk, hown, hgr⟩ := run_make_full (P := Tryz.prog) w w.heap.size 98 5 i0 (.int .u8 0) 1 Tryz.underlying98 hi0 hz0 hz1 .i64 .i64 n (by rw [hz2]; omega) (by unfold maxLen; omega) (Nat.le_refl _)
  have hB4 : Below w.heap.size w w4 := ⟨hgr.os, hgr.tape, hgr.output, hgr.size, fun b hb => hgr.block b hb (by simp)⟩
  have hrow : Row (none0.put w.heap.size [9]) w4 [9] 5 1 (.slice (some ⟨w.heap.size, 0, none⟩) n n) n ((List.replicate n (0 : UInt8)).map bv) := by
    rw [rep_cells] at hown
    rcases hown.2 with ⟨h1, _⟩ | ⟨g, cap, cur, h1, h2, rest⟩
    · cases h1
    · refine ⟨⟨hown.1, .inr ⟨g, cap, cur, h1, Nat.zero_le _, rest⟩⟩, fun k hk => ?_⟩
      simp only [Value.ownBlock, Option.some.injEq] at hk
      subst hk; exact Roles.put_same _ _ _
  obtain ⟨cs, hblk, hcl, _, _, hct⟩ := hrow.blk
  have hcs : cs = (List.replicate n (0 : UInt8)).map bv := by rw [← hct, Nat.mul_one]; exact (List.take_of_length_le (by omega)).symm
  subst hcs
  have hcp := fun ty => run_copy_into (P := Tryz.prog) hblk Tryz.underlying98 hi0 ty 0 n n (sT := 9) (x := .string ⟨T.toArray⟩) (m := T.length) (news := T.map bv) (by
    have := Src.ofString (P := Tryz.prog) w4 Tryz.underlying9 ⟨T.toArray⟩
    rw [hsz] at this
    rw [hz1]
    exact this) hTn (by simp; omega)
  have hblk5 := hblk.setCells 0 (T.map bv) (by simp; omega)
  rw [padT_laid T n] at hblk5
  have hst5 := (Stp.ofBelow [9] none0 hB4).name w.heap.size [9] (Nat.le_refl _) |>.setCells (g := w.heap.size) (by rw [Roles.put_same]; exact List.prefix_refl _) 0 (T.map bv)
  have HB5 := Lib.hid hst5.below0
  generalize w4.setCells w.heap.size 0 (T.map bv) = w5 at *
  clear hown hgr hB4 hrow hblk hcl hct hst5
  obtain ⟨x, hx⟩ : ∃ x, x = T.getD a 0 := ⟨_, rfl⟩
  have hpl : (padT T n).length = n := by rw [padT_length]; omega
  have hxa : (padT T n)[a]? = some x := by
    have h := padT_get T n a
    rw [List.getD_eq_getElem?_getD, List.getElem?_eq_getElem (by omega), Option.getD_some] at h
    rw [List.getElem?_eq_getElem (by omega), h, hx]
  have hc5 : w5.cell? ⟨w.heap.size, a, none⟩ = some (.int .u8 (x.toNat : Int)) := by
    rw [hblk5.cell]
    simp [hxa, bv]
  have hf5 := hblk5.free a
  have hlt5 := hblk5.lt
  have hs1 := clr_val ⟨x.toNat, x.toNat_lt⟩ ⟨m, hm8⟩
  have hs2 := set_val ⟨x.toNat, x.toNat_lt⟩ ⟨m, hm8⟩
  have hs3 := clr_lt ⟨x.toNat, x.toNat_lt⟩ ⟨m, hm8⟩
  have hol := orB_lt x hm8
  dsimp only at hs1 hs2 hs3
  have ht2 : t2 = (padT T n).set a (UInt8.ofNat (orB x.toNat m)) := by rw [HT2.out, HPAD.out, ← hx]
  have hbz : bv (UInt8.ofNat (orB x.toNat m)) = .int .u8 (orB x.toNat m : Int) := by
    unfold bv; rw [UInt8.toNat_ofNat', Nat.mod_eq_of_lt hol]
  have hcv : ∀ u, (convert 98 9 (.slice (some ⟨w.heap.size, 0, none⟩) n n)).run Tryz.prog ((w5.setCell ⟨w.heap.size, a, none⟩ u).setCell ⟨w.heap.size, a, none⟩ (.int .u8 (orB x.toNat m : Int))) = .ok (.string ⟨t2.toArray⟩) ((w5.setCell ⟨w.heap.size, a, none⟩ u).setCell ⟨w.heap.size, a, none⟩ (.int .u8 (orB x.toNat m : Int))) := fun u => by
    refine run_bytes_text _ _ _ t2 (fun j z hj => ?_) n (by rw [ht2, List.length_set, hpl])
    rw [((hblk5.setCell a u).setCell a _).cell, ← hbz]
    rw [ht2, List.getElem?_set] at hj
    simp only [Array.getElem?_setIfInBounds, Array.size_setIfInBounds]
    by_cases haj : a = j
    · subst haj
      rw [if_pos rfl, if_pos (by omega)] at hj
      cases hj
      simp [hpl, han]
    · rw [if_neg haj] at hj
      simp [haj, hj]
  have HB7 := Lib.hid (show ∀ u v, Below w.heap.size w ((w5.setCell ⟨w.heap.size, a, none⟩ u).setCell ⟨w.heap.size, a, none⟩ v) from fun u v => (HB5.out.setCell (Nat.le_refl _) u).setCell (Nat.le_refl _) v)
  generalize orB x.toNat m = z at *
  generalize clrB x.toNat m = y at *
  clear hblk5 hxa ht2 hbz hx hpl HT2 HPAD
  unfold txt at HBI ⊢
  go_enter Tryz.func197, Tryz.ntmps197
  go_wp2_with fail
  refine (HPL.out _).mono ?_; rintro e w2 ⟨rfl, rfl⟩
  go_wp2_with fail
  refine (HBI.out _).mono ?_; rintro e w3 ⟨rfl, rfl⟩
  clear HBI HPL
  go_wp2_with fail
  go_ret3
  exact ⟨rfl, HB7.out _ _⟩
set_option maxRecDepth 10000 in
theorem bplaces_ok (w : World) {n : Nat} (hn : n ≤ 1048576) : Calls Tryz.prog 248 #[.int .i64 n, .int .i64 0, .int .i64 (-1)] w fun e w' => e = .returned (.tuple #[.int .i64 0, .int .i64 n]) ∧ w' = w := by
  have e1 : IntKind.i64.wrap (-1 + (n : Int)) = (n : Int) - 1 := by rw [IntKind.wrap_i64]; omega
  have e2 : IntKind.i64.wrap ((n : Int) - 1) = (n : Int) - 1 := by rw [IntKind.wrap_i64]; omega
  have e3 : min ((n : Int) - 1) ((n : Int) - 1) = (n : Int) - 1 := by omega
  have e4 : IntKind.i64.wrap ((n : Int) - 1 + 1) = (n : Int) := by rw [IntKind.wrap_i64]; omega
  by_cases h0 : n = 0
  · subst h0
    go_enter Tryz.func248, Tryz.ntmps248
    go_wp2_with fail
    go_ret2
    exact ⟨rfl, rfl⟩
  · have hd : decide ((n : Int) ≤ 0) = false := decide_eq_false (by omega)
    go_enter Tryz.func248, Tryz.ntmps248
    go_wp2_with fail
    go_ret2
    exact ⟨rfl, rfl⟩
theorem cut_all (T : List UInt8) (W : World) : (Instr.slice 9 (.string ⟨T.toArray⟩) (some (.int .i64 0)) (some (.int .i64 (T.length : Int))) none).run Tryz.prog W = .ok (.string ⟨T.toArray⟩) W := by
  have hsz : (⟨T.toArray⟩ : ByteArray).size = T.length := by simp [ByteArray.size]
  simp [Instr.slice, run_underlying Tryz.underlying9, Instr.sliceBounds, Instr.sliceBound, asIntOf, hsz]
  rw [← hsz]
  exact ByteArray.extract_zero_size
set_option maxRecDepth 10000 in
theorem brange_ok (w : World) (T : List UInt8) (hT : T.length ≤ 1048576) : Calls Tryz.prog 193 #[txt T, .int .i64 0, .int .i64 (-1)] w fun e w' => e = .returned (txt T) ∧ w' = w := by
  have hsz : (⟨T.toArray⟩ : ByteArray).size = T.length := by simp [ByteArray.size]
  have HP := Lib.hid (fun W => bplaces_ok W hT)
  have hcut := fun W => cut_all T W
  unfold txt
  go_enter Tryz.func193, Tryz.ntmps193
  go_wp2_with fail
  refine (HP.out _).mono ?_; rintro e w2 ⟨rfl, rfl⟩
  go_wp2_with fail
  go_ret
  exact ⟨rfl, rfl⟩
theorem countT_take {T : List UInt8} {k : Nat} {x : UInt8} (hx : T[k]? = some x) : countT (T.take (k + 1)) = countT (T.take k) + Lib.onesCount x.toNat := by
  unfold countT
  rw [List.take_add_one, hx]
  simp
theorem countT_small (T : List UInt8) : countT T ≤ 8 * T.length := by
  rw [countT_eq]
  refine Nat.le_trans (List.length_filter_le _ _) (by simp)
set_option maxRecDepth 10000 in
set_option maxHeartbeats 2000000 in
theorem bcount_ok (w : World) (T : List UInt8) (hT : T.length ≤ 1048576) : Calls Tryz.prog 180 #[txt T, .int .i64 0, .int .i64 (-1)] w fun e w' => e = .returned (.int .i64 (countT T : Int)) ∧ Below w.heap.size w w' := by
  have hsz : (⟨T.toArray⟩ : ByteArray).size = T.length := by simp [ByteArray.size]
  have HR := Lib.hid (fun W => brange_ok W T hT)
  have hcv := Lib.run_convert_string_bytes (P := Tryz.prog) w 9 98 5 ⟨T.toArray⟩ Tryz.underlying9 Tryz.underlying98 Tryz.underlying5
  rw [hsz] at hcv
  have hB : Below w.heap.size w (Lib.bytesWorld w 5 ⟨T.toArray⟩) := ⟨rfl, rfl, rfl, by rw [Lib.bytesWorld_size]; omega, fun b hb => Lib.bytesWorld_at_old w _ _ b hb⟩
  have hc : ∀ (j : Nat) (x : UInt8), T[j]? = some x → (Lib.bytesWorld w 5 ⟨T.toArray⟩).cell? ⟨w.heap.size, j, none⟩ = some (bv x) := fun j x hj => by
    have hjl : j < T.length := (List.getElem?_eq_some_iff.1 hj).1
    rw [Lib.bytesWorld_cell w _ _ j (by rw [hsz]; exact hjl)]
    simp only [List.getD_eq_getElem?_getD]
    rw [hj]; rfl
  have hl : w.heap.size < (Lib.bytesWorld w 5 ⟨T.toArray⟩).heap.size := by rw [Lib.bytesWorld_size]; omega
  generalize Lib.bytesWorld w 5 ⟨T.toArray⟩ = w1 at *
  generalize grownCap w T.length 0 5 = cap at *
  have HC := Lib.hid hc
  have HB := Lib.hid hB
  clear hc hB
  unfold txt at *
  go_enter Tryz.func180, Tryz.ntmps180
  go_wp2_with fail
  refine (HR.out _).mono ?_; rintro e w2 ⟨rfl, rfl⟩
  go_wp2_with fail
  go_loopw [7, 16] (fun n i wr => ∃ k : Nat, k ≤ T.length ∧ i = .int .i64 (k : Int) ∧ n = .int .i64 (countT (T.take k) : Int) ∧ wr = w1) (fun _ i _ => T.length - (intOf i).toNat)
  case atStart => exact ⟨0, Nat.zero_le _, rfl, rfl, rfl⟩
  case round =>
    obtain ⟨k, hk, rfl, rfl, rfl⟩ := hrel
    by_cases hkl : k < T.length
    · obtain ⟨x, hx⟩ : ∃ x, T[k]? = some x := ⟨_, List.getElem?_eq_getElem hkl⟩
      have hcell : wr.cell? ⟨w2.heap.size, k, none⟩ = some (.int .u8 x.toNat) := HC.out k x hx
      have hxb := x.toNat_lt
      have HO := Lib.hid (Tryz.bits_OnesCount8 (x.toNat : Int) wr (by omega) (by omega))
      have hcs := countT_small (T.take k)
      have hct := countT_take hx
      have hle : Lib.onesCount x.toNat ≤ 8 := Lib.onesCount_le8 ⟨x.toNat, hxb⟩
      rw [List.length_take] at hcs
      have hsm : countT (T.take k) ≤ 8388608 := by omega
      have hkI : (0 : Int) ≤ k ∧ (k : Int) < T.length := by omega
      have hct2 : (countT (T.take (k + 1)) : Int) = (countT (T.take k) : Int) + (Lib.onesCount x.toNat : Int) := by rw [hct]; omega
      have D := Lib.hid hct2
      clear hct hcs hx hct2
      generalize countT (T.take k) = n at *
      go_wp2_with fail
      refine HO.out.mono ?_; rintro e w3 ⟨rfl, rfl⟩
      rw [show (x.toNat : Int).toNat = x.toNat from rfl]
      have ew : IntKind.i64.wrap ((n : Int) + (Lib.onesCount x.toNat : Int)) = (n : Int) + (Lib.onesCount x.toNat : Int) := by rw [IntKind.wrap_i64]; omega
      go_wp2_with fail
      go_roundw
      case rel => exact ⟨k + 1, hkl, by go_num, by rw [D.out], by first | rfl | trivial⟩
      case measure => simp [intOf]; omega
    · obtain rfl : k = T.length := by omega
      rw [List.take_length]
      go_wp2_with fail
      go_ret
      exact ⟨rfl, HB.out⟩
set_option maxRecDepth 10000 in
set_option maxHeartbeats 2000000 in
theorem bfirst_ok (w : World) (T : List UInt8) (hT : T.length ≤ 1048576) : Calls Tryz.prog 185 #[txt T, .int .i64 1, .int .i64 0, .int .i64 (-1)] w fun e w' => e = .returned (.tuple #[.int .i64 (firstT 0 T), .int .i64 0]) ∧ w' = w := by
  have hsz : (⟨T.toArray⟩ : ByteArray).size = T.length := by simp [ByteArray.size]
  have HP := Lib.hid (fun W => bplaces_ok W hT)
  unfold txt
  go_enter Tryz.func185, Tryz.ntmps185
  go_wp2_with fail
  refine (HP.out _).mono ?_; rintro e w2 ⟨rfl, rfl⟩
  go_wp2_with fail
  go_loopw [12] (fun i wr => ∃ k : Nat, k ≤ T.length ∧ i = .int .i64 (k : Int) ∧ firstT 0 T = firstT k (T.drop k) ∧ wr = w2) (fun i _ => T.length - (intOf i).toNat)
  case atStart => exact ⟨0, Nat.zero_le _, rfl, rfl, rfl⟩
  case round =>
    obtain ⟨k, hk, rfl, hf, rfl⟩ := hrel
    by_cases hkl : k < T.length
    · obtain ⟨x, hx⟩ : ∃ x, T[k]? = some x := ⟨_, List.getElem?_eq_getElem hkl⟩
      have hix := fun W => idx_ok hx W
      have hxb := x.toNat_lt
      have hd : T.drop k = x :: T.drop (k + 1) := by
        rw [List.drop_eq_getElem_cons hkl]
        congr 1
        rw [List.getElem?_eq_getElem hkl] at hx
        cases hx; rfl
      rw [hd, firstT] at hf
      have hkI : (0 : Int) ≤ k ∧ (k : Int) < T.length := by omega
      by_cases h0 : x = 0
      · rw [if_pos h0] at hf
        have D := Lib.hid hf
        subst h0
        clear hf hd hx
        go_wp2_with fail
        go_roundw
        case rel => exact ⟨k + 1, hkl, by go_num, D.out, by first | rfl | trivial⟩
        case measure => simp [intOf]; omega
      · rw [if_neg h0] at hf
        have hne : ((x.toNat : Int) != 0) = true := by
          have : x.toNat ≠ 0 := fun e => h0 (UInt8.toNat_inj.1 (by simpa using e))
          simp; omega
        have hbl : Lib.bitLen x.toNat ≤ 8 := Lib.bitLen_le8 ⟨x.toNat, hxb⟩
        have HL := Lib.hid (Tryz.bits_LeadingZeros8 (x.toNat : Int) wr (by omega) (by omega))
        have D := Lib.hid hf
        clear hf hd hx h0
        go_wp2_with fail
        refine HL.out.mono ?_; rintro e w3 ⟨rfl, rfl⟩
        rw [show (x.toNat : Int).toNat = x.toNat from rfl]
        go_wp2_with fail
        go_ret2
        refine ⟨?_, rfl⟩
        rw [D.out]
        rw [show ((8 * k + (8 - Lib.bitLen x.toNat) : Nat) : Int) = 8 * (k : Int) + (8 - (Lib.bitLen x.toNat : Int)) by omega]
        rfl
    · obtain rfl : k = T.length := by omega
      rw [List.drop_length] at hf
      have D := Lib.hid hf
      clear hf
      go_wp2_with fail
      go_ret2
      exact ⟨by rw [D.out]; rfl, rfl⟩
end Go.Proofs.YthojmgjgmbnopaaGreatDoor
