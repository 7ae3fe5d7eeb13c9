import Derived.Test.YtoganolkgmilaaaGreatDoorXM
import Derived.Test.YtoganolkgmilaaaGreatDoorXP
import Derived.Lib.SmallJoins
namespace Go.Proofs.YtoganolkgmilaaaGreatDoor
open Go Go.RowKit
/-! The document's Print; a number's text is read back. -/
theorem parseUintM_app (M : Nat) : ∀ (l1 l2 : List UInt8) (acc a : Nat), Lib.parseUintM M acc l1 = .ok a → Lib.parseUintM M acc (l1 ++ l2) = Lib.parseUintM M a l2
  | [], l2, acc, a, h => by
    unfold Lib.parseUintM at h
    cases h; rfl
  | c :: r, l2, acc, a, h => by
    rw [List.cons_append]
    rw [Lib.parseUintM] at h
    conv => lhs; rw [Lib.parseUintM]
    split at h
    · rename_i hc
      rw [if_pos hc]
      split at h
      · cases h
      · rename_i h1
        rw [if_neg h1]
        split at h
        · cases h
        · rename_i h2
          rw [if_neg h2]
          exact parseUintM_app M r l2 _ a h
    · cases h
theorem dig_toNat {k : Nat} (h : k < 10) : (UInt8.ofNat (48 + k)).toNat = 48 + k := by
  rw [UInt8.toNat_ofNat']
  show (48 + k) % 256 = _
  omega
theorem parse_dec (M : Nat) (hM : M ≤ 18446744073709551615) : ∀ u : Nat, u ≤ M → Lib.parseUintM M 0 (Lib.decDigits u) = .ok u := by
  intro u
  induction u using Nat.strongRecOn with
  | _ u ih =>
    intro hu
    rw [Lib.decDigits]
    split
    · rename_i h
      unfold Lib.parseUintM
      rw [dig_toNat h, if_pos (by omega), if_neg (by omega), if_neg (by omega)]
      unfold Lib.parseUintM
      congr 1; omega
    · rename_i h
      rw [parseUintM_app M _ _ 0 (u / 10) (ih (u / 10) (by omega) (by omega))]
      have hk : u % 10 < 10 := Nat.mod_lt _ (by decide)
      unfold Lib.parseUintM
      rw [dig_toNat hk, if_pos (by omega), if_neg (by omega), if_neg (by omega)]
      unfold Lib.parseUintM
      congr 1; omega
theorem dec_digit (u : Nat) : ∀ c ∈ Lib.decDigits u, 48 ≤ c.toNat ∧ c.toNat ≤ 57 := by
  induction u using Nat.strongRecOn with
  | _ u ih =>
    rw [Lib.decDigits]
    split
    · rename_i h
      intro c hc
      rw [List.mem_singleton.1 hc, dig_toNat h]; omega
    · rename_i h
      intro c hc
      rcases List.mem_append.1 hc with hc | hc
      · exact ih (u / 10) (by omega) c hc
      · rw [List.mem_singleton.1 hc, dig_toNat (Nat.mod_lt _ (by decide))]
        have := Nat.mod_lt u (show 0 < 10 by decide)
        omega
theorem dec_ne (u : Nat) : Lib.decDigits u ≠ [] := by
  rw [Lib.decDigits]; split <;> simp
theorem parseB_itoa {n : Int} (h : -9223372036854775808 ≤ n ∧ n ≤ 9223372036854775807) : Lib.parseIntB 64 (Lib.itoa n) = .ok n := by
  have e64 : (2 : Nat) ^ 64 - 1 = 18446744073709551615 := by decide
  have e63 : (2 : Nat) ^ (64 - 1) = 9223372036854775808 := by decide
  unfold Lib.itoa
  split
  · rename_i hn
    unfold Lib.parseIntB
    simp only [UInt8.reduceToNat, Nat.reduceEqDiff, if_true, or_true]
    unfold Lib.parseUintB
    rw [if_neg (dec_ne _), e64, parse_dec _ (Nat.le_refl _) n.natAbs (by omega)]
    dsimp only
    rw [e63]
    rw [if_neg (by simp), if_neg (by omega)]
    congr 1
    omega
  · rename_i hn
    have hd := dec_digit n.toNat
    have hp := parse_dec 18446744073709551615 (Nat.le_refl _) n.toNat (by omega)
    cases hl : Lib.decDigits n.toNat with
    | nil => exact absurd hl (dec_ne _)
    | cons c r =>
      rw [hl] at hd hp
      have hc := hd c (by simp)
      unfold Lib.parseIntB
      dsimp only
      rw [if_neg (by omega)]
      unfold Lib.parseUintB
      rw [if_neg (by simp), e64, hp]
      dsimp only
      rw [e63]
      rw [if_neg (by omega), if_neg (by omega), if_neg (by omega)]
      congr 1
      omega
theorem parseN_itoa {n : Int} (h : -9223372036854775808 ≤ n ∧ n ≤ 9223372036854775807) : parseN (Lib.itoa n) = some n := by
  unfold parseN
  rw [parseB_itoa h]
  exact if_pos rfl
theorem dec_len : ∀ (k u : Nat), u < 10 ^ k → (Lib.decDigits u).length ≤ k + 1
  | 0, u, h => by
    have : u = 0 := by simpa using h
    subst this
    rw [Lib.decDigits]; simp
  | k + 1, u, h => by
    rw [Lib.decDigits]
    split
    · simp
    · have := dec_len k (u / 10) (by rw [Nat.pow_succ] at h; omega)
      simp; omega
theorem itoa_len {n : Int} (h : -9223372036854775808 ≤ n ∧ n ≤ 9223372036854775807) : (Lib.itoa n).length ≤ 100 := by
  have h1 := dec_len 30 n.natAbs (by have : (10 : Nat) ^ 30 = 1000000000000000000000000000000 := by decide
                                     omega)
  have h2 := dec_len 30 n.toNat (by have : (10 : Nat) ^ 30 = 1000000000000000000000000000000 := by decide
                                    omega)
  unfold Lib.itoa
  split
  · simp; omega
  · omega
theorem itoa_dec {n : Int} (h : -9223372036854775808 ≤ n ∧ n ≤ 9223372036854775807) : (Lib.decDigits n.natAbs).length ≤ 100 := by
  have h1 := dec_len 30 n.natAbs (by have : (10 : Nat) ^ 30 = 1000000000000000000000000000000 := by decide
                                     omega)
  omega
theorem bytes_app2 (a b : List UInt8) : (⟨a.toArray⟩ : ByteArray) ++ ⟨b.toArray⟩ = ⟨(a ++ b).toArray⟩ := rfl
theorem bsz (s : List UInt8) : (⟨s.toArray⟩ : ByteArray).size = s.length := by simp [ByteArray.size]
def PrRel (w : World) (N : Nat) (a b : Value) (wr : World) : Prop :=
  ∃ (u : Nat) (s : List UInt8), a = .int .u64 (u : Int) ∧ b = .string ⟨s.toArray⟩ ∧ u ≤ N ∧ (0 < u → Lib.decDigits N = Lib.decDigits u ++ s) ∧ (u = 0 → s = Lib.decDigits N) ∧ Below w.heap.size w wr
theorem PrRel.next {w wr : World} {N u : Nat} {s : List UInt8} (hu : u ≤ N) (h0 : 0 < u) (h : Lib.decDigits N = Lib.decDigits u ++ s) (hB : Below w.heap.size w wr) : PrRel w N (.int .u64 ((u / 10 : Nat) : Int)) (.string ⟨(UInt8.ofNat (48 + u % 10) :: s).toArray⟩) wr := by
  refine ⟨u / 10, _, rfl, rfl, by omega, fun h1 => ?_, fun h1 => ?_, hB⟩
  · rw [h]
    have e : Lib.decDigits u = Lib.decDigits (u / 10) ++ [UInt8.ofNat (48 + u % 10)] := by
      conv => lhs; rw [Lib.decDigits]
      rw [dif_neg (by omega)]
    rw [e]; simp
  · have hl : u < 10 := by omega
    rw [h]
    have e : Lib.decDigits u = [UInt8.ofNat (48 + u)] := by rw [Lib.decDigits, dif_pos hl]
    rw [e, Nat.mod_eq_of_lt hl]; simp
set_option maxRecDepth 10000 in
set_option maxHeartbeats 4000000 in
theorem print_ok (w : World) {n : Int} (hn : -9223372036854775808 ≤ n ∧ n ≤ 9223372036854775807) : Calls Tryz.prog 22 #[.int .i64 n] w fun e w' => e = .returned (.string ⟨(Lib.itoa n).toArray⟩) ∧ Below w.heap.size w w' := by
  by_cases h0 : n = 0
  · subst h0
    go_enter Tryz.func22, Tryz.ntmps22
    go_wp2_with fail
    go_ret
    exact ⟨by rw [show Lib.itoa 0 = [48] by decide +kernel]; rfl, Below.refl _ _⟩
  · have e0 : (n == 0) = false := beq_eq_false_iff_ne.2 h0
    have hN0 : 0 < n.natAbs := by omega
    by_cases hneg : n < 0
    · have ew : IntKind.u64.wrap (-IntKind.u64.wrap n) = (n.natAbs : Int) := by
        simp only [IntKind.wrap_u64]; omega
      have hat : PrRel w n.natAbs (.int .u64 (n.natAbs : Int)) (.string ⟨#[]⟩) w := ⟨n.natAbs, [], rfl, rfl, Nat.le_refl _, fun _ => by simp, fun e => by omega, Below.refl _ _⟩
      go_enter Tryz.func22, Tryz.ntmps22
      go_wp2_with fail
      go_loopw [3, 4] (fun a b wr => PrRel w n.natAbs a b wr) (fun a _ _ => (intOf a).toNat)
      case atStart => exact hat
      case round =>
        clear hat
        obtain ⟨u, s, rfl, rfl, huN, hpos, hzero, hB⟩ := hrel
        by_cases hu : 0 < u
        · have hm : Int.tmod (u : Int) 10 = ((u % 10 : Nat) : Int) := rfl
          have hq : Int.tdiv (u : Int) 10 = ((u / 10 : Nat) : Int) := rfl
          have huI : (0 : Int) < u := by omega
          have hk : u % 10 < 10 := Nat.mod_lt _ (by decide)
          have hcv := run_bytes_text (wr.alloc (.cells #[bv (UInt8.ofNat (48 + u % 10))] 5)) wr.heap.size 1 [UInt8.ofNat (48 + u % 10)] (fun j x hj => by
            have h0 : j = 0 := by have := (List.getElem?_eq_some_iff.1 hj).1; simp at this; omega
            subst h0
            cases hj
            unfold World.cell?
            rw [heap_alloc_new]
            rfl) 1 rfl
          unfold bv at hcv
          rw [dig_toNat hk] at hcv
          have e48 : ((48 + u % 10 : Nat) : Int) = 48 + (u : Int) % 10 := by omega
          have hB2 : Below w.heap.size w (wr.alloc (.cells #[.int .u8 ((48 + u % 10 : Nat) : Int)] 5)) := hB.alloc hB.size _
          have D := Lib.hid (PrRel.next huN hu (hpos hu) hB2)
          have hui : u ≤ 9223372036854775808 := by omega
          have hdl := itoa_dec (n := n) hn
          have hsl : s.length ≤ 100 := by rw [hpos hu, List.length_append] at hdl; omega
          have hsz := bsz s
          have hba := bytes_app2 [UInt8.ofNat (48 + u % 10)] s
          rw [e48] at hcv D
          clear e48 hdl
          clear hpos hzero hB hB2
          go_wp2_with fail
          refine ⟨?_, by simp [intOf]; omega⟩
          rw [show ((⟨#[48 + UInt8.ofNat (u % 10)]⟩ : ByteArray) ++ ⟨s.toArray⟩) = ⟨(UInt8.ofNat (48 + u % 10) :: s).toArray⟩ from by rw [UInt8.ofNat_add]; rfl]
          exact D.out
        · obtain rfl : u = 0 := by omega
          have hs := hzero rfl
          subst hs
          have hdl := itoa_dec (n := n) hn
          have hsz := bsz (Lib.decDigits n.natAbs)
          have HB := Lib.hid hB
          clear hpos hzero hB
          go_wp2_with fail
          go_ret
          exact ⟨by rw [show Lib.itoa n = 45 :: Lib.decDigits n.natAbs from if_pos hneg]; rfl, HB.out⟩
    · have ew : n = (n.natAbs : Int) := by omega
      have hat : PrRel w n.natAbs (.int .u64 n) (.string ⟨#[]⟩) w := ⟨n.natAbs, [], by rw [← ew], rfl, Nat.le_refl _, fun _ => by simp, fun e => by omega, Below.refl _ _⟩
      clear ew
      go_enter Tryz.func22, Tryz.ntmps22
      go_wp2_with fail
      go_loopw [3, 4] (fun a b wr => PrRel w n.natAbs a b wr) (fun a _ _ => (intOf a).toNat)
      case atStart => exact hat
      case round =>
        clear hat
        obtain ⟨u, s, rfl, rfl, huN, hpos, hzero, hB⟩ := hrel
        by_cases hu : 0 < u
        · have hm : Int.tmod (u : Int) 10 = ((u % 10 : Nat) : Int) := rfl
          have hq : Int.tdiv (u : Int) 10 = ((u / 10 : Nat) : Int) := rfl
          have huI : (0 : Int) < u := by omega
          have hk : u % 10 < 10 := Nat.mod_lt _ (by decide)
          have hcv := run_bytes_text (wr.alloc (.cells #[bv (UInt8.ofNat (48 + u % 10))] 5)) wr.heap.size 1 [UInt8.ofNat (48 + u % 10)] (fun j x hj => by
            have h0 : j = 0 := by have := (List.getElem?_eq_some_iff.1 hj).1; simp at this; omega
            subst h0
            cases hj
            unfold World.cell?
            rw [heap_alloc_new]
            rfl) 1 rfl
          unfold bv at hcv
          rw [dig_toNat hk] at hcv
          have e48 : ((48 + u % 10 : Nat) : Int) = 48 + (u : Int) % 10 := by omega
          have hB2 : Below w.heap.size w (wr.alloc (.cells #[.int .u8 ((48 + u % 10 : Nat) : Int)] 5)) := hB.alloc hB.size _
          have D := Lib.hid (PrRel.next huN hu (hpos hu) hB2)
          have hui : u ≤ 9223372036854775808 := by omega
          have hdl := itoa_dec (n := n) hn
          have hsl : s.length ≤ 100 := by rw [hpos hu, List.length_append] at hdl; omega
          have hsz := bsz s
          have hba := bytes_app2 [UInt8.ofNat (48 + u % 10)] s
          rw [e48] at hcv D
          clear e48 hdl
          clear hpos hzero hB hB2
          go_wp2_with fail
          refine ⟨?_, by simp [intOf]; omega⟩
          rw [show ((⟨#[48 + UInt8.ofNat (u % 10)]⟩ : ByteArray) ++ ⟨s.toArray⟩) = ⟨(UInt8.ofNat (48 + u % 10) :: s).toArray⟩ from by rw [UInt8.ofNat_add]; rfl]
          exact D.out
        · obtain rfl : u = 0 := by omega
          have hs := hzero rfl
          subst hs
          have hdl := itoa_dec (n := n) hn
          have hsz := bsz (Lib.decDigits n.natAbs)
          have HB := Lib.hid hB
          clear hpos hzero hB
          go_wp2_with fail
          go_ret
          exact ⟨by rw [show Lib.itoa n = Lib.decDigits n.natAbs from by unfold Lib.itoa; rw [if_neg (by omega)]; congr 1; omega]; rfl, HB.out⟩
end Go.Proofs.YtoganolkgmilaaaGreatDoor
