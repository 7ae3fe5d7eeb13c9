/- What has no body and turns nothing: the comparison of texts; a text's copy. -/
import Derived.Test.YthojmgjgmbnopaaGreatDoorEs
import Derived.Test.YthojmgjgmbnopaaGreatDoorQd
import Derived.Test.YthojmgjgmbnopaaGreatDoorSc
import Derived.Lib.Bytealg
import Derived.Laws.Externs
namespace Go.Proofs.YthojmgjgmbnopaaGreatDoor
open Go Go.RowKit
theorem cmp_lt : ∀ (a b : List UInt8), Lib.compareBytes a b = if bytesLt a b then -1 else if bytesEq a b then 0 else 1
  | [], [] => rfl
  | [], _ :: _ => rfl
  | _ :: _, [] => rfl
  | a :: x, b :: y => by
    show (if a < b then -1 else if b < a then 1 else Lib.compareBytes x y) = _
    rw [cmp_lt x y]
    by_cases h : a.toNat = b.toNat
    · have e : Nat.beq a.toNat b.toNat = true := by rw [Nat.beq_eq]; exact h
      have l1 : bytesLt (a :: x) (b :: y) = bytesLt x y := by simp only [bytesLt, e, cond_true]
      have l2 : bytesEq (a :: x) (b :: y) = bytesEq x y := by simp only [bytesEq, e, Bool.true_and]
      rw [l1, l2, if_neg (by rw [UInt8.lt_iff_toNat_lt]; omega), if_neg (by rw [UInt8.lt_iff_toNat_lt]; omega)]
    · have e : Nat.beq a.toNat b.toNat = false := by rw [← Bool.not_eq_true]; exact fun h' => h (Nat.eq_of_beq_eq_true h')
      have l2 : bytesEq (a :: x) (b :: y) = false := by simp only [bytesEq, e, Bool.false_and]
      by_cases hl : a.toNat < b.toNat
      · have l1 : bytesLt (a :: x) (b :: y) = true := by simp only [bytesLt, e, cond_false]; exact Nat.ble_eq_true_of_le hl
        rw [l1, l2, if_pos (by rw [UInt8.lt_iff_toNat_lt]; exact hl), if_pos rfl]
      · have l1 : bytesLt (a :: x) (b :: y) = false := by simp only [bytesLt, e, cond_false]; rw [← Bool.not_eq_true]; exact fun h' => hl (Nat.le_of_ble_eq_true h')
        rw [l1, l2, if_neg (by rw [UInt8.lt_iff_toNat_lt]; omega), if_pos (by rw [UInt8.lt_iff_toNat_lt]; omega)]
        rfl
theorem X0_ok : XOk X0 := by
  intro f g vs v hf hg ρ vs' w hv
  unfold X0 at hf
  by_cases h : f = 297
  · subst h
    rw [if_pos rfl] at hf
    cases (Option.some.inj hf)
    dsimp only at hg
    split at hg
    · rename_i a b
      cases (Option.some.inj hg)
      cases hv with | cons h1 k1 =>
      cases k1 with | cons h2 k2 =>
      cases k2
      cases h1
      cases h2
      refine ⟨_, ?_, .int _ _⟩
      have hr := run_callFunc_extern (P := P) Tryz.func297 (by kernel_rfl) (by kernel_rfl) (by kernel_rfl) (e := Extern.BytealgCompare.compare) (by kernel_rfl) #[.string a, .string b] w
      have hr2 := Lib.run_compareString (P := P) a b w
      rw [cmp_lt] at hr2
      rw [hr2] at hr
      exact hr
    · cases hg
  · rw [if_neg h] at hf; cases hf
theorem clone_known {G : Nat} {W : World} {ρ : Rho} {st st' : St} {w : World} {vs vs' : List Value} {v : Value} (h : okClone vs st = some (v, st')) (hS : Sim G W ρ st w) (hv : VRs ρ vs vs') :
    Calls P 301 ⟨vs'⟩ w (Gives G W ρ st v st') := by
  unfold okClone at h
  split at h
  · rename_i a
    cases hb : Nat.ble a.length 281474976710656 with
    | false => rw [hb] at h; exact nn h
    | true =>
      rw [hb] at h
      have h := Option.some.inj h
      injection h with h1 h2
      subst h1
      subst h2
      cases hv with | cons h1 k1 =>
      cases k1
      cases h1
      refine (Tryz.stringslite_Clone ⟨⟨a⟩⟩ w (Nat.le_of_ble_eq_true hb)).mono ?_
      rintro e w' ⟨rfl, hB⟩
      exact ⟨_, ρ, rfl, .string _, hS.step hB, Ext.refl _ _⟩
  · exact nn h
end Go.Proofs.YthojmgjgmbnopaaGreatDoor
