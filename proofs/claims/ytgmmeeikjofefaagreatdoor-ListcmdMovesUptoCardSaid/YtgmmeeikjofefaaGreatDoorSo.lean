import Derived.Test.YtgmmeeikjofefaaGreatDoorSL
import Derived.Lib.Bytealg
namespace Go.Proofs.YtgmmeeikjofefaaGreatDoor
open Go Go.RowKit
/-! The table's rows, sorted by name. -/
instance : Inhabited SpecM := ⟨⟨[], 0, false, false, 0, 0, 0⟩⟩
set_option maxRecDepth 10000 in
theorem bCompare_ok (a b : ByteArray) (w : World) : Calls Tryz.prog 177 #[.string a, .string b] w fun e w' => e = .returned (.int .i64 (Lib.compareBytes a.data.toList b.data.toList)) ∧ w' = w := by
  go_enter Tryz.func177, Tryz.ntmps177
  go_wp2
  rw [run_callFunc_extern Tryz.func205 (by kernel_rfl) (by kernel_rfl) (by kernel_rfl) (e := Extern.BytealgCompare.compare) (by kernel_rfl), Lib.run_compareString]
  simp only [Result.andThen]
  rw [Oper.upon_value]
  go_wp2
  go_ret
  exact ⟨rfl, rfl⟩
set_option maxRecDepth 10000 in
theorem sCompare_ok (a b : ByteArray) (w : World) : Calls Tryz.prog 157 #[.string a, .string b] w fun e w' => e = .returned (.int .i64 (Lib.compareBytes a.data.toList b.data.toList)) ∧ w' = w := by
  have H := bCompare_ok a b w
  generalize Lib.compareBytes a.data.toList b.data.toList = r at *
  go_enter Tryz.func157, Tryz.ntmps157
  go_wp2_with fail
  refine H.mono ?_; rintro e w' ⟨rfl, rfl⟩
  go_wp2_with fail
  go_ret
  exact ⟨rfl, rfl⟩
def cfS (x y : SpecM) : Int := Lib.compareBytes x.name y.name
set_option maxRecDepth 10000 in
theorem tCmp_ok (x y : SpecM) (W : World) : Calls Tryz.prog 156 #[.agg (specC x).toArray, .agg (specC y).toArray] W fun e w' => e = .returned (.int .i64 (cfS x y)) ∧ ∃ q os', w' = Sort.grow (W.drewN q) os' := by
  have H := fun W' => sCompare_ok ⟨x.name.toArray⟩ ⟨y.name.toArray⟩ W'
  unfold cfS
  simp only at H
  generalize Lib.compareBytes x.name y.name = r at *
  unfold specC
  go_enter Tryz.func156, Tryz.ntmps156
  go_wp2_with fail
  refine (H _).mono ?_; rintro e w' ⟨rfl, rfl⟩
  go_wp2_with fail
  go_ret
  exact ⟨rfl, 0, _, by rw [Sort.alloc_eq_grow, Sort.alloc_eq_grow, Sort.grow_grow]; rfl⟩
theorem cb_cons (x : UInt8) (a : List UInt8) (y : UInt8) (b : List UInt8) : Lib.compareBytes (x :: a) (y :: b) = if x < y then -1 else if y < x then 1 else Lib.compareBytes a b := rfl
theorem cb_irrefl : ∀ a : List UInt8, Lib.compareBytes a a = 0
  | [] => rfl
  | x :: t => by unfold Lib.compareBytes; simp [cb_irrefl t]
theorem cb_trans : ∀ a b c : List UInt8, Lib.compareBytes a b < 0 → Lib.compareBytes b c < 0 → Lib.compareBytes a c < 0
  | [], [], _, h, _ => by simp [Lib.compareBytes] at h
  | [], _ :: _, [], _, h => by simp [Lib.compareBytes] at h
  | [], _ :: _, _ :: _, _, _ => by simp [Lib.compareBytes]
  | _ :: _, [], _, h, _ => by simp [Lib.compareBytes] at h
  | _ :: _, _ :: _, [], _, h => by simp [Lib.compareBytes] at h
  | x :: a, y :: b, z :: c, h1, h2 => by
    have ih := cb_trans a b c
    rw [cb_cons] at h1 h2 ⊢
    simp only [UInt8.lt_iff_toNat_lt] at h1 h2 ⊢
    split at h1
    · split at h2
      · rw [if_pos (by omega)]; decide
      · split at h2
        · exact absurd h2 (by decide)
        · rw [if_pos (by omega)]; decide
    · split at h1
      · exact absurd h1 (by decide)
      · split at h2
        · rw [if_pos (by omega)]; decide
        · split at h2
          · exact absurd h2 (by decide)
          · rw [if_neg (by omega), if_neg (by omega)]
            exact ih h1 h2
theorem cb_ntrans : ∀ a b c : List UInt8, ¬ Lib.compareBytes a b < 0 → ¬ Lib.compareBytes b c < 0 → ¬ Lib.compareBytes a c < 0
  | [], [], _, _, h => h
  | [], _ :: _, _, h, _ => absurd (by simp [Lib.compareBytes]) h
  | _ :: _, [], [], _, _ => by simp [Lib.compareBytes]
  | _ :: _, [], _ :: _, _, h => absurd (by simp [Lib.compareBytes]) h
  | _ :: _, _ :: _, [], _, _ => by simp [Lib.compareBytes]
  | x :: a, y :: b, z :: c, h1, h2 => by
    have ih := cb_ntrans a b c
    rw [cb_cons] at h1 h2 ⊢
    simp only [UInt8.lt_iff_toNat_lt] at h1 h2 ⊢
    split at h1
    · exact absurd (by decide) h1
    · split at h1
      · split at h2
        · exact absurd (by decide) h2
        · split at h2
          · rw [if_neg (by omega), if_pos (by omega)]; decide
          · rw [if_neg (by omega), if_pos (by omega)]; decide
      · split at h2
        · exact absurd (by decide) h2
        · split at h2
          · rw [if_neg (by omega), if_pos (by omega)]; decide
          · rw [if_neg (by omega), if_neg (by omega)]
            exact ih h1 h2
theorem cf_swo : Sort.SWO (ltOf cfS) where
  irrefl x := by simp [ltOf, cfS, cb_irrefl]
  trans x y z h1 h2 := by
    exact decide_eq_true (cb_trans _ _ _ (of_decide_eq_true h1) (of_decide_eq_true h2))
  ntrans x y z h1 h2 := by
    exact decide_eq_false (cb_ntrans _ _ _ (of_decide_eq_false h1) (of_decide_eq_false h2))
end Go.Proofs.YtgmmeeikjofefaaGreatDoor
