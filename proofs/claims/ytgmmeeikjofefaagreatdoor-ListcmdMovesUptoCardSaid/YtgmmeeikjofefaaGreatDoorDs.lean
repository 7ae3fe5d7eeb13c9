import Derived.Test.YtgmmeeikjofefaaGreatDoorDp
namespace Go.Proofs.YtgmmeeikjofefaaGreatDoor
open Go Go.RowKit
section
variable {o : Roles} {w : World} {r : List Nat} {d B : Nat} {l : List (List UInt8)}
def EndsDid (w : World) (n : Nat) (a b : Int) (e : Ending) (w' : World) : Prop :=
  ∃ x y : Int, e = .returned (.tuple #[.int .i64 x, .int .i64 y]) ∧ x = (endsL n a b).1 ∧ y = (endsL n a b).2 ∧ ∃ k, w' = w.drewN k
set_option maxRecDepth 10000 in
set_option maxHeartbeats 1000000 in
theorem dends_ok (h : DeqI o w r d B l) (hB : B ≤ 1099511627776) (a b : Int) (ha : -9223372036854775808 ≤ a ∧ a ≤ 9223372036854775807) (hb : -9223372036854775808 ≤ b ∧ b ≤ 9223372036854775807) :
    Calls Tryz.prog 128 #[.pointer (some ⟨d, 0, none⟩), .int .i64 a, .int .i64 b] w (EndsDid w l.length a b) := by
  have H := Lib.hid (dlen_ok h)
  have hl : l.length ≤ 1099511627776 := by obtain ⟨_, _, h⟩ := h; have := h.few; omega
  clear h
  generalize l.length = n at *
  go_enter Tryz.func128, Tryz.ntmps128
  go_wp2_with fail
  refine H.out.mono ?_; rintro e w1 ⟨rfl, k, rfl⟩
  go_wp2_with fail
  all_goals (
    go_ret2
    have hlo := loE_ge n a
    have e1 : (a < 0 → loE n a = max 0 (a + n)) ∧ (¬ a < 0 → loE n a = a) := ⟨loE_neg, loE_pos⟩
    have e2 : (b < 0 → hiE n b = min (b + n) ((n : Int) - 1)) ∧ (¬ b < 0 → hiE n b = min b ((n : Int) - 1)) := ⟨hiE_neg, hiE_pos⟩
    by_cases hq : hiE n b < loE n a
    · rw [EndsDid, endsL_bad hq]
      refine ⟨_, _, rfl, ?_, ?_, k, rfl⟩
      · first | rfl | (dsimp; omega) | omega
      · first | rfl | (dsimp; omega) | omega
    · rw [EndsDid, endsL_good hq]
      refine ⟨_, _, rfl, ?_, ?_, k, rfl⟩
      · dsimp; omega
      · dsimp; omega)
theorem endsL_ok (n : Nat) (a b : Int) : (endsL n a b).1 ≤ (endsL n a b).2 ∧ (endsL n a b).2 ≤ n := by
  by_cases hq : hiE n b < loE n a
  · rw [endsL_bad hq]; exact ⟨Nat.le_refl _, Nat.zero_le _⟩
  · rw [endsL_good hq]
    have h1 := loE_ge n a
    have h2 : hiE n b ≤ (n : Int) - 1 := by unfold hiE; omega
    constructor
    · show (loE n a).toNat ≤ (hiE n b + 1).toNat; omega
    · show (hiE n b + 1).toNat ≤ n; omega
def pieceL (l : List (List UInt8)) (a b : Int) : List (List UInt8) := (l.drop (endsL l.length a b).1).take ((endsL l.length a b).2 - (endsL l.length a b).1)
set_option maxRecDepth 10000 in
theorem dslice_ok (h : DeqI o w r d B l) (hB : B ≤ 1099511627776) (a b : Int) (ha : -9223372036854775808 ≤ a ∧ a ≤ 9223372036854775807) (hb : -9223372036854775808 ≤ b ∧ b ≤ 9223372036854775807) :
    Calls Tryz.prog 77 #[.pointer (some ⟨d, 0, none⟩), .int .i64 a, .int .i64 b] w fun e w' => ∃ v', e = .returned v' ∧ Fresh w w' 9 1 v' (pieceL l a b).length ((pieceL l a b).map txt) := by
  have HE := Lib.hid (dends_ok h hB a b ha hb)
  have HA := Lib.hid (fun k => dall_ok (h.below (below_drewN (Below.refl _ w) k)))
  have hl : l.length ≤ 1099511627776 := by obtain ⟨_, _, h⟩ := h; have := h.few; omega
  obtain ⟨hE1, hE2⟩ := endsL_ok l.length a b
  have HP := Lib.hid (show (pieceL l a b).map txt = ((l.map txt).drop (endsL l.length a b).1).take ((endsL l.length a b).2 - (endsL l.length a b).1) by unfold pieceL; rw [List.map_take, List.map_drop])
  have hpl : (pieceL l a b).length = (endsL l.length a b).2 - (endsL l.length a b).1 := by unfold pieceL; simp; omega
  have HPL := Lib.hid hpl
  have HO := Lib.hid (one_list (pieceL l a b))
  clear h hpl
  unfold EndsDid at HE
  generalize (endsL l.length a b).1 = lo at *
  generalize (endsL l.length a b).2 = hi at *
  generalize pieceL l a b = P at *
  go_enter Tryz.func77, Tryz.ntmps77
  go_wp2_with fail
  refine HE.out.mono ?_; rintro e w1 ⟨x, y, rfl, rfl, rfl, k, rfl⟩
  go_wp2_with fail
  refine (HA.out k).mono ?_; rintro e w2 ⟨a2, c2, k2, rfl, rfl, hv⟩
  obtain ⟨a3, c3, hcut, _, _, hv3⟩ := vw_cut hv lo hi hE1 hE2
  have hv4 : Vw (fun b => o b = r ++ [0]) (w.drewN (k + k2)) _ 1 _ _ := hv3.stay (Nat.le_refl _) (fun _ _ _ => rfl)
  rw [← HP.out, ← HPL.out] at hv4
  rw [← HPL.out] at hcut
  have HC := Lib.hid (cloneS_ok hv4 HO.out (by have := HPL.out; omega))
  clear hv hv3 hv4
  go_wp2_with fail
  refine HC.out.mono ?_; rintro e w3 ⟨v', rfl, hF⟩
  have HF := Lib.hid (show Fresh w w3 9 1 v' P.length (P.map txt) from ⟨hF.own, (below_drewN (Below.refl _ w) (k + k2)).trans hF.below⟩)
  clear hF
  obtain ⟨a5, c5, rfl, _⟩ := HF.out.vw.slice
  go_wp2_with fail
  go_ret
  exact ⟨_, rfl, HF.out⟩
end
end Go.Proofs.YtgmmeeikjofefaaGreatDoor
