import Derived.Test.YtgdgnpjgemcjgaaYA
namespace Go.Proofs.Ytgdgnpjgemcjgaa
open Go Go.RowKit
theorem all_same {w : World} {va vb : Value} {xs : List (List (List UInt8))} (ha : LLIn w va xs) (hb : LLIn w vb xs) (hl : xs.length ≤ 1099511627776) :
    Calls Try.prog 13 #[va, vb] w fun e w' => e = .returned (.bool true) ∧ ∃ k, w' = w.drewN k := by
  have h := all_ok ha hb hl
  rw [show decide (xs = xs) = true from decide_eq_true rfl] at h
  exact h
theorem same_same {w : World} {va vb : Value} {xs : List (List UInt8)} (ha : TextsIn w va xs) (hb : TextsIn w vb xs) (hl : xs.length ≤ 1099511627776) :
    Calls Try.prog 19 #[va, vb] w fun e w' => e = .returned (.bool true) ∧ ∃ k, w' = w.drewN k := by
  have h := same_ok ha hb hl
  rw [show decide (xs = xs) = true from decide_eq_true rfl] at h
  exact h
theorem lim10 : LimI 10 3 32 := by unfold LimI; omega
theorem cell_of {w : World} {b : Nat} {cs : Array Value} {T : TypeId} (h : w.heap[b]? = some (.cells cs T (0, 0))) (k : Nat) : w.cell? ⟨b, k, none⟩ = cs[k]? := by simp [World.cell?, h]
/-- A new block of texts. -/
theorem new_texts {w w' : World} {g : Nat} (ws : List (List UInt8)) (n : Nat) (cs : Array Value) (hcs : cs = (ws.map txt).toArray) (hn : n = ws.length) (hm : n ≤ maxLen) (h : w.heap[g]? = some (.cells cs 9 (0, 0))) (hB : Below w.heap.size w w') : TextsIn w' (.slice (some ⟨g, 0, none⟩) n n) ws := by
  subst hcs; subst hn
  have hg : g < w.heap.size := (Array.getElem?_eq_some_iff.1 h).1
  refine ⟨some ⟨g, 0, none⟩, ws.length, rfl, Nat.le_refl _, hm, .inr ⟨g, 0, rfl, by have := hB.size; omega, fun k x hk => ?_⟩⟩
  rw [Nat.zero_add, hB.cell (p := ⟨g, k, none⟩) hg]
  simp [World.cell?, h, hk, txt]
theorem lit_all (W : World) : LLIn (((W.alloc (.cells #[.string ⟨#[71, 69, 84]⟩, .string ⟨#[97]⟩] 9)).alloc (.cells #[.string ⟨#[115, 101, 116]⟩, .string ⟨#[107]⟩, .string ⟨#[97, 32, 98]⟩] 9)).alloc (.cells #[.slice (some ⟨W.heap.size, 0, none⟩) 2 2, .slice (some ⟨W.heap.size + 1, 0, none⟩) 3 3] 33)) (.slice (some ⟨W.heap.size + 1 + 1, 0, none⟩) 2 2) [[[71, 69, 84], [97]], [[115, 101, 116], [107], [97, 32, 98]]] := by
  have b1 := heap_alloc_new W (.cells #[.string ⟨#[71, 69, 84]⟩, .string ⟨#[97]⟩] 9)
  have b2 := heap_alloc_new (W.alloc (.cells #[.string ⟨#[71, 69, 84]⟩, .string ⟨#[97]⟩] 9)) (.cells #[.string ⟨#[115, 101, 116]⟩, .string ⟨#[107]⟩, .string ⟨#[97, 32, 98]⟩] 9)
  have b3 := heap_alloc_new ((W.alloc (.cells #[.string ⟨#[71, 69, 84]⟩, .string ⟨#[97]⟩] 9)).alloc (.cells #[.string ⟨#[115, 101, 116]⟩, .string ⟨#[107]⟩, .string ⟨#[97, 32, 98]⟩] 9)) (.cells #[.slice (some ⟨W.heap.size, 0, none⟩) 2 2, .slice (some ⟨W.heap.size + 1, 0, none⟩) 3 3] 33)
  have s1 : (W.alloc (.cells #[.string ⟨#[71, 69, 84]⟩, .string ⟨#[97]⟩] 9)).heap.size = W.heap.size + 1 := by simp
  have s2 : ((W.alloc (.cells #[.string ⟨#[71, 69, 84]⟩, .string ⟨#[97]⟩] 9)).alloc (.cells #[.string ⟨#[115, 101, 116]⟩, .string ⟨#[107]⟩, .string ⟨#[97, 32, 98]⟩] 9)).heap.size = W.heap.size + 1 + 1 := by simp
  rw [s1] at b2
  rw [s2] at b3
  have hT1 := new_texts [[71, 69, 84], [97]] 2 _ rfl rfl (by decide) b1 (((Below.refl _ _).alloc (Nat.le_refl _) (.cells #[.string ⟨#[115, 101, 116]⟩, .string ⟨#[107]⟩, .string ⟨#[97, 32, 98]⟩] 9)).alloc (by simp) (.cells #[.slice (some ⟨W.heap.size, 0, none⟩) 2 2, .slice (some ⟨W.heap.size + 1, 0, none⟩) 3 3] 33))
  have hT2 := new_texts [[115, 101, 116], [107], [97, 32, 98]] 3 _ rfl rfl (by decide) b2 ((Below.refl _ _).alloc (Nat.le_refl _) (.cells #[.slice (some ⟨W.heap.size, 0, none⟩) 2 2, .slice (some ⟨W.heap.size + 1, 0, none⟩) 3 3] 33))
  refine ⟨some ⟨W.heap.size + 1 + 1, 0, none⟩, 2, rfl, Nat.le_refl _, by decide, by simp, .inr ⟨W.heap.size + 1 + 1, 0, rfl, by simp, fun k ws hk => ?_⟩⟩
  match k, hk with
  | 0, hk => cases hk; exact ⟨_, (cell_of b3 0).trans rfl, hT1⟩
  | 1, hk => cases hk; exact ⟨_, (cell_of b3 1).trans rfl, hT2⟩
  | k + 2, hk => simp at hk

set_option maxRecDepth 100000 in
set_option maxHeartbeats 4000000 in
theorem sure_ok (w : World) : Calls Try.prog 16 #[] w fun e w' => e = .returned (.bool true) ∧ Below w.heap.size w w' := by
  have HL := Lib.hid limits_ok
  have HLW := Lib.hid lit_all
  have HC := Lib.hid (fun W => check_bad (b := 0) (a := 0) (n := 0) (by unfold LimI; omega) W)
  have HW1 := Lib.hid (fun W => show Calls Try.prog 11 #[limV 10 3 32, .string ⟨#[42, 50, 13, 10, 36, 51, 13, 10, 71, 69, 84, 13, 10, 36, 49, 13, 10, 97, 13, 10, 115, 101, 116, 32, 107, 32, 39, 97, 32, 98, 39, 10, 36]⟩] W (WholeDid none0 W [9, 1] (start lL t1)) from whole_ok lim10 none0 W [9, 1] t1 (by decide))
  have HW2 := Lib.hid (fun W => show Calls Try.prog 11 #[limV 10 3 32, .string ⟨#[42, 49, 13, 10, 120]⟩] W (WholeDid none0 W [9, 2] (start lL t2)) from whole_ok lim10 none0 W [9, 2] t2 (by decide))
  have HN := Lib.hid (fun W => new_ok lim10 none0 W [9, 3, 0])
  go_enter Try.func16, Try.ntmps16
  go_wp2_with fail
  refine (HL.out _).mono ?_; rintro e w1 ⟨rfl, hB1⟩
  go_wp2_with fail
  refine (HW1.out _).mono ?_; rintro e w2 ⟨v1, o2, rfl, hL, hst2⟩
  rw [hw1] at hL ⊢
  have HX1 := Lib.hid (hL.llIn (by simp))
  have HB := Lib.hid (hB1.trans (hst2.below0.mono hB1.size))
  clear hB1 hL hst2
  go_wp2_with fail
  refine (HL.out _).mono ?_; rintro e w3 ⟨rfl, hB3⟩
  have HX3 := Lib.hid (HX1.out.below hB3)
  have HB3 := Lib.hid (HB.out.trans (hB3.mono HB.out.size))
  clear hB3 HB HX1
  go_wp2_with fail
  refine (HW2.out _).mono ?_; rintro e w4 ⟨v2, o4, rfl, hL4, hst4⟩
  rw [hw2]
  have HX4 := Lib.hid (HX3.out.below hst4.below0)
  have HB4 := Lib.hid (HB3.out.trans (hst4.below0.mono HB3.out.size))
  clear hL4 hst4 HX3 HB3
  go_wp2_with fail
  refine (HL.out _).mono ?_; rintro e w5 ⟨rfl, hB5⟩
  have HX5 := Lib.hid (HX4.out.below hB5)
  have HB5 := Lib.hid (HB4.out.trans (hB5.mono HB4.out.size))
  clear hB5 HX4 HB4
  go_wp2_with fail
  refine (HN.out _).mono ?_; rintro e w6 ⟨p, o6, rfl, hR6, hst6⟩
  have HF := feed_ok hR6 t3 (by decide)
  change Calls Try.prog 23 #[.pointer (some ⟨p, 0, none⟩), .string ⟨#[80, 73, 78, 71, 13, 10]⟩] w6 (fun e w' => e = .returned (.tuple #[]) ∧ Rd o6 w' [9, 3, 0] p (start lL t3) ∧ Stp [9, 3, 0] o6 w6 o6 w') at HF
  have HFh := Lib.hid HF
  have HS6 := Lib.hid hst6
  clear hst6 hR6 HF
  go_wp2_with fail
  refine HFh.out.mono ?_; rintro e w7 ⟨rfl, hR7, hst7⟩
  have HNX := Lib.hid (next_ok (r := [9, 3, 1]) hR7 (by decide) (by decide) (by decide))
  have HS7 := Lib.hid ((HS6.out.trans hst7).wide (show [9] <+: [9, 3, 0] by decide))
  clear hst7 hR7 HFh HS6
  go_wp2_with fail
  refine HNX.out.mono ?_; rintro e w8 ⟨o71, w71, o8, st81, st82, hR8, hA8⟩
  rw [hw3] at hR8 hA8
  obtain ⟨u, rfl, _, hT8⟩ := hA8
  have hS8 := HS7.out.trans ((st81.wide (show [9] <+: [9, 3, 1] by decide)).trans (st82.wide (show [9] <+: [9, 3, 0] by decide)))
  have HX8 := Lib.hid (HX5.out.below hS8.below0)
  have HB8 := Lib.hid (HB5.out.trans (hS8.below0.mono HB5.out.size))
  have HT8 := Lib.hid hT8.textsIn
  have HR8 := Lib.hid (fun W (hB : Below w8.heap.size w8 W) => show Rd o8 W [9, 3, 0] p ⟨lL, [], 6, []⟩ from ⟨hR8.blk.below hB, hR8.lim, hR8.few⟩)
  obtain ⟨ua, ucap, hu, _⟩ := hT8.slice
  subst hu
  clear st81 st82 hR8 hT8 hS8 HX5 HB5 HS7 HNX
  go_wp2_with fail
  have HALL := all_same (HX8.out.below (((Below.refl w8.heap.size w8).alloc (Nat.le_refl _) _).alloc (by simp) _ |>.alloc (by simp; omega) _)) (HLW.out w8) (by decide)
  refine HALL.mono ?_; rintro e w9 ⟨rfl, k9, hk9⟩
  have HB9 := Lib.hid (show Below w8.heap.size w8 w9 from by rw [hk9]; exact below_drewN (((Below.refl w8.heap.size w8).alloc (Nat.le_refl _) _).alloc (by simp) _ |>.alloc (by simp; omega) _) _)
  clear HALL hk9
  go_wp2_with fail
  have HSM := same_same (w := w9.alloc (.cells #[.string ⟨#[80, 73, 78, 71]⟩] 9)) (HT8.out.below (HB9.out.alloc (by have := HB9.out.size; exact this) _)) (new_texts [[80, 73, 78, 71]] 1 _ rfl rfl (by decide) (heap_alloc_new w9 _) (Below.refl _ _)) (by decide)
  refine HSM.mono ?_; rintro e w10 ⟨rfl, k10, hk10⟩
  have HB10 := Lib.hid (show Below w8.heap.size w8 w10 from by rw [hk10]; exact below_drewN (HB9.out.alloc (by have := HB9.out.size; exact this) _) _)
  clear HSM hk10
  go_wp2_with fail
  refine (used_ok (HR8.out w10 HB10.out)).mono ?_; rintro e w11 ⟨rfl, rfl⟩
  go_wp2_with fail
  refine (held_ok (HR8.out w11 HB10.out)).mono ?_; rintro e w12 ⟨rfl, rfl⟩
  go_wp2_with fail
  refine (HC.out w12).mono ?_; rintro e w13 ⟨rfl, hB13⟩
  have HB13 := Lib.hid (HB10.out.trans (hB13.mono HB10.out.size))
  clear hB13
  go_wp2_with fail
  have HWR := write_ok [[97]] _ (w13.alloc (.cells #[.string ⟨#[97]⟩] 9)) (new_texts [[97]] 1 _ rfl rfl (by decide) (heap_alloc_new w13 _) (Below.refl _ _)) (by rw [hw4]; decide) (by decide)
  rw [hw4] at HWR
  refine HWR.mono ?_; rintro e w14 ⟨rfl, hB14⟩
  have HE := Lib.hid (HB8.out.trans ((HB13.out.alloc (by have := HB13.out.size; exact this) _).trans (hB14.mono (by have := HB13.out.size; simp; omega)) |>.mono HB8.out.size))
  clear HWR hB14
  go_wp2_with fail
  go_ret
  exact ⟨rfl, HE.out⟩
end Go.Proofs.Ytgdgnpjgemcjgaa
