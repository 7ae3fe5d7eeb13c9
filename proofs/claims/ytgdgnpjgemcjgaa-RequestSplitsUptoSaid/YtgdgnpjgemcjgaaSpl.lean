import Derived.Test.YtgdgnpjgemcjgaaZO
namespace Go.Proofs.Ytgdgnpjgemcjgaa
open Go Go.RowKit
theorem texts_nil (w : World) : TextsIn w (.slice none 0 0) [] := ⟨none, 0, rfl, Nat.le_refl _, by simp, .inl rfl⟩
set_option maxHeartbeats 1000000 in
theorem splits_law (s : List UInt8) (hs : s.length ≤ 1048576) (w : World) : Calls Try.prog 4 #[.string ⟨s.toArray⟩] w fun e w' => e = .returned (.bool true) ∧ Below w.heap.size w w' := by
  have H1 := Lib.hid (split_ok none0 w [1] s (by omega))
  have H2 := Lib.hid (fun W => rsplit_ok none0 W [2] s (by omega))
  go_enter Try.func4, Try.ntmps4
  go_wp2_with fail
  refine H1.out.mono ?_; rintro e w1 (⟨rfl, hnone, o1, st1⟩ | ⟨v1, ws1, o1, rfl, hsome, hl1, hT1, st1⟩)
  · have HB1 := Lib.hid st1.below0
    have HN := Lib.hid hnone
    clear hnone st1
    go_wp2_with fail
    refine (H2.out _).mono ?_; rintro e w2 (⟨rfl, hnone2, o2, st2⟩ | ⟨v2, ws2, o2, rfl, hsome2, hl2, hT2, st2⟩)
    · have HB2 := Lib.hid (HB1.out.trans (st2.below0.mono HB1.out.size))
      clear hnone2 st2
      have HS := same_same (texts_nil w2) (texts_nil w2) (by simp)
      go_wp2_with fail
      refine HS.mono ?_; rintro e w3 ⟨rfl, k, rfl⟩
      go_wp2_with fail
      refine (sure_ok _).mono ?_; rintro e w4 ⟨rfl, hB⟩
      go_wp2_with fail
      go_ret
      exact ⟨rfl, (below_drewN HB2.out k).trans (hB.mono (by have := HB2.out.size; simpa using this))⟩
    · have := HN.out; rw [hsome2] at this; cases this
  · have HB1 := Lib.hid st1.below0
    have HN := Lib.hid hsome
    have HT1 := Lib.hid hT1.textsIn
    clear hsome st1 hT1
    go_wp2_with fail
    refine (H2.out _).mono ?_; rintro e w2 (⟨rfl, hnone2, o2, st2⟩ | ⟨v2, ws2, o2, rfl, hsome2, hl2, hT2, st2⟩)
    · have := HN.out; rw [hnone2] at this; cases this
    · have HB2 := Lib.hid (HB1.out.trans (st2.below0.mono HB1.out.size))
      obtain rfl : ws1 = ws2 := by have := HN.out; rw [hsome2] at this; cases this; rfl
      have HS := same_same (HT1.out.below st2.below0) hT2.textsIn (by omega)
      clear hsome2 st2 hT2
      go_wp2_with fail
      refine HS.mono ?_; rintro e w3 ⟨rfl, k, rfl⟩
      go_wp2_with fail
      refine (sure_ok _).mono ?_; rintro e w4 ⟨rfl, hB⟩
      go_wp2_with fail
      go_ret
      exact ⟨rfl, (below_drewN HB2.out k).trans (hB.mono (by have := HB2.out.size; simpa using this))⟩
end Go.Proofs.Ytgdgnpjgemcjgaa
