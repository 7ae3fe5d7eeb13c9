import Derived.Test.YtlgboamedjoidaaImplK
namespace Go.Proofs.Ytlgboamedjoidaa
open Go Go.RowKit

def c1 : CI := freshC.accept_
def c2 : CI := c1.put_ [97, 98]
def c3 : CI := c2.rd_ 2
def c4 : CI := c3.wr_ [117, 118, 119, 120]
def c5 : CI := c4.tk_ 3

set_option maxRecDepth 100000 in
set_option maxHeartbeats 1000000 in
theorem sure_ok (w : World) : Calls Try.prog 10 #[] w fun e w' => e = .returned (.bool true) ∧ Below w.heap.size w w' := by
  have H1 := New_ok none0 w [0] 4 (by decide) (by decide)
  change Calls Try.prog 7 #[.int .i64 4] w _ at H1
  have HB := fun w' => New_bad w' 0 (.inl (by decide))
  go_enter Try.func10, Try.ntmps10
  go_wp2_with fail
  refine H1.mono ?_; rintro e w1 ⟨p, o1, rfl, hN1, st1⟩
  have S1 := Lib.hid st1
  have H2 := Connect_ok hN1 (by simp)
  change Calls Try.prog 8 #[.pointer (some ⟨p, 0, none⟩)] w1 (fun e w' => ∃ b o', e = .returned (.tuple #[.int .i64 0, .int .i64 0]) ∧ Net o' w' [0] p [b] ⟨[freshC], 0, 4⟩ ∧ Stp [0] o1 w1 o' w') at H2
  clear st1 hN1 H1
  unfold ptr at *
  go_wp2_with fail
  refine (HB _).mono ?_; rintro e w' ⟨rfl, rfl⟩
  go_wp2_with fail
  refine H2.mono ?_; rintro e w2 ⟨b, o2, rfl, hN2, st2⟩
  have S2 := Lib.hid (S1.out.trans st2)
  have H3 := Accept_some hN2 (b := b) (c := freshC) rfl rfl
  change Calls Try.prog 19 #[.pointer (some ⟨p, 0, none⟩)] w2 (Did o2 w2 [0] p [b] ⟨[c1], 1, 4⟩ (.tuple #[.int .i64 0, .bool true])) at H3
  clear st2 hN2 H2 S1
  go_wp2_with fail
  refine H3.mono ?_; rintro e w3 ⟨rfl, o3, hN3, st3⟩
  have S3 := Lib.hid (S2.out.trans st3)
  have H4 := Send_in hN3 (i := 0) (b := b) (c := c1) rfl rfl [97, 98] (by decide)
  change Calls Try.prog 21 #[.pointer (some ⟨p, 0, none⟩), .int .i64 0, .string ⟨#[97, 98]⟩] w3 (Did o3 w3 [0] p [b] ⟨[c2], 1, 4⟩ (.int .i64 0)) at H4
  clear st3 hN3 H3 S2
  go_wp2_with fail
  refine H4.mono ?_; rintro e w4 ⟨rfl, o4, hN4, st4⟩
  have S4 := Lib.hid (S3.out.trans st4)
  have H5 := Read_in hN4 (i := 0) (b := b) (c := c2) rfl rfl 9 (by decide)
  change Calls Try.prog 22 #[.pointer (some ⟨p, 0, none⟩), .int .i64 0, .int .i64 9] w4 (Did o4 w4 [0] p [b] ⟨[c3], 1, 4⟩ (.tuple #[.string ⟨#[97, 98]⟩, .bool false, .int .i64 0])) at H5
  clear st4 hN4 H4 S3
  go_wp2_with fail
  refine H5.mono ?_; rintro e w5 ⟨rfl, o5, hN5, st5⟩
  have S5 := Lib.hid (S4.out.trans st5)
  have H6 := Write_in hN5 (i := 0) (b := b) (c := c3) rfl rfl [117, 118, 119, 120, 121, 122] (by decide) (by decide)
  change Calls Try.prog 23 #[.pointer (some ⟨p, 0, none⟩), .int .i64 0, .string ⟨#[117, 118, 119, 120, 121, 122]⟩] w5 (Did o5 w5 [0] p [b] ⟨[c4], 1, 4⟩ (.tuple #[.int .i64 4, .int .i64 0])) at H6
  clear st5 hN5 H5 S4
  go_wp2_with fail
  refine H6.mono ?_; rintro e w6 ⟨rfl, o6, hN6, st6⟩
  have S6 := Lib.hid (S5.out.trans st6)
  have H7 := Take_in hN6 (i := 0) (b := b) (c := c4) rfl rfl 3 (by decide)
  change Calls Try.prog 24 #[.pointer (some ⟨p, 0, none⟩), .int .i64 0, .int .i64 3] w6 (Did o6 w6 [0] p [b] ⟨[c5], 1, 4⟩ (.tuple #[.string ⟨#[117, 118, 119]⟩, .int .i64 0])) at H7
  clear st6 hN6 H6 S5
  go_wp2_with fail
  refine H7.mono ?_; rintro e w7 ⟨rfl, o7, hN7, st7⟩
  have S7 := Lib.hid (S6.out.trans st7)
  have H8 := Room_in hN7 (i := 0) (b := b) (c := c5) rfl rfl
  change Calls Try.prog 20 #[.pointer (some ⟨p, 0, none⟩), .int .i64 0] w7 (Did o7 w7 [0] p [b] ⟨[c5], 1, 4⟩ (.int .i64 3)) at H8
  clear st7 hN7 H7 S6
  go_wp2_with fail
  refine H8.mono ?_; rintro e w8 ⟨rfl, o8, hN8, st8⟩
  have S8 := Lib.hid (S7.out.trans st8)
  have H9 := Sent_in hN8 (i := 0) (b := b) (c := c5) rfl rfl
  change Calls Try.prog 17 #[.pointer (some ⟨p, 0, none⟩), .int .i64 0] w8 (fun e w' => e = .returned (.string ⟨#[97, 98]⟩) ∧ ∃ k, w' = w8.drewN k) at H9
  have H10 := fun k => Taken_in (hN8.drewN k) (i := 0) (b := b) (c := c5) rfl rfl
  change ∀ k, Calls Try.prog 18 #[.pointer (some ⟨p, 0, none⟩), .int .i64 0] (w8.drewN k) (fun e w' => e = .returned (.string ⟨#[117, 118, 119]⟩) ∧ ∃ q, w' = (w8.drewN k).drewN q) at H10
  have H11 := fun k => Conns_ok (hN8.drewN k)
  change ∀ k, Calls Try.prog 9 #[.pointer (some ⟨p, 0, none⟩)] (w8.drewN k) (fun e w' => e = .returned (.int .i64 1) ∧ ∃ q, w' = (w8.drewN k).drewN q) at H11
  clear st8 hN8 H8 S7
  go_wp2_with fail
  refine H9.mono ?_; rintro e w' ⟨rfl, k, rfl⟩
  go_wp2_with fail
  refine (H10 _).mono ?_; rintro e w' ⟨rfl, k, rfl⟩
  rw [World.drewN_drewN]
  go_wp2_with fail
  refine (H11 _).mono ?_; rintro e w' ⟨rfl, k, rfl⟩
  go_wp2_with fail
  go_ret
  exact ⟨rfl, below_drewN S8.out.below0 _⟩
end Go.Proofs.Ytlgboamedjoidaa
