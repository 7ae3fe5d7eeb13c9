import Derived.Test.YtgmmeeikjofefaaGreatDoorPi
namespace Go.Proofs.YtgmmeeikjofefaaGreatDoor
open Go Go.RowKit
/-! take and lay: an element at an end of a deque. -/
theorem vw_new1 (w : World) (x : List UInt8) (T : TypeId) : Vw (fun b => b = w.heap.size) (w.alloc (.cells #[txt x] T)) (.slice (some ⟨w.heap.size, 0, none⟩) 1 1) 1 1 ([x].map txt) := by
  refine ⟨⟨_, 1, rfl, Nat.le_refl _, by unfold maxLen; omega, .inr ⟨w.heap.size, 0, rfl, by simp, rfl, fun k u hk => ?_⟩⟩, rfl⟩
  have : k = 0 := by have := (List.getElem?_eq_some_iff.1 hk).1; simp at this; omega
  subst this
  simp at hk
  subst hk
  unfold World.cell?
  rw [show (w.alloc (.cells #[txt x] T)).heap[w.heap.size]? = some (.cells #[txt x] T (0, 0)) from heap_alloc_new w _]
  rfl
theorem vw_one {A : Nat → Prop} {w : World} {v : Value} {y : Value} (h : Vw A w v 1 1 [y]) : ∃ b off cap, v = .slice (some ⟨b, off, none⟩) 1 cap ∧ 1 ≤ cap ∧ w.cell? ⟨b, off, none⟩ = some y := by
  obtain ⟨⟨a, cap, h1, h2, h3, h4⟩, h5⟩ := h
  rcases h4 with h4 | ⟨b, off, rfl, g2, g3, g4⟩
  · omega
  · exact ⟨b, off, cap, h1, h2, by simpa using g4 0 y rfl⟩
theorem DeqI.mono {o : Roles} {w : World} {r : List Nat} {d B B' : Nat} {l : List (List UInt8)} (h : DeqI o w r d B l) (hB : B ≤ B') : DeqI o w r d B' l := by
  obtain ⟨sv, j, h⟩ := h
  exact ⟨sv, j, h.blk, h.row, by have := h.few; omega⟩
section
variable {o : Roles} {w : World} {r : List Nat} {d B : Nat}
theorem DeqI.alloc {l : List (List UInt8)} (h : DeqI o w r d B l) (x : Obj) (s : List Nat) : DeqI (o.put w.heap.size s) (w.alloc x) r d B l := by
  obtain ⟨sv, junk, h⟩ := h
  exact ⟨sv, junk, h.blk.alloc x _ s rfl, h.row.alloc x _ s rfl, h.few⟩
set_option maxRecDepth 10000 in
theorem takeL_ok {x : List UInt8} {t : List (List UInt8)} (h : DeqI o w r d B (x :: t)) (hB : B ≤ 1099511627776) :
    Calls Tryz.prog 74 #[.pointer (some ⟨d, 0, none⟩), .bool true] w fun e w' => e = .returned (txt x) ∧ ∃ o', DeqI o' w' r d B t ∧ Stp r o w o' w' := by
  have H := Lib.hid (dpopFront_ok h hB)
  clear h
  unfold txt at *
  go_enter Tryz.func74, Tryz.ntmps74
  go_wp2_with fail
  refine H.out.mono ?_; rintro e w1 ⟨v1, o1, rfl, hd, hv, hs⟩
  obtain ⟨b, off, cap, rfl, hcap, hc⟩ := vw_one hv
  have HD := Lib.hid hd
  have HS := Lib.hid hs
  clear hd hv hs
  go_wp2_with fail
  go_ret
  exact ⟨rfl, o1, HD.out, HS.out⟩
set_option maxRecDepth 10000 in
theorem takeR_ok {x : List UInt8} {t : List (List UInt8)} (h : DeqI o w r d B (t ++ [x])) (hB : B ≤ 1099511627776) :
    Calls Tryz.prog 74 #[.pointer (some ⟨d, 0, none⟩), .bool false] w fun e w' => e = .returned (txt x) ∧ ∃ o', DeqI o' w' r d B t ∧ Stp r o w o' w' := by
  have H := Lib.hid (dpopBack_ok h hB)
  clear h
  unfold txt at *
  go_enter Tryz.func74, Tryz.ntmps74
  go_wp2_with fail
  refine H.out.mono ?_; rintro e w1 ⟨v1, o1, rfl, hd, hv, hs⟩
  obtain ⟨b, off, cap, rfl, hcap, hc⟩ := vw_one hv
  have HD := Lib.hid hd
  have HS := Lib.hid hs
  clear hd hv hs
  go_wp2_with fail
  go_ret
  exact ⟨rfl, o1, HD.out, HS.out⟩
set_option maxRecDepth 10000 in
theorem layL_ok {l : List (List UInt8)} (h : DeqI o w r d B l) (h0 : r ≠ []) (x : List UInt8) (hB : 1 + 2 * B ≤ 1099511627776) :
    Calls Tryz.prog 75 #[.pointer (some ⟨d, 0, none⟩), .bool true, txt x] w fun e w' => e = .returned (.tuple #[]) ∧ ∃ o', DeqI o' w' r d (1 + 2 * B) (x :: l) ∧ Stp r o w o' w' := by
  have H := Lib.hid (dpushFront_ok (h.alloc (.cells #[txt x] 9) []) (ws := [x]) (vw_new1 w x 9) (fun b hb hp => by subst hb; rw [Roles.put_same] at hp; exact h0 (List.prefix_nil.1 hp)) hB)
  have HS := Lib.hid ((Stp.refl r o w).alloc (r' := []) (.cells #[txt x] 9) w.heap.size rfl)
  clear h
  unfold txt at *
  go_enter Tryz.func75, Tryz.ntmps75
  go_wp2_with fail
  refine H.out.mono ?_; rintro e w1 ⟨rfl, o1, hd, hs⟩
  have HD := Lib.hid hd
  have HS2 := Lib.hid (HS.out.trans hs)
  clear hd hs
  go_wp2_with fail
  go_end0
  exact ⟨rfl, o1, HD.out, HS2.out⟩
set_option maxRecDepth 10000 in
theorem layR_ok {l : List (List UInt8)} (h : DeqI o w r d B l) (x : List UInt8) (hB : 1 + B ≤ 1099511627776) :
    Calls Tryz.prog 75 #[.pointer (some ⟨d, 0, none⟩), .bool false, txt x] w fun e w' => e = .returned (.tuple #[]) ∧ ∃ o', DeqI o' w' r d (B + 1) (l ++ [x]) ∧ Stp r o w o' w' := by
  have H := Lib.hid (dpushBack_ok (h.alloc (.cells #[txt x] 9) []) (ws := [x]) (vw_new1 w x 9) (by simp; omega))
  have HS := Lib.hid ((Stp.refl r o w).alloc (r' := []) (.cells #[txt x] 9) w.heap.size rfl)
  clear h
  unfold txt at *
  go_enter Tryz.func75, Tryz.ntmps75
  go_wp2_with fail
  refine H.out.mono ?_; rintro e w1 ⟨rfl, o1, hd, hs⟩
  have HD := Lib.hid hd
  have HS2 := Lib.hid (HS.out.trans hs)
  clear hd hs
  go_wp2_with fail
  go_end0
  exact ⟨rfl, o1, HD.out, HS2.out⟩
/-- What stands at an end, and the rest. -/
def endL (left : Bool) (x : List UInt8) (t : List (List UInt8)) : List (List UInt8) := if left then x :: t else t ++ [x]
theorem endL_len (left : Bool) (x : List UInt8) (t : List (List UInt8)) : (endL left x t).length = t.length + 1 := by unfold endL; cases left <;> simp
theorem take_ok {left : Bool} {x : List UInt8} {t : List (List UInt8)} (h : DeqI o w r d B (endL left x t)) (hB : B ≤ 1099511627776) :
    Calls Tryz.prog 74 #[.pointer (some ⟨d, 0, none⟩), .bool left] w fun e w' => e = .returned (txt x) ∧ ∃ o', DeqI o' w' r d B t ∧ Stp r o w o' w' := by
  cases left with
  | true => exact takeL_ok h hB
  | false => exact takeR_ok h hB
theorem lay_ok' {left : Bool} {l : List (List UInt8)} (h : DeqI o w r d B l) (h0 : r ≠ []) (x : List UInt8) (hB : 1 + 2 * B ≤ 1099511627776) :
    Calls Tryz.prog 75 #[.pointer (some ⟨d, 0, none⟩), .bool left, txt x] w fun e w' => e = .returned (.tuple #[]) ∧ ∃ o', DeqI o' w' r d (1 + 2 * B) (endL left x l) ∧ Stp r o w o' w' := by
  cases left with
  | true => exact layL_ok h h0 x hB
  | false =>
    refine (layR_ok h x (by omega)).mono ?_
    rintro e w' ⟨rfl, o', hd, hs⟩
    exact ⟨rfl, o', hd.mono (by omega), hs⟩
end
end Go.Proofs.YtgmmeeikjofefaaGreatDoor
