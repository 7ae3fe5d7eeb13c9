import Derived.Test.YtgmmeeikjofefaaGreatDoorRd
import Derived.Test.YtgmmeeikjofefaaGreatDoorLr
namespace Go.Proofs.YtgmmeeikjofefaaGreatDoor
open Go Go.RowKit
/-! awake; rows of the law's own making. -/
theorem Vw.old {A : Nat → Prop} {w : World} {v : Value} {sz n : Nat} {xs : List Value} (h : Vw A w v sz n xs) : Vw (Old w) w v sz n xs := by
  obtain ⟨⟨a, c, h1, h2, h3, h4⟩, h5⟩ := h
  refine ⟨⟨a, c, h1, h2, h3, ?_⟩, h5⟩
  rcases h4 with h4 | ⟨b, off, g1, g2, g3, g4⟩
  · exact .inl h4
  · exact .inr ⟨b, off, g1, g2, g2, g4⟩
/-- A slice of written texts. -/
theorem lit_vw (w : World) (xs : List (List UInt8)) (hn : xs.length ≤ 100) : Vw (Old (w.alloc (.cells (xs.map txt).toArray 9))) (w.alloc (.cells (xs.map txt).toArray 9)) (.slice (some ⟨w.heap.size, 0, none⟩) xs.length xs.length) 1 xs.length (xs.map txt) :=
  (vw_new (T := 9) rfl (by simp) (by unfold maxLen; omega)).old
theorem lit_below (w : World) (x : Obj) : Below w.heap.size w (w.alloc x) := (Below.refl _ _).alloc (Nat.le_refl _) _
theorem Row.lit (o : Roles) (w : World) (r : List Nat) (e : TypeId) (xs : List Value) (hn : xs.length ≤ 100) : Row (o.put w.heap.size r) (w.alloc (.cells xs.toArray e)) r e 1 (.slice (some ⟨w.heap.size, 0, none⟩) xs.length xs.length) xs.length xs := by
  refine ⟨⟨by simp, .inr ⟨w.heap.size, xs.length, xs.toArray, rfl, Nat.zero_le _, heap_alloc_new w _, Nat.le_refl _, by unfold maxLen; omega, by simp, by simp⟩⟩, fun g hg => ?_⟩
  simp only [Value.ownBlock, Option.some.injEq] at hg
  subst hg; exact Roles.put_same _ _ _
section
variable {o o' : Roles} {w w' w0 : World} {p n : Nat} {c : Cnt} {S : SP}
/-- A row of the law's own comes, and grows. -/
theorem At.app (h : At w0 o w p S c n) (x : Obj) (hs : Stp [9] (o.put w.heap.size [9]) (w.alloc x) o' w') : At w0 o' w' p S c n := by
  have s1 : Stp [9] o w o' w' := ((Stp.refl [9] o w).alloc (r' := [9]) x w.heap.size rfl).trans hs
  refine ⟨h.sp.keep s1 (by intro t ht; simp at ht), h.st.hide s1 (fun b _ => by unfold none0; simp), h.num⟩
end
abbrev aB : List UInt8 := [97]
abbrev bB : List UInt8 := [98]
abbrev kB : List UInt8 := [107]
set_option maxRecDepth 10000 in
set_option maxHeartbeats 4000000 in
theorem awake_ok {w : World} (hT : Tbl w) : Calls Tryz.prog 11 #[] w fun e w' => e = .returned (.bool true) ∧ Below w.heap.size w w' := by
  have HN := Lib.hid (jnew_ok none0 w [1])
  have HT := Lib.hid hT
  clear hT
  go_enter Tryz.func11, Tryz.ntmps11
  go_wp2_with fail
  refine HN.out.mono ?_; rintro e w1 ⟨p, o1, rfl, hj, hs⟩
  have h1 : At w o1 w1 p (fun _ => none) ⟨0, 0⟩ 0 := ⟨hj, hs, Nat.le_refl _⟩
  have H1 := Lib.hid h1
  clear hj hs h1 HN
  go_wp2_with fail
  refine (at_run (H1.out.below (lit_below w1 _)) (nm := [82, 80, 85, 83, 72]) (args := [[108], [97], [98], [99]]) (lit_vw w1 [[82, 80, 85, 83, 72], [108], [97], [98], [99]] (by decide)) (low := rpushB) (by decide) (by decide) (by decide) (by decide) (fits_rpush (by decide)) (.inl ⟨rfl, .inr rfl⟩)
    (K := fun S => KeyIs S [108] [[97], [98], [99]])
    (serves_push (by decide) (KeyIs.empty [108]) false (by decide) (by decide) (by decide) (by decide) (fun H h => h))).mono ?_
  rintro e w2 ⟨v2, rfl, hv2, o2, S2, c2, h2, hK2, hB2⟩
  obtain ⟨a2, l2, rfl, _⟩ := id hv2.slice
  have H2 := Lib.hid h2
  have HK2 := Lib.hid hK2
  clear hv2 h2 hK2 hB2 H1
  go_wp2_with fail
  refine (lawnumber_ok _ _ _ _ _ _).mono ?_; rintro e w3 ⟨rfl, hB3⟩
  have H3 := Lib.hid (H2.out.below hB3)
  clear hB3 H2
  go_wp2_with fail
  refine (at_run (H3.out.below (lit_below w3 _)) (nm := [108, 112, 117, 115, 104]) (args := [[108], [120], [121]]) (lit_vw w3 [[108, 112, 117, 115, 104], [108], [120], [121]] (by decide)) (low := lpushB) (by decide) (by decide) (by decide) (by decide) (fits_lpush (by decide)) (.inl ⟨rfl, .inl rfl⟩)
    (K := fun S => KeyIs S [108] [[121], [120], [97], [98], [99]])
    (serves_push (by decide) HK2.out true (by decide) (by decide) (by decide) (Nat.le_trans H3.out.num (by decide)) (fun H h => h))).mono ?_
  rintro e w4 ⟨v4, rfl, hv4, o4, S4, c4, h4, hK4, hB4⟩
  obtain ⟨a4, l4, rfl, _⟩ := id hv4.slice
  have H4 := Lib.hid h4
  have HK4 := Lib.hid hK4
  clear hv4 h4 hK4 hB4 H3 HK2
  go_wp2_with fail
  refine (lawnumber_ok _ _ _ _ _ _).mono ?_; rintro e w5 ⟨rfl, hB5⟩
  have H5 := Lib.hid (H4.out.below hB5)
  clear hB5 H4
  go_wp2_with fail
  refine (at_run (H5.out.below (lit_below w5 _)) (nm := [108, 114, 97, 110, 103, 101]) (args := [[108], [49], [45, 50]]) (lit_vw w5 [[108, 114, 97, 110, 103, 101], [108], [49], [45, 50]] (by decide)) (low := lrangeB) (by decide) (by decide) (by decide) (by decide) fits_lrange (.inr (.inr ⟨rfl, .inr (.inl rfl)⟩))
    (K := fun _ => True)
    (serves_range (by decide) (HT.out.below (H5.out.below (lit_below w5 _)).since) HK4.out parse_1 parse_m2 (by decide) (by decide) (by decide) (by decide) (by decide) trivial)).mono ?_
  rintro e w6 ⟨v6, rfl, hv6, o6, S6, c6, h6, hK6, hB6⟩
  have ep : pieceL [[121], [120], [97], [98], [99]] 1 (-2) = [[120], [97], [98]] := by decide +kernel
  rw [ep] at hv6 ⊢
  obtain ⟨a6, l6, rfl, _⟩ := id hv6.slice
  have H6 := Lib.hid h6
  have HV6 := Lib.hid hv6
  clear hv6 h6 hK6 hB6 H5 HK4 ep
  go_wp2_with fail
  refine (lawbulks_ok (l := [[120], [97], [98]]) (HV6.out.below (lit_below w6 _)) (lit_vw w6 [[120], [97], [98]] (by decide)) (by decide)).mono ?_
  rintro e w7 ⟨rfl, hB7⟩
  have HB := Lib.hid (H6.out.below ((lit_below w6 _).trans (hB7.mono (by simp)))).since
  clear hB7 H6 HV6
  go_wp2_with fail
  go_ret
  exact ⟨rfl, HB.out⟩
end Go.Proofs.YtgmmeeikjofefaaGreatDoor
