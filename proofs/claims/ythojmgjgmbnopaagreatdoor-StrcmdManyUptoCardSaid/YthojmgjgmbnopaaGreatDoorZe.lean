import Derived.Test.YthojmgjgmbnopaaGreatDoorZd
namespace Go.Proofs.YthojmgjgmbnopaaGreatDoor
open Go Go.RowKit
/-! Like: what the program's space has is what the document's has. -/
set_option maxRecDepth 10000 in
theorem zcounter_ok {o : Roles} {w : World} {q : List Nat} {p : Nat} {c : Cnt} {S : SP} (h : SpJ o w q p S c) : Calls Tryz.prog 49 #[.pointer (some ⟨p, 0, none⟩)] w fun e w' => e = .returned (.int .u64 (c.num : Int)) ∧ w' = w := by
  obtain ⟨m, d, a, kvs, h⟩ := h
  have hc := h.blk.cell
  clear h
  go_enter Tryz.func49, Tryz.ntmps49
  go_wp2_with fail
  go_ret
  exact ⟨rfl, rfl⟩
set_option maxRecDepth 10000 in
theorem xcounter_ok {o : Roles} {w : World} {q : List Nat} {x n : Nat} {X : List EV} (h : XsR o w q x X n) : Calls Tryz.prog 91 #[.pointer (some ⟨x, 0, none⟩)] w fun e w' => e = .returned (.int .u64 (n : Int)) ∧ w' = w := by
  obtain ⟨⟨l, h, _⟩, _, _⟩ := h
  have hc := h.cell
  clear h
  go_enter Tryz.func91, Tryz.ntmps91
  go_wp2_with fail
  go_ret
  exact ⟨rfl, rfl⟩
set_option maxRecDepth 10000 in
set_option maxHeartbeats 4000000 in
theorem like_ok {o o' : Roles} {w : World} {q r : List Nat} {p x n m : Nat} {S : SP} {X : List EV} (h : SpJ o w q p S ⟨n, m⟩) (hx : XsR o' w r x X n) (hag : Agree X S) (hn : X.length ≤ 1099511627776) :
    Calls Tryz.prog 57 #[.pointer (some ⟨p, 0, none⟩), .pointer (some ⟨x, 0, none⟩)] w fun e w' => e = .returned (.bool true) ∧ Below w.heap.size w w' := by
  have hB0 : Below w.heap.size w w.drew := (Below.refl _ w).drew
  have HEN := Lib.hid (entries_ok (h.below hB0) hx.sort hag hn)
  have HCT := Lib.hid (fun (W : World) (hW : Below w.heap.size w W) => zcounter_ok (h.below hW))
  have HXT := Lib.hid (fun (W : World) (hW : Below w.heap.size w W) => xcounter_ok (hx.below hW))
  obtain ⟨⟨xl, hblk, hvw⟩, hvals, hsort⟩ := hx
  obtain ⟨ax, cx, rfl, _⟩ := id hvw.slice
  have HXC := Lib.hid (fun (W : World) (hW : Below w.heap.size w W) => (hblk.below hW).cell)
  have HXV := Lib.hid hvw
  have HXE := Lib.hid hvals
  have HN := Lib.hid hn
  clear hB0 h hblk hvw hvals hsort hag hn
  go_enter Tryz.func57, Tryz.ntmps57
  go_wp2_with fail
  refine region_staged (n := 15) (cs := [1, 6, 9, 11]) (st := [0, 0, 0, 0, 0, 0, 1, 2, 2, 2, 2, 3, 4, 4, 4]) (S := fun W => W = w.drew) (l := [(some 5, .pointer (some ⟨p, 0, none⟩)), (some 6, undef), (some 7, .pointer (some ⟨x, 0, none⟩)), (some 8, .pointer (some ⟨x, 0, none⟩)), (some 9, .pointer (some ⟨x, 0, none⟩)), (some 10, .slice ax X.length cx), (some 11, undef), (some 12, undef), (some 13, undef), (some 14, undef), (some 15, undef), (some 16, undef), (some 17, undef), (some 18, undef), (some 4, undef)])
    (by kernel_rfl) ⟨by kernel_rfl, by kernel_rfl, by kernel_rfl, by decide, by kernel_rfl, by kernel_rfl, by kernel_rfl, rfl, by kernel_rfl⟩ rfl (fun hreg0 => ?_)
  refine ZAt.step (fun u W => ∃ Y, Vw (fun b => w.heap.size ≤ b) W u 8 X.length (evC Y) ∧ EvsOk (fun b => w.heap.size ≤ b) W Y ∧ Y.map EV.core = X.map EV.core ∧ Below w.heap.size w W) 1 (by simp only [zFin, Act.put, List.setIfInBounds_toArray, List.set_cons_zero, List.set_cons_succ]; exact rfl) rfl hreg0 [true, false, true, true, true, true, false, false, false, false, false, false, false, false, false] (by kernel_rfl)
    ⟨ZSee.val (by kernel_rfl) (fun W _ => by kernel_rfl),
      ZSee.val (by kernel_rfl) (fun W _ => by kernel_rfl),
      ZSee.val (by kernel_rfl) (fun W _ => by kernel_rfl),
      ZSee.val (by kernel_rfl) (fun W _ => by kernel_rfl),
      ZSee.val (by kernel_rfl) (fun W hW => by subst hW; have hc := HXC.out w (Below.refl _ _); go_simp; done),
      trivial⟩
    (fun o ho => by
      obtain rfl := Option.some.inj ho
      exact ZTurn.call (by kernel_rfl) 48 #[.pointer (some ⟨p, 0, none⟩)] (fun _ _ => by kernel_rfl) (fun W hW => by
        subst hW
        refine HEN.out.mono ?_
        rintro e w' ⟨v, Y, rfl, h1, h2, h3, h4⟩
        exact ⟨v, rfl, Y, h1, h2, h3, (Below.refl _ w).drew.trans h4⟩))
    (fun u W0 hW0 => ?_)
  obtain ⟨Y0, hv, _, _, _⟩ := hW0
  obtain ⟨ya, yc, rfl, _⟩ := id hv.slice
  clear hv
  refine ⟨[], _, rfl, (by simp only [zUpd, List.getD_cons_succ, List.getD_cons_zero, List.set_cons_succ, List.set_cons_zero]; exact rfl), fun hreg1 => ?_⟩
  refine ZAt.step (fun u W => u = .bool true ∧ Below w.heap.size w W) 6 (by simp only [zFin, Act.put, List.setIfInBounds_toArray, List.set_cons_zero, List.set_cons_succ]; exact rfl) rfl hreg1 [false, false, true, true, true, true, false, false, false, false, false, false, false, false, false] (by kernel_rfl)
    ⟨ZSee.val (by kernel_rfl) (fun W _ => by kernel_rfl),
      ZSee.val (by kernel_rfl) (fun W _ => by kernel_rfl),
      ZSee.val (by kernel_rfl) (fun W _ => by kernel_rfl),
      ZSee.val (by kernel_rfl) (fun W hW => by obtain ⟨_, _, _, _, hB⟩ := hW; have hc := HXC.out W hB; go_simp; done),
      trivial⟩
    (fun o ho => by
      obtain rfl := Option.some.inj ho
      exact ZTurn.call (by kernel_rfl) 47 #[.slice ya X.length yc, .slice ax X.length cx] (fun _ _ => by kernel_rfl) (fun W hW => by
        obtain ⟨Y, hv, he, hco, hB⟩ := hW
        refine (esame_ok (n := X.length) (by have := congrArg List.length hco; simpa using this) hv (HXV.out.below hB) he (fun e he => ⟨(HXE.out e he).1.below hB, (HXE.out e he).2⟩) hco HN.out).mono ?_
        rintro e w' ⟨rfl, hB'⟩
        exact ⟨_, rfl, rfl, hB.trans (hB'.mono hB.size)⟩))
    (fun u W0 hW0 => ?_)
  obtain ⟨rfl, _⟩ := hW0
  refine ⟨[(7, .bool true), (8, .pointer (some ⟨p, 0, none⟩)), (10, .pointer (some ⟨x, 0, none⟩))], _, rfl, (by simp only [zUpd, List.getD_cons_succ, List.getD_cons_zero, List.set_cons_succ, List.set_cons_zero]; exact rfl), fun hreg2 => ?_⟩
  refine ZAt.step (fun u W => u = .int .u64 (n : Int) ∧ Below w.heap.size w W) 9 (by simp only [zFin, Act.put, List.setIfInBounds_toArray, List.set_cons_zero, List.set_cons_succ]; exact rfl) rfl hreg2 [false, false, false, false, false, false, false, true, true, false, true, false, false, false, false] (by kernel_rfl)
    ⟨ZSee.val (by kernel_rfl) (fun W _ => by kernel_rfl),
      ZSee.val (by kernel_rfl) (fun W _ => by kernel_rfl),
      ZSee.val (by kernel_rfl) (fun W _ => by kernel_rfl),
      trivial⟩
    (fun o ho => by
      obtain rfl := Option.some.inj ho
      exact ZTurn.call (by kernel_rfl) 49 #[.pointer (some ⟨p, 0, none⟩)] (fun _ _ => by kernel_rfl) (fun W hW => by
        obtain ⟨_, hB⟩ := hW
        refine (HCT.out W hB).mono ?_
        rintro e w' ⟨rfl, rfl⟩
        exact ⟨_, rfl, rfl, hB⟩))
    (fun u W0 hW0 => ?_)
  obtain ⟨rfl, _⟩ := hW0
  refine ⟨[], _, rfl, (by simp only [zUpd, List.getD_cons_succ, List.getD_cons_zero, List.set_cons_succ, List.set_cons_zero]; exact rfl), fun hreg3 => ?_⟩
  refine ZAt.step (fun u W => u = .int .u64 (n : Int) ∧ Below w.heap.size w W) 11 (by simp only [zFin, Act.put, List.setIfInBounds_toArray, List.set_cons_zero, List.set_cons_succ]; exact rfl) rfl hreg3 [false, false, false, false, false, false, false, false, false, false, true, false, false, false, false] (by kernel_rfl)
    ⟨ZSee.val (by kernel_rfl) (fun W _ => by kernel_rfl),
      trivial⟩
    (fun o ho => by
      obtain rfl := Option.some.inj ho
      exact ZTurn.call (by kernel_rfl) 91 #[.pointer (some ⟨x, 0, none⟩)] (fun _ _ => by kernel_rfl) (fun W hW => by
        obtain ⟨_, hB⟩ := hW
        refine (HXT.out W hB).mono ?_
        rintro e w' ⟨rfl, rfl⟩
        exact ⟨_, rfl, rfl, hB⟩))
    (fun u W0 hW0 => ?_)
  obtain ⟨rfl, _⟩ := hW0
  refine ⟨[(12, .bool true), (13, .bool true), (14, .bool true)], _, rfl, (by simp only [zUpd, List.getD_cons_succ, List.getD_cons_zero, List.set_cons_succ, List.set_cons_zero]; exact rfl), fun hreg4 => ?_⟩
  refine ZAt.done (by simp only [zFin, Act.put, List.setIfInBounds_toArray, List.set_cons_zero, List.set_cons_succ]; exact rfl) rfl hreg4 [false, false, false, false, false, false, false, false, false, false, false, false, true, true, true] (by kernel_rfl) ⟨ZSee.val (by kernel_rfl) (fun W hW => by go_simp; done),
      ZSee.val (by kernel_rfl) (fun W _ => by kernel_rfl),
      ZSee.val (by kernel_rfl) (fun W _ => by kernel_rfl),
      trivial⟩ ?_
  clear hreg0 hreg1 hreg2 hreg3 hreg4
  rintro w9 ⟨_, hB9⟩
  have HB9 := Lib.hid hB9
  clear hB9
  simp only [List.drop_succ_cons, List.drop_nil]
  go_wp2_with fail
  go_ret
  exact ⟨rfl, HB9.out⟩
end Go.Proofs.YthojmgjgmbnopaaGreatDoor
