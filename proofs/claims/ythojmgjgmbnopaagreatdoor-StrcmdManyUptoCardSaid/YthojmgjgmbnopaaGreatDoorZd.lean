import Derived.Test.YthojmgjgmbnopaaGreatDoorZc
namespace Go.Proofs.YthojmgjgmbnopaaGreatDoor
open Go Go.RowKit
/-! The document's Get of any key at any tick. -/
set_option maxRecDepth 10000 in
theorem xover_ok (w : World) (d now : Int) : Calls Tryz.prog 33 #[.int .i64 d, .int .i64 now] w fun e w' => e = .returned (.bool (d != 0 && decide (d ≤ now))) ∧ w' = w := by
  rcases h0 : (d == 0) with _ | _
  · have h1 : (d != 0) = true := by rw [bne, h0]; rfl
    rcases h2 : decide (d ≤ now) with _ | _
    · go_enter Tryz.func33, Tryz.ntmps33
      go_wp2
      go_ret
      exact ⟨by rw [h1]; rfl, rfl⟩
    · go_enter Tryz.func33, Tryz.ntmps33
      go_wp2
      go_ret
      exact ⟨by rw [h1]; rfl, rfl⟩
  · have h1 : (d != 0) = false := by rw [bne, h0]; rfl
    go_enter Tryz.func33, Tryz.ntmps33
    go_wp2
    go_ret
    exact ⟨by rw [h1]; rfl, rfl⟩
def XEnt (w : World) (V : VV) (ok : Bool) (e : Ending) (w' : World) : Prop :=
  ∃ key a1 n1 c1 a2 n2 c2 a3 n3 c3 due ver, e = .returned (.tuple #[.agg #[.string key, .int .i64 V.kind, .string ⟨V.text.toArray⟩, .slice a1 n1 c1, .slice a2 n2 c2, .slice a3 n3 c3, .int .i64 due, .int .u64 ver], .bool ok]) ∧ Below w.heap.size w w'
def XGot (w : World) (V : VV) (ok : Bool) (e : Ending) (w' : World) : Prop :=
  ∃ a1 n1 c1 a2 n2 c2 a3 n3 c3, e = .returned (.tuple #[.agg #[.int .i64 V.kind, .string ⟨V.text.toArray⟩, .slice a1 n1 c1, .slice a2 n2 c2, .slice a3 n3 c3], .bool ok]) ∧ Below w.heap.size w w'
section
variable {o : Roles} {w : World} {q : List Nat} {x n : Nat} {S : SP} {X : List EV}
set_option maxRecDepth 10000 in
set_option maxHeartbeats 4000000 in
theorem xentry_any (h : XsR o w q x X n) (hag : Agree X S) (hn : X.length ≤ 1099511627776) (k : Tx) (now : Int) :
    Calls Tryz.prog 89 #[.pointer (some ⟨x, 0, none⟩), txt k, .int .i64 now] w (XEnt w ((S.at now k).getD hd0).v (S.at now k).isSome) := by
  obtain ⟨⟨xl, hblk, hvw⟩, hvals, hsort⟩ := h
  obtain ⟨ax, cx, rfl, _⟩ := id hvw.slice
  have HFI := Lib.hid (fun (W : World) (hB : Below w.heap.size w W) => xfind_any (hvw.below hB) hsort hn k)
  have hB1 : Below w.heap.size w (w.alloc (.cells #[.string ⟨#[]⟩, .int .i64 0, .string ⟨#[]⟩, .slice none 0 0, .slice none 0 0, .slice none 0 0, .int .i64 0, .int .u64 0] 133)) := (Below.refl _ _).alloc (Nat.le_refl _) _
  have hd1 : Blk none0 (w.alloc (.cells #[.string ⟨#[]⟩, .int .i64 0, .string ⟨#[]⟩, .slice none 0 0, .slice none 0 0, .slice none 0 0, .int .i64 0, .int .u64 0] 133)) [] w.heap.size #[.string ⟨#[]⟩, .int .i64 0, .string ⟨#[]⟩, .slice none 0 0, .slice none 0 0, .slice none 0 0, .int .i64 0, .int .u64 0] 133 := ⟨heap_alloc_new w _, rfl⟩
  have hcb := hblk.cell
  have hlb := hblk.lt
  have HB := Lib.hid hblk
  have HD := Lib.hid hd1
  have HB1 := Lib.hid hB1
  have hgp := getX_pos hsort k
  have hgh := hasK_getX hsort k
  have hkk := hag k
  unfold txt at HFI ⊢
  cases hS : S k with
  | none =>
    have hx0 : getX X k = none := by rw [hS] at hkk; cases hg : getX X k with | none => rfl | some e => rw [hg] at hkk; cases hkk
    rw [hx0] at hgh
    rw [hgh] at HFI
    rw [SP.at_none hS]
    simp only [Option.isSome_none, Option.getD_none] at HFI ⊢
    clear hgp hgh hkk hx0 hS hag hB1 hd1 hblk hvw hvals hsort
    go_enter Tryz.func89, Tryz.ntmps89
    go_wp2_with fail
    refine (HFI.out _ HB1.out).mono ?_; rintro e w2 ⟨rfl, hB2⟩
    have hb2 := (HB.out.below (HB1.out.trans (hB2.mono HB1.out.size))).cell
    have hd2 := (HD.out.below hB2).cell
    have hf2 := (HD.out.below hB2).free
    have HB2 := Lib.hid (HB1.out.trans (hB2.mono HB1.out.size))
    clear HFI HB HD HB1 hB2 hcb
    go_wp2_with fail
    exact bodyPost_ret (v := .tuple #[.agg #[.string ⟨#[]⟩, .int .i64 0, .string ⟨#[]⟩, .slice none 0 0, .slice none 0 0, .slice none 0 0, .int .i64 0, .int .u64 0], .bool false]) (by simp [results, Tryz.results89, go_sem, hd2]) rfl ⟨_, _, _, _, _, _, _, _, _, _, _, _, rfl, by
      iterate 8 refine Below.setCell ?_ (by exact Nat.le_refl _) _
      exact HB2.out⟩
  | some H =>
    obtain ⟨ev, hg, rfl⟩ : ∃ ev, getX X k = some ev ∧ ev.hd = H := by
      rw [hS] at hkk
      cases hg : getX X k with
      | none => rw [hg] at hkk; cases hkk
      | some e => rw [hg] at hkk; exact ⟨e, rfl, Option.some.inj hkk⟩
    rw [hg] at hgh
    have hgh : hasK X k = true := hgh
    rw [hgh] at HFI
    rw [hg, hgh, if_pos rfl] at hgp
    have hlt := hasK_lt hgh
    obtain ⟨b, off, c, e, _, hbl, _, hcs⟩ := vw_evs hvw hgp.symm
    injection e with e1 e2 e3
    subst e1 e3
    have hv3 := (hvals ev (getX_key hg).2).1
    have hg8 := hcs _ _ hgp.symm
    generalize hpk : posK X k = pk at *
    obtain ⟨key, ⟨kind, text, list, fields, ranked⟩, due, ver, l, f, r⟩ := ev
    dsimp only at hv3
    obtain ⟨l1, m1, rfl, _⟩ := id hv3.list.slice
    obtain ⟨l2, m2, rfl, _⟩ := id hv3.fields.slice
    obtain ⟨l3, m3, rfl, _⟩ := id hv3.ranked.slice
    unfold EV.hd at hS
    rw [SP.at_over hS]
    have HC := Lib.hid (fun (W : World) (hW : Below w.heap.size w W) => show W.cell? ⟨b, off + pk * 8, none⟩ = some (.string ⟨key.toArray⟩) ∧ W.cell? ⟨b, off + pk * 8 + 1, none⟩ = some (.int .i64 kind) ∧ W.cell? ⟨b, off + pk * 8 + 2, none⟩ = some (.string ⟨text.toArray⟩) ∧ W.cell? ⟨b, off + pk * 8 + 3, none⟩ = some (.slice l1 list.length m1) ∧ W.cell? ⟨b, off + pk * 8 + 4, none⟩ = some (.slice l2 fields.length m2) ∧ W.cell? ⟨b, off + pk * 8 + 5, none⟩ = some (.slice l3 ranked.length m3) ∧ W.cell? ⟨b, off + pk * 8 + 6, none⟩ = some (.int .i64 due) ∧ W.cell? ⟨b, off + pk * 8 + 7, none⟩ = some (.int .u64 ver) from
      ⟨cell_below hW (hg8 0 _ rfl), cell_below hW (hg8 1 _ rfl), cell_below hW (hg8 2 _ rfl), cell_below hW (hg8 3 _ rfl), cell_below hW (hg8 4 _ rfl), cell_below hW (hg8 5 _ rfl), cell_below hW (hg8 6 _ rfl), cell_below hW (hg8 7 _ rfl)⟩)
    have hkI : (0 : Int) ≤ pk ∧ (pk : Int) < X.length := by omega
    obtain ⟨hk0, hk1⟩ := hkI
    have hov : Hd.over ⟨⟨kind, text, list, fields, ranked⟩, due, ver⟩ now = (due != 0 && decide (due ≤ now)) := rfl
    rw [hov]
    have HO := Lib.hid (fun W => xover_ok W due now)
    generalize (due != 0 && decide (due ≤ now)) = ov at *
    clear hov hgp hgh hkk hg hS hag hB1 hd1 hblk hvw hvals hsort hcs hg8 hv3
    cases ov
    · simp only [Bool.false_eq_true, if_false, Option.isSome_some, Option.getD_some]
      go_enter Tryz.func89, Tryz.ntmps89
      go_wp2_with fail
      refine (HFI.out _ HB1.out).mono ?_; rintro e w2 ⟨rfl, hB2⟩
      have hb2 := (HB.out.below (HB1.out.trans (hB2.mono HB1.out.size))).cell
      have hd2 := (HD.out.below hB2).cell
      have hf2 := (HD.out.below hB2).free
      obtain ⟨c0, c1, c2, c3, c4, c5, c6, c7⟩ := HC.out _ (HB1.out.trans (hB2.mono HB1.out.size))
      have hbl2 : b < w2.heap.size := Nat.lt_of_lt_of_le hbl (HB1.out.trans (hB2.mono HB1.out.size)).size
      have HB2 := Lib.hid (HB1.out.trans (hB2.mono HB1.out.size))
      clear HFI HB HD HB1 hB2 hcb HC
      go_wp2_with fail
      refine (HO.out _).mono ?_; rintro e w3 ⟨rfl, rfl⟩
      go_wp2_with fail
      exact bodyPost_ret (v := .tuple #[.agg #[.string ⟨key.toArray⟩, .int .i64 kind, .string ⟨text.toArray⟩, .slice l1 list.length m1, .slice l2 fields.length m2, .slice l3 ranked.length m3, .int .i64 due, .int .u64 ver], .bool true]) (by simp [results, Tryz.results89, go_sem, hd2]) rfl ⟨_, _, _, _, _, _, _, _, _, _, _, _, rfl, by
        iterate 8 refine Below.setCell ?_ (by exact Nat.le_refl _) _
        exact HB2.out⟩
    · simp only [if_true, Option.isSome_none, Option.getD_none]
      go_enter Tryz.func89, Tryz.ntmps89
      go_wp2_with fail
      refine (HFI.out _ HB1.out).mono ?_; rintro e w2 ⟨rfl, hB2⟩
      have hb2 := (HB.out.below (HB1.out.trans (hB2.mono HB1.out.size))).cell
      have hd2 := (HD.out.below hB2).cell
      have hf2 := (HD.out.below hB2).free
      obtain ⟨c0, c1, c2, c3, c4, c5, c6, c7⟩ := HC.out _ (HB1.out.trans (hB2.mono HB1.out.size))
      have hbl2 : b < w2.heap.size := Nat.lt_of_lt_of_le hbl (HB1.out.trans (hB2.mono HB1.out.size)).size
      have HB2 := Lib.hid (HB1.out.trans (hB2.mono HB1.out.size))
      clear HFI HB HD HB1 hB2 hcb HC
      go_wp2_with fail
      refine (HO.out _).mono ?_; rintro e w3 ⟨rfl, rfl⟩
      go_wp2_with fail
      exact bodyPost_ret (v := .tuple #[.agg #[.string ⟨#[]⟩, .int .i64 0, .string ⟨#[]⟩, .slice none 0 0, .slice none 0 0, .slice none 0 0, .int .i64 0, .int .u64 0], .bool false]) (by simp [results, Tryz.results89, go_sem, hd2]) rfl ⟨_, _, _, _, _, _, _, _, _, _, _, _, rfl, by
        iterate 8 refine Below.setCell ?_ (by exact Nat.le_refl _) _
        exact HB2.out⟩
set_option maxRecDepth 10000 in
set_option maxHeartbeats 4000000 in
theorem xget_any (h : XsR o w q x X n) (hag : Agree X S) (hn : X.length ≤ 1099511627776) (k : Tx) (now : Int) :
    Calls Tryz.prog 55 #[.pointer (some ⟨x, 0, none⟩), txt k, .int .i64 now] w (XGot w ((S.at now k).getD hd0).v (S.at now k).isSome) := by
  have hB1 : Below w.heap.size w (w.alloc (.cells #[.int .i64 0, .string ⟨#[]⟩, .slice none 0 0, .slice none 0 0, .slice none 0 0] 43)) := (Below.refl _ _).alloc (Nat.le_refl _) _
  have hd1 : Blk none0 (w.alloc (.cells #[.int .i64 0, .string ⟨#[]⟩, .slice none 0 0, .slice none 0 0, .slice none 0 0] 43)) [] w.heap.size #[.int .i64 0, .string ⟨#[]⟩, .slice none 0 0, .slice none 0 0, .slice none 0 0] 43 := ⟨heap_alloc_new w _, rfl⟩
  have HEN := Lib.hid (xentry_any (h.below hB1) hag hn k now)
  have HD := Lib.hid hd1
  have HB1 := Lib.hid hB1
  generalize (S.at now k).isSome = ok at *
  generalize ((S.at now k).getD hd0).v = V at *
  obtain ⟨kind, text, list, fields, ranked⟩ := V
  unfold XEnt txt at HEN
  unfold txt
  dsimp only at HEN
  clear h hag hB1 hd1
  go_enter Tryz.func55, Tryz.ntmps55
  go_wp2_with fail
  refine HEN.out.mono ?_; rintro e w2 ⟨key, a1, n1, c1, a2, n2, c2, a3, n3, c3, due, ver, rfl, hB2⟩
  have hd2 := (HD.out.below hB2).cell
  have hf2 := (HD.out.below hB2).free
  have hl2 := (HD.out.below hB2).lt
  have HB2 := Lib.hid (HB1.out.trans (hB2.mono HB1.out.size))
  clear HEN HD hB2 HB1
  go_wp2_with fail
  exact bodyPost_ret (v := .tuple #[.agg #[.int .i64 kind, .string ⟨text.toArray⟩, .slice a1 n1 c1, .slice a2 n2 c2, .slice a3 n3 c3], .bool ok]) (by simp [results, Tryz.results55, go_sem, hd2, hl2]) rfl ⟨_, _, _, _, _, _, _, _, _, rfl, by
    refine Below.alloc ?_ (by have := HB2.out.size; simpa using this) _
    iterate 5 refine Below.setCell ?_ (by exact Nat.le_refl _) _
    exact HB2.out⟩
end
end Go.Proofs.YthojmgjgmbnopaaGreatDoor
