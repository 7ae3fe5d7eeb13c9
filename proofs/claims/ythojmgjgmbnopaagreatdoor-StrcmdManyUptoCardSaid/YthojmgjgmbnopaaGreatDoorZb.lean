import Derived.Test.YthojmgjgmbnopaaGreatDoorZa
import Derived.Deep.RegionHeld
namespace Go.Proofs.YthojmgjgmbnopaaGreatDoor
open Go Go.RowKit
/-! The document's SameEntries of two rows of like entries. -/
def EV.core (e : EV) : Tx × VV × Int × Nat := (e.key, e.v, e.due, e.ver)
set_option maxRecDepth 10000 in
set_option maxHeartbeats 4000000 in
theorem esame_ok {A B C D : Nat → Prop} {w : World} {va vb : Value} {X Y : List EV} {n : Nat} (hXn : X.length = n) (ha : Vw A w va 8 n (evC X)) (hb : Vw B w vb 8 n (evC Y)) (hx : EvsOk C w X) (hy : EvsOk D w Y) (hc : X.map EV.core = Y.map EV.core) (hn : n ≤ 1099511627776) :
    Calls Tryz.prog 47 #[va, vb] w fun e w' => e = .returned (.bool true) ∧ Below w.heap.size w w' := by
  obtain ⟨a1, cap1, rfl, hcap1, _⟩ := id ha.slice
  obtain ⟨a2, cap2, rfl, hcap2, _⟩ := id hb.slice
  have HA := Lib.hid ha
  have HB := Lib.hid hb
  have HX := Lib.hid hx
  have HY := Lib.hid hy
  have HC := Lib.hid hc
  have HN := Lib.hid hXn
  clear ha hb hx hy hc hXn
  go_enter Tryz.func47, Tryz.ntmps47
  go_wp2_with fail
  go_loopw [5] (fun i wr => ∃ k : Nat, k ≤ n ∧ i = .int .i64 (k : Int) ∧ Below w.heap.size w wr) (fun i _ => n - (intOf i).toNat)
  case atStart => exact ⟨0, Nat.zero_le _, rfl, Below.refl _ _⟩
  case round =>
    obtain ⟨k, hk, rfl, hB⟩ := hrel
    by_cases hkl : k < n
    · obtain ⟨x, hx⟩ : ∃ x, X[k]? = some x := ⟨_, List.getElem?_eq_getElem (by have := HN.out; omega)⟩
      have hlen : Y.length = n := by have h := congrArg List.length HC.out; simp at h; have := HN.out; omega
      obtain ⟨y, hy⟩ : ∃ y, Y[k]? = some y := ⟨_, List.getElem?_eq_getElem (by omega)⟩
      have hxy : x.core = y.core := by
        have h1 : (X.map EV.core)[k]? = some x.core := by rw [List.getElem?_map, hx]; rfl
        have h2 : (Y.map EV.core)[k]? = some y.core := by rw [List.getElem?_map, hy]; rfl
        rw [HC.out, h2] at h1
        exact (Option.some.inj h1).symm
      obtain ⟨b1, o1, c1, e, _, hb1, _, hg1⟩ := vw_evs HA.out hx
      injection e with e1 e2 e3
      subst e1 e3
      obtain ⟨b2, o2, c2, e, _, hb2, _, hg2⟩ := vw_evs HB.out hy
      injection e with e1 e2 e3
      subst e1 e3
      obtain ⟨v1, s1⟩ := HX.out x (List.mem_of_getElem? hx)
      obtain ⟨v2, _⟩ := HY.out y (List.mem_of_getElem? hy)
      have g1 := hg1 k x hx
      have g2 := hg2 k y hy
      obtain ⟨kx, V, due, ver, l, f, r⟩ := x
      obtain ⟨ky, Vy, dy, ny, l', f', r'⟩ := y
      unfold EV.core at hxy
      simp only [Prod.mk.injEq] at hxy
      obtain ⟨rfl, rfl, rfl, rfl⟩ := hxy
      dsimp only at v1 v2 s1
      have HV := Lib.hid (fun (W : World) (hW : Below w.heap.size w W) => vsame_ok (v1.below hW) (v2.below hW) s1)
      have HCS := Lib.hid (fun (W : World) (hW : Below w.heap.size w W) => show (W.cell? ⟨b1, o1 + k * 8, none⟩ = some (.string ⟨kx.toArray⟩) ∧ W.cell? ⟨b1, o1 + k * 8 + 1, none⟩ = some (.int .i64 V.kind) ∧ W.cell? ⟨b1, o1 + k * 8 + 2, none⟩ = some (.string ⟨V.text.toArray⟩) ∧ W.cell? ⟨b1, o1 + k * 8 + 3, none⟩ = some l ∧ W.cell? ⟨b1, o1 + k * 8 + 4, none⟩ = some f ∧ W.cell? ⟨b1, o1 + k * 8 + 5, none⟩ = some r ∧ W.cell? ⟨b1, o1 + k * 8 + 6, none⟩ = some (.int .i64 due) ∧ W.cell? ⟨b1, o1 + k * 8 + 7, none⟩ = some (.int .u64 ver)) ∧ (W.cell? ⟨b2, o2 + k * 8, none⟩ = some (.string ⟨kx.toArray⟩) ∧ W.cell? ⟨b2, o2 + k * 8 + 1, none⟩ = some (.int .i64 V.kind) ∧ W.cell? ⟨b2, o2 + k * 8 + 2, none⟩ = some (.string ⟨V.text.toArray⟩) ∧ W.cell? ⟨b2, o2 + k * 8 + 3, none⟩ = some l' ∧ W.cell? ⟨b2, o2 + k * 8 + 4, none⟩ = some f' ∧ W.cell? ⟨b2, o2 + k * 8 + 5, none⟩ = some r' ∧ W.cell? ⟨b2, o2 + k * 8 + 6, none⟩ = some (.int .i64 due) ∧ W.cell? ⟨b2, o2 + k * 8 + 7, none⟩ = some (.int .u64 ver)) from
        ⟨⟨cell_below hW (g1 0 _ rfl), cell_below hW (g1 1 _ rfl), cell_below hW (g1 2 _ rfl), cell_below hW (g1 3 _ rfl), cell_below hW (g1 4 _ rfl), cell_below hW (g1 5 _ rfl), cell_below hW (g1 6 _ rfl), cell_below hW (g1 7 _ rfl)⟩, cell_below hW (g2 0 _ rfl), cell_below hW (g2 1 _ rfl), cell_below hW (g2 2 _ rfl), cell_below hW (g2 3 _ rfl), cell_below hW (g2 4 _ rfl), cell_below hW (g2 5 _ rfl), cell_below hW (g2 6 _ rfl), cell_below hW (g2 7 _ rfl)⟩)
      obtain ⟨a1, k1, rfl, _⟩ := id v1.list.slice
      obtain ⟨a2, k2, rfl, _⟩ := id v1.fields.slice
      obtain ⟨a3, k3, rfl, _⟩ := id v1.ranked.slice
      obtain ⟨a4, k4, rfl, _⟩ := id v2.list.slice
      obtain ⟨a5, k5, rfl, _⟩ := id v2.fields.slice
      obtain ⟨a6, k6, rfl, _⟩ := id v2.ranked.slice
      have hkI : (0 : Int) ≤ k ∧ (k : Int) < n := by omega
      obtain ⟨hk0, hk1⟩ := hkI
      have hbw1 : b1 < wr.heap.size := Nat.lt_of_lt_of_le hb1 hB.size
      have hbw2 : b2 < wr.heap.size := Nat.lt_of_lt_of_le hb2 hB.size
      have HBW := Lib.hid hB
      obtain ⟨kind, text, list, fields, ranked⟩ := V
      dsimp only at HCS HV
      clear hg1 hg2 g1 g2 hx hy v1 v2 s1 HA HB HX HY HC HN hB hlen
      go_wp2_with fail
      have HA0 := Lib.hid (HCS.out wr.drew (HBW.out.trans ((Below.refl _ wr).drew.mono HBW.out.size)))
      go_region_held (fun W => (W.cell? ⟨b1, o1 + k * 8, none⟩ = some (.string ⟨kx.toArray⟩) ∧ W.cell? ⟨b1, o1 + k * 8 + 1, none⟩ = some (.int .i64 kind) ∧ W.cell? ⟨b1, o1 + k * 8 + 2, none⟩ = some (.string ⟨text.toArray⟩) ∧ W.cell? ⟨b1, o1 + k * 8 + 3, none⟩ = some (.slice a1 list.length k1) ∧ W.cell? ⟨b1, o1 + k * 8 + 4, none⟩ = some (.slice a2 fields.length k2) ∧ W.cell? ⟨b1, o1 + k * 8 + 5, none⟩ = some (.slice a3 ranked.length k3) ∧ W.cell? ⟨b1, o1 + k * 8 + 6, none⟩ = some (.int .i64 due) ∧ W.cell? ⟨b1, o1 + k * 8 + 7, none⟩ = some (.int .u64 ver)) ∧ (W.cell? ⟨b2, o2 + k * 8, none⟩ = some (.string ⟨kx.toArray⟩) ∧ W.cell? ⟨b2, o2 + k * 8 + 1, none⟩ = some (.int .i64 kind) ∧ W.cell? ⟨b2, o2 + k * 8 + 2, none⟩ = some (.string ⟨text.toArray⟩) ∧ W.cell? ⟨b2, o2 + k * 8 + 3, none⟩ = some (.slice a4 list.length k4) ∧ W.cell? ⟨b2, o2 + k * 8 + 4, none⟩ = some (.slice a5 fields.length k5) ∧ W.cell? ⟨b2, o2 + k * 8 + 5, none⟩ = some (.slice a6 ranked.length k6) ∧ W.cell? ⟨b2, o2 + k * 8 + 6, none⟩ = some (.int .i64 due) ∧ W.cell? ⟨b2, o2 + k * 8 + 7, none⟩ = some (.int .u64 ver)))
        (first | exact HA0.out | exact HA5.out) (first
        | (go_at_call 37
           (with_reducible refine (HV.out _ (HBW.out.trans ((Below.refl _ wr).drew.mono HBW.out.size))).mono ?_)
           rintro e w5 ⟨rfl, hB5⟩
           have HB5 := Lib.hid (HBW.out.trans (((Below.refl _ wr).drew.trans hB5).mono HBW.out.size))
           have HA5 := Lib.hid (HCS.out w5 HB5.out)
           clear hB5))
      all_goals (
        clear HCS HV HA0 HA5 HBW
        go_wp2_with fail
        go_roundw
        case rel => exact ⟨k + 1, hkl, by go_num, HB5.out⟩
        case measure => simp [intOf]; omega)
    · obtain rfl : k = n := by omega
      have HE := Lib.hid hB
      clear HA HB HX HY HC HN hB
      go_wp2_with fail
      go_ret
      exact ⟨rfl, HE.out⟩
end Go.Proofs.YthojmgjgmbnopaaGreatDoor
