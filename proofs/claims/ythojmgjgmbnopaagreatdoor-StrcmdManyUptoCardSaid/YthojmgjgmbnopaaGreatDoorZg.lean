import Derived.Test.YthojmgjgmbnopaaGreatDoorZf
import Derived.Test.YthojmgjgmbnopaaGreatDoorJE
import Derived.Test.YthojmgjgmbnopaaGreatDoorUh
import Derived.Test.YthojmgjgmbnopaaGreatDoorIf
namespace Go.Proofs.YthojmgjgmbnopaaGreatDoor
open Go Go.RowKit
/-! StrcmdMany. -/
theorem fits_get2 : Fits [103, 101, 116] 2 := ⟨⟨[103, 101, 116], 2, false, false, 1, 1, 1⟩, by kernel_rfl, .inl ⟨by decide, by decide⟩, by decide⟩
theorem fits_mget {n : Nat} (h : 0 < n) : Fits [109, 103, 101, 116] (n + 1) := ⟨⟨[109, 103, 101, 116], -2, false, false, 1, -1, 1⟩, by kernel_rfl, .inr ⟨by decide, by show (2 : Int) ≤ _; omega⟩, by decide⟩
theorem goes_mget : Goes [109, 103, 101, 116] 109 := by unfold Goes; kernel_rfl
set_option maxRecDepth 10000 in
set_option maxHeartbeats 20000000 in
theorem many_law {w0 : World} (hT : Tbl w0) {v vk : Value} {L : List ST} {ks : List Tx} (hv : Vw (Old w0) w0 v 7 L.length (stC L)) (hok : StsOk (Old w0) w0 L) (hn : L.length ≤ 1048577) (hk : Vw (Old w0) w0 vk 1 ks.length (ks.map txt)) (hkn : ks.length ≤ 1048577) (now : Int) :
    Calls Tryz.prog 13 #[v, vk, .int .i64 now] w0 fun e w' => e = .returned (.bool true) ∧ Below w0.heap.size w0 w' := by
  obtain ⟨av, cv, rfl, _⟩ := id hv.slice
  obtain ⟨ak, ck, rfl, _⟩ := id hk.slice
  have HBG := Lib.hid (begun_any hv hok (by omega))
  have HT := Lib.hid hT
  have HK := Lib.hid hk
  clear hv hok hT hk
  by_cases hks : ks = []
  · subst hks
    clear HK
    simp only [List.length_nil] at *
    go_enter Tryz.func13, Tryz.ntmps13
    go_wp2_with fail
    refine HBG.out.mono ?_; rintro e w1 ⟨p, x, o1, X, rfl, hj, hx, hag, hXl, hst⟩
    have HS1 := Lib.hid hst.below0
    clear hj hx hag hXl hst HBG
    go_wp2_with fail
    refine (awake_ok (HT.out.below HS1.out)).mono ?_; rintro e w2 ⟨rfl, hB2⟩
    have HS2 := Lib.hid (HS1.out.trans (hB2.mono HS1.out.size))
    clear hB2 HS1
    go_wp2_with fail
    refine (awake_ok (HT.out.below HS2.out)).mono ?_; rintro e w3 ⟨rfl, hB3⟩
    have HS3 := Lib.hid (HS2.out.trans (hB3.mono HS2.out.size))
    clear hB3 HS2
    go_wp2_with fail
    go_ret
    exact ⟨rfl, HS3.out⟩
  have hpos : 0 < ks.length := by
    rcases Nat.eq_zero_or_pos ks.length with h | h
    · exact absurd (List.eq_nil_of_length_eq_zero h) hks
    · exact h
  obtain ⟨N, hN⟩ : ∃ N, N = ks.length := ⟨_, rfl⟩
  rw [← hN] at hpos hkn HK
  have hne2 : ((N : Int) == 0) = false := beq_eq_false_iff_ne.2 (by omega)
  have HNK := Lib.hid hN
  have HPOS := Lib.hid hpos
  rw [← hN]
  clear hks hpos hN
  go_enter Tryz.func13, Tryz.ntmps13
  go_wp2_with fail
  refine HBG.out.mono ?_; rintro e w1 ⟨p, x, o1, X, rfl, hj, hx, hag, hXl, hst⟩
  have hXn : X.length ≤ 1099511627776 := by omega
  generalize begS L zeroS = st at *
  obtain ⟨S, n⟩ := st
  dsimp only at hj hx hag
  have HJ := Lib.hid hj
  have HX := Lib.hid hx
  have HAG := Lib.hid hag
  have HXN := Lib.hid hXn
  have HB1 := Lib.hid hst.below0
  have HCL := Lib.hid (fun k => at_clamp hj now k)
  clear hj hx hag hXl hXn hst HBG
  go_wp2_with fail
  refine (awake_ok (HT.out.below HB1.out)).mono ?_; rintro e w2 ⟨rfl, hB2⟩
  have HB2 := Lib.hid hB2
  clear hB2 HT
  obtain ⟨i0, hi0, hz0, hz1, hz2⟩ := info_parts infoS
  have HRW := Lib.hid (Row.lit none0 w2 [9, 0] 9 [txt [77, 71, 69, 84]] (by simp))
  have hkA := HK.out.below (HB1.out.trans (HB2.out.mono HB1.out.size))
  have HSRC := Lib.hid ((hkA.below (lit_below0 w2 (.cells #[txt [77, 71, 69, 84]] 9))).src (P := Tryz.prog) Tryz.underlying39 (by intro u hu; obtain ⟨x, _, rfl⟩ := List.mem_map.1 hu; rfl))
  have HM := Lib.hid (show 1 + N ≤ maxLen ∧ (1 + N) * 16 ≤ 140737488355328 from by unfold maxLen; omega)
  clear hkA
  unfold txt at HRW HSRC
  go_wp2_with (
    at_builtin
    refine wpList_app _ rfl _ _ 39 39 rfl 9 i0 _ 1 16 Tryz.underlying39 hi0 hz0 hz1 hz2 rfl rfl HRW.out rfl HSRC.out HM.out.1 HM.out.2 ?_
    intro v3 w3 o3 hrow3 hst3
    have HROW3 := Lib.hid hrow3
    have HB3 := Lib.hid (show Below w2.heap.size w2 w3 from (((Stp.refl [9] none0 w2).alloc (r' := [9, 0]) (.cells #[.string ⟨([77, 71, 69, 84] : List UInt8).toArray⟩] 9) w2.heap.size rfl).trans (hst3.wide (by decide))).below0)
    obtain ⟨a3, c3, rfl, _⟩ := id hrow3.slice
    clear hrow3 hst3 HRW HSRC HM)
  have hB13 : Below w1.heap.size w1 w3 := HB2.out.trans (HB3.out.mono HB2.out.size)
  obtain ⟨now', hnow⟩ : ∃ now', max 0 (min now 9007199254740992) = now' := ⟨_, rfl⟩
  have hargs : Vw (Old w3) w3 (.slice a3 (1 + N) c3) 1 (ks.length + 1) (([77, 71, 69, 84] :: ks).map txt) := by
    have h := HROW3.out.vw.imp (B := fun _ => True) (fun _ _ => trivial)
    rw [show ks.length + 1 = 1 + N by have := HNK.out; omega]
    exact (h.lim).imp (fun b hb => hb.2)
  have hrun : Calls Tryz.prog 23 #[.pointer (some ⟨p, 0, none⟩), .int .i64 now, .slice a3 (1 + N) c3] w3 (fun e w' => ∃ v, e = .returned (.tuple #[.agg #[.int .i64 6, .string ⟨#[]⟩, .int .i64 0, v], .bool true]) ∧ Vw (fun b => w3.heap.size ≤ b) w' v 4 N (rfsC (ks.map (oneF S now'))) ∧ Below w3.heap.size w3 w') := by
    have h := tTell_any (HJ.out.below hB13) hnow hargs (low := [109, 103, 101, 116]) (by decide) (by simp) (by have := HNK.out; omega) (by have := HNK.out; have := HPOS.out; omega) (fits_mget (by have := HNK.out; have := HPOS.out; omega)) goes_mget
      (r := ⟨6, [], 0, ks.map (oneF S now')⟩) (fun o1 w1 ρ cb sv hj hB hcb hv => mget_ok hj hcb hv (by have := HNK.out; omega))
    refine h.mono fun e w' hh => ?_
    obtain ⟨v, h1, h2, h3⟩ := hh
    exact ⟨v, h1, by rw [HNK.out]; simpa using h2, h3⟩
  have HRUN := Lib.hid hrun
  have HNOW := Lib.hid hnow
  clear hrun hargs HROW3 hnow
  refine HRUN.out.mono ?_; rintro e w4a ⟨v4, rfl, hv4, hB4⟩
  obtain ⟨al, cl, rfl, _⟩ := id hv4.slice
  have HV4 := Lib.hid hv4
  have HB4 := Lib.hid (hB13.trans (hB4.mono hB13.size))
  clear hv4 hB4 hB13 HRUN HB2 HB3
  go_wp2_with fail
  obtain ⟨w4, hw4⟩ : ∃ w4, w4 = w4a.alloc (.cells #[.int .i64 6, .string ⟨#[]⟩, .int .i64 0, .slice al N cl] 30) := ⟨_, rfl⟩
  rw [← hw4]
  have hB44 : Below w4a.heap.size w4a w4 := by rw [hw4]; exact lit_below0 _ _
  have hb9 : Blk none0 w4 [] w4a.heap.size #[.int .i64 6, .string ⟨#[]⟩, .int .i64 0, .slice al N cl] 30 := ⟨by rw [hw4]; exact heap_alloc_new w4a _, rfl⟩
  have HB14 := Lib.hid (HB4.out.trans (hB44.mono HB4.out.size))
  have HV9 := Lib.hid (HV4.out.below hB44)
  have HBK9 := Lib.hid hb9
  generalize w4a.heap.size = b9 at *
  clear hw4 hB44 hb9 HV4 HB4
  go_loopw [11] (fun i wr => ∃ k : Nat, k ≤ N ∧ i = .int .i64 (k : Int) ∧ Below w4.heap.size w4 wr) (fun i _ => N - (intOf i).toNat)
  case atStart => exact ⟨0, Nat.zero_le _, rfl, Below.refl _ _⟩
  case round =>
    obtain ⟨k, hk, rfl, hWR⟩ := hrel
    have HWR := Lib.hid hWR
    by_cases hkl : k < N
    · obtain ⟨y, hy⟩ : ∃ y, ks[k]? = some y := ⟨_, List.getElem?_eq_getElem (by have := HNK.out; omega)⟩
      obtain ⟨bk, ok, rfl, hbk, _, hgk⟩ := vw_get HK.out (by omega)
      have hB1W : Below w1.heap.size w1 wr := HB14.out.trans (hWR.mono HB14.out.size)
      have hck := cell_below (HB1.out.trans (hB1W.mono HB1.out.size)) (hgk k y hy)
      have HKC := Lib.hid (show w4.cell? ⟨bk, ok + k, none⟩ = some (txt y) from cell_below (HB1.out.trans (HB14.out.mono HB1.out.size)) (hgk k y hy))
      have HBK4 := Lib.hid (show bk < w4.heap.size from Nat.lt_of_lt_of_le hbk (HB1.out.trans (HB14.out.mono HB1.out.size)).size)
      have hbkr : bk < wr.heap.size := Nat.lt_of_lt_of_le HBK4.out hWR.size
      obtain ⟨bl, ol, c, e, _, hbl, _, hgl⟩ := vw_rfs HV9.out (k := k) (y := oneF S now' y) (by rw [List.getElem?_map, hy]; rfl)
      injection e with e1 e2 e3
      subst e1 e3
      have hgl := hgl k (oneF S now' y) (by rw [List.getElem?_map, hy]; rfl)
      have hkI : (0 : Int) ≤ k ∧ (k : Int) < N := by omega
      obtain ⟨hk0, hk1⟩ := hkI
      have hXG : ∀ W, Below w4.heap.size w4 W → Calls Tryz.prog 55 #[.pointer (some ⟨x, 0, none⟩), txt y, .int .i64 now] W (XGot W ((S.at now' y).getD hd0).v (S.at now' y).isSome) := fun W hW => by
        have h := xget_any (HX.out.below (HB14.out.trans (hW.mono HB14.out.size))) HAG.out HXN.out y now
        rw [HCL.out y, HNOW.out] at h
        exact h
      have hA := lit_apart none0 wr [[71, 69, 84], y] (by simp)
      have hrun : Calls Tryz.prog 23 #[.pointer (some ⟨p, 0, none⟩), .int .i64 now, .slice (some ⟨wr.heap.size, 0, none⟩) 2 2] (wr.alloc (.cells ([[71, 69, 84], y].map txt).toArray 9)) (TellDid (wr.alloc (.cells ([[71, 69, 84], y].map txt).toArray 9)) (if S.bad now' y then errF wrongB else oldF S now' y).bare) :=
        tTell_any (HJ.out.below (hB1W.trans ((lit_below0 wr _).mono hB1W.size))) HNOW.out (nm := [71, 69, 84]) (args := [y]) (hA.imp fun b hb => hb.1) (low := [103, 101, 116]) (by decide) (by decide) (by simp) (by simp) fits_get2 goes_get (fun o1 w1 ρ cb sv hj hB hcb hv => get_tells hj hcb hv (rest := []))
      unfold TellDid at hrun
      unfold oneF at hgl
      unfold oldF at hrun
      have hbad : S.bad now' y = (S.is now' y && ((S.at now' y).getD hd0).v.kind != 1) := rfl
      have his : (S.at now' y).isSome = S.is now' y := rfl
      rw [his] at hXG
      generalize S.txt now' y = tx at *
      generalize S.is now' y = is at *
      generalize ((S.at now' y).getD hd0).v = V at *
      obtain ⟨kind, text, list, fields, ranked⟩ := V
      unfold XGot at hXG
      dsimp only at hXG hbad
      rw [hbad] at hrun hgl
      clear hbad his hgk hA
      have HGL := Lib.hid hgl
      clear hgl hy
      rcases hki : is with _ | _
      · subst hki
        simp only [Bool.false_and, Bool.false_eq_true, if_false, Rf.bare] at hrun HGL
        have HXG := Lib.hid hXG
        clear hXG
        unfold txt at HXG
        have hrun2 : Calls Tryz.prog 23 #[.pointer (some ⟨p, 0, none⟩), .int .i64 now, .slice (some ⟨wr.heap.size, 0, none⟩) 2 2] (wr.alloc (.cells ([[71, 69, 84], y].map txt).toArray 9)) (fun e w' => ∃ v, e = .returned (.tuple #[.agg #[.int .i64 5, .string ⟨([] : List UInt8).toArray⟩, .int .i64 0, v], .bool true]) ∧ Vw (fun b => (wr.alloc (.cells ([[71, 69, 84], y].map txt).toArray 9)).heap.size ≤ b) w' v 4 0 (rfsC []) ∧ Below (wr.alloc (.cells ([[71, 69, 84], y].map txt).toArray 9)).heap.size (wr.alloc (.cells ([[71, 69, 84], y].map txt).toArray 9)) w') := hrun
        have HRUN := Lib.hid hrun2
        clear hrun hrun2
        go_wp2_with fail
        refine HRUN.out.mono ?_; rintro e w5 ⟨v5, rfl, hv5, hB5⟩
        obtain ⟨a5, c5, rfl, _⟩ := id hv5.slice
        have hB5' : Below w4.heap.size w4 w5 := HWR.out.trans (((lit_below0 wr (.cells ([[71, 69, 84], y].map txt).toArray 9)).trans (hB5.mono (by simp))).mono HWR.out.size)
        have hB6 : Below w4.heap.size w4 (w5.alloc (.cells #[.int .i64 5, .string ⟨([] : List UInt8).toArray⟩, .int .i64 0, .slice a5 0 c5] 30)) := hB5'.alloc hB5'.size _
        have hb6 : Blk none0 (w5.alloc (.cells #[.int .i64 5, .string ⟨([] : List UInt8).toArray⟩, .int .i64 0, .slice a5 0 c5] 30)) [] w5.heap.size #[.int .i64 5, .string ⟨([] : List UInt8).toArray⟩, .int .i64 0, .slice a5 0 c5] 30 := ⟨heap_alloc_new w5 _, rfl⟩
        have hf6 := hb6.free
        have Hb6 := Lib.hid hb6
        have hck5 := cell_below hB5' (HKC.out)
        have hbk5 : bk < w5.heap.size := Nat.lt_of_lt_of_le HBK4.out hB5'.size
        have HB5 := Lib.hid hB5'
        have HB6 := Lib.hid hB6
        clear hv5 hB5 hB5' hB6 HRUN HWR hb6
        go_wp2_with fail
        obtain ⟨w6, hw6⟩ : ∃ w6, w6 = w5.alloc (.cells #[.int .i64 5, .string ⟨([] : List UInt8).toArray⟩, .int .i64 0, .slice a5 0 c5] 30) := ⟨_, rfl⟩
        rw [← hw6]
        have hB46 : Below w4.heap.size w4 w6 := by
          rw [hw6]
          exact HB5.out.alloc HB5.out.size _
        have hb6 : Blk none0 w6 [] w5.heap.size #[.int .i64 5, .string ⟨([] : List UInt8).toArray⟩, .int .i64 0, .slice a5 0 c5] 30 := ⟨by rw [hw6]; exact heap_alloc_new w5 _, rfl⟩
        have HB46 := Lib.hid hB46
        have HBK := Lib.hid hb6
        clear hw6 hB46 hb6 Hb6 HB6 hf6 hck5 hbk5
        refine (HXG.out w6 HB46.out).mono ?_
        rintro e w7 ⟨u1, m1, d1, u2, m2, d2, u3, m3, d3, rfl, hB7⟩
        have HB47 := Lib.hid (HB46.out.trans (hB7.mono HB46.out.size))
        have HBK7 := Lib.hid (HBK.out.below hB7)
        clear hB7 HBK HB46 HXG
        go_wp2_with fail
        obtain ⟨w9, hw9⟩ : ∃ w9, w9 = w7.alloc (.cells #[.int .i64 kind, .string ⟨text.toArray⟩, .slice u1 m1 d1, .slice u2 m2 d2, .slice u3 m3 d3] 43) := ⟨_, rfl⟩
        rw [← hw9]
        have hB79 : Below w7.heap.size w7 w9 := by rw [hw9]; exact lit_below0 _ _
        have hb14 : Blk none0 w9 [] w7.heap.size #[.int .i64 kind, .string ⟨text.toArray⟩, .slice u1 m1 d1, .slice u2 m2 d2, .slice u3 m3 d3] 43 := ⟨by rw [hw9]; exact heap_alloc_new w7 _, rfl⟩
        have hB49 := HB47.out.trans (hB79.mono HB47.out.size)
        have HC := Lib.hid (fun (W : World) (hW : Below w9.heap.size w9 W) => show (∀ j, W.cell? ⟨w5.heap.size, j, none⟩ = (#[.int .i64 5, .string ⟨([] : List UInt8).toArray⟩, .int .i64 0, .slice a5 0 c5] : Array Value)[j]?) ∧ (∀ j, W.cell? ⟨b9, j, none⟩ = (#[.int .i64 6, .string ⟨#[]⟩, .int .i64 0, .slice (some ⟨bl, ol, none⟩) N cl] : Array Value)[j]?) ∧ (∀ j, W.cell? ⟨w7.heap.size, j, none⟩ = (#[.int .i64 kind, .string ⟨text.toArray⟩, .slice u1 m1 d1, .slice u2 m2 d2, .slice u3 m3 d3] : Array Value)[j]?) ∧ W.cell? ⟨bl, ol + k * 4, none⟩ = some (.int .i64 5) ∧ W.cell? ⟨bl, ol + k * 4 + 1, none⟩ = some (.string ⟨([] : List UInt8).toArray⟩) ∧ W.cell? ⟨bl, ol + k * 4 + 2, none⟩ = some (.int .i64 0) ∧ W.cell? ⟨bl, ol + k * 4 + 3, none⟩ = some (.slice none 0 0) from by
          have h49 := hB49.trans (hW.mono hB49.size)
          exact ⟨((HBK7.out.below hB79).below hW).cell, (HBK9.out.below h49).cell, (hb14.below hW).cell, cell_below h49 (HGL.out 0 _ rfl), cell_below h49 (HGL.out 1 _ rfl), cell_below h49 (HGL.out 2 _ rfl), cell_below h49 (HGL.out 3 _ rfl)⟩)
        have HB49 := Lib.hid hB49
        clear hw9 hB79 hb14 hB49 HBK7 HB47
        refine region_staged (n := 20) (cs := [6]) (st := [0, 0, 0, 0, 0, 0, 0, 1, 1, 1, 1, 1, 1, 1, 1, 1, 1, 1, 1, 1]) (S := fun W => W = w9.drew) (l := [(some 94, .agg #[.int .i64 5, .string ⟨#[]⟩, .int .i64 0, .slice a5 0 c5]), (some 95, .pointer (some ⟨b9, 3, none⟩)), (some 96, .slice (some ⟨bl, ol, none⟩) N cl), (some 97, .int .i64 (k : Int)), (some 98, .pointer (some ⟨bl, ol + k * 4, none⟩)), (some 99, .agg #[.int .i64 5, .string ⟨#[]⟩, .int .i64 0, .slice none 0 0]), (some 100, undef), (some 101, undef), (some 102, undef), (some 103, undef), (some 104, undef), (some 105, undef), (some 106, undef), (some 107, undef), (some 108, undef), (some 109, undef), (some 110, undef), (some 111, undef), (some 112, undef), (some 113, undef)])
          (by kernel_rfl) ⟨by kernel_rfl, by kernel_rfl, by kernel_rfl, by decide, by kernel_rfl, by kernel_rfl, by kernel_rfl, rfl, by kernel_rfl⟩ rfl (fun hreg0 => ?_)
        refine ZAt.step (fun u W => u = .bool true ∧ Below w9.heap.size w9 W) 6 (by simp only [zFin, Act.put, List.setIfInBounds_toArray, List.set_cons_zero, List.set_cons_succ]; exact rfl) rfl hreg0 [true, true, true, true, true, true, false, false, false, false, false, false, false, false, false, false, false, false, false, false] (by kernel_rfl)
          ⟨ZSee.val (by kernel_rfl) (fun W hW => by subst hW; have hc := HC.out w9 (Below.refl _ _); obtain ⟨h12, h9, h14, he0, he1, he2, he3⟩ := hc; go_simp; done),
            ZSee.val (by kernel_rfl) (fun W _ => by kernel_rfl),
            ZSee.val (by kernel_rfl) (fun W hW => by subst hW; have hc := HC.out w9 (Below.refl _ _); obtain ⟨h12, h9, h14, he0, he1, he2, he3⟩ := hc; go_simp; done),
            ZSee.val (by kernel_rfl) (fun W _ => by kernel_rfl),
            ZSee.val (by kernel_rfl) (fun W hW => by go_simp; done),
            ZSee.val (by kernel_rfl) (fun W hW => by subst hW; have hc := HC.out w9 (Below.refl _ _); obtain ⟨h12, h9, h14, he0, he1, he2, he3⟩ := hc; go_simp; done),
            trivial⟩
          (fun o ho => by
            obtain rfl := Option.some.inj ho
            exact ZTurn.call (by kernel_rfl) 56 #[.agg #[.int .i64 5, .string ⟨#[]⟩, .int .i64 0, .slice a5 0 c5], .agg #[.int .i64 5, .string ⟨#[]⟩, .int .i64 0, .slice none 0 0]] (fun _ _ => by kernel_rfl) (fun W hW => by
              subst hW
              refine (r3same_eq _ _ _ _ _ _ _ _).mono ?_
              rintro e w' ⟨rfl, hB'⟩
              exact ⟨_, rfl, rfl, (Below.refl _ w9).drew.trans hB'⟩))
          (fun u W0 hW0 => ?_)
        obtain ⟨rfl, _⟩ := hW0
        refine ⟨[(7, .bool false), (8, .bool false), (9, .pointer (some ⟨w5.heap.size, 0, none⟩)), (10, .int .i64 5), (11, .bool false), (12, .bool false), (13, .bool false), (14, undef), (15, undef), (16, undef), (17, .bool false), (18, .bool false), (19, .bool false)], _, rfl, (by simp only [zUpd, List.getD_cons_succ, List.getD_cons_zero, List.set_cons_succ, List.set_cons_zero]; exact rfl), fun hreg1 => ?_⟩
        refine ZAt.done (by simp only [zFin, Act.put, List.setIfInBounds_toArray, List.set_cons_zero, List.set_cons_succ]; exact rfl) rfl hreg1 [false, false, false, false, false, false, false, true, true, true, true, true, true, true, true, true, true, true, true, true] (by kernel_rfl) ⟨ZSee.val (by kernel_rfl) (fun W _ => by kernel_rfl),
            ZSee.val (by kernel_rfl) (fun W _ => by kernel_rfl),
            ZSee.val (by kernel_rfl) (fun W _ => by kernel_rfl),
            ZSee.val (by kernel_rfl) (fun W hW => by have hc := HC.out W hW.2; obtain ⟨h12, h9, h14, he0, he1, he2, he3⟩ := hc; go_simp; done),
            ZSee.val (by kernel_rfl) (fun W _ => by kernel_rfl),
            ZSee.val (by kernel_rfl) (fun W _ => by kernel_rfl),
            ZSee.val (by kernel_rfl) (fun W _ => by kernel_rfl),
            ZSee.skip (by kernel_rfl),
            ZSee.skip (by kernel_rfl),
            ZSee.skip (by kernel_rfl),
            ZSee.val (by kernel_rfl) (fun W _ => by kernel_rfl),
            ZSee.val (by kernel_rfl) (fun W _ => by kernel_rfl),
            ZSee.val (by kernel_rfl) (fun W _ => by kernel_rfl),
            trivial⟩ ?_
        clear hreg0 hreg1
        rintro w10 ⟨_, hB10⟩
        have HB10 := Lib.hid hB10
        clear hB10
        simp only [List.drop_succ_cons, List.drop_nil]
        go_wp2_with fail
        have D := Lib.hid (HB49.out.trans (HB10.out.mono HB49.out.size))
        clear HB49 HB10 HC HGL
        go_roundw
        case rel => exact ⟨k + 1, hkl, by go_num, D.out⟩
        case measure => simp [intOf]; omega
      subst hki
      by_cases hkd : kind = 1
      · subst hkd
        simp only [Bool.true_and, bne_self_eq_false, Bool.not_false, Bool.false_eq_true, if_false, if_true, Rf.bare] at hrun HGL
        have HXG := Lib.hid hXG
        clear hXG
        unfold txt at HXG
        have hrun2 : Calls Tryz.prog 23 #[.pointer (some ⟨p, 0, none⟩), .int .i64 now, .slice (some ⟨wr.heap.size, 0, none⟩) 2 2] (wr.alloc (.cells ([[71, 69, 84], y].map txt).toArray 9)) (fun e w' => ∃ v, e = .returned (.tuple #[.agg #[.int .i64 4, .string ⟨tx.toArray⟩, .int .i64 0, v], .bool true]) ∧ Vw (fun b => (wr.alloc (.cells ([[71, 69, 84], y].map txt).toArray 9)).heap.size ≤ b) w' v 4 0 (rfsC []) ∧ Below (wr.alloc (.cells ([[71, 69, 84], y].map txt).toArray 9)).heap.size (wr.alloc (.cells ([[71, 69, 84], y].map txt).toArray 9)) w') := hrun
        have HRUN := Lib.hid hrun2
        clear hrun hrun2
        go_wp2_with fail
        refine HRUN.out.mono ?_; rintro e w5 ⟨v5, rfl, hv5, hB5⟩
        obtain ⟨a5, c5, rfl, _⟩ := id hv5.slice
        have hB5' : Below w4.heap.size w4 w5 := HWR.out.trans (((lit_below0 wr (.cells ([[71, 69, 84], y].map txt).toArray 9)).trans (hB5.mono (by simp))).mono HWR.out.size)
        have hB6 : Below w4.heap.size w4 (w5.alloc (.cells #[.int .i64 4, .string ⟨tx.toArray⟩, .int .i64 0, .slice a5 0 c5] 30)) := hB5'.alloc hB5'.size _
        have hb6 : Blk none0 (w5.alloc (.cells #[.int .i64 4, .string ⟨tx.toArray⟩, .int .i64 0, .slice a5 0 c5] 30)) [] w5.heap.size #[.int .i64 4, .string ⟨tx.toArray⟩, .int .i64 0, .slice a5 0 c5] 30 := ⟨heap_alloc_new w5 _, rfl⟩
        have hf6 := hb6.free
        have Hb6 := Lib.hid hb6
        have hck5 := cell_below hB5' (HKC.out)
        have hbk5 : bk < w5.heap.size := Nat.lt_of_lt_of_le HBK4.out hB5'.size
        have HB5 := Lib.hid hB5'
        have HB6 := Lib.hid hB6
        clear hv5 hB5 hB5' hB6 HRUN HWR hb6
        go_wp2_with fail
        obtain ⟨w6, hw6⟩ : ∃ w6, w6 = w5.alloc (.cells #[.int .i64 4, .string ⟨tx.toArray⟩, .int .i64 0, .slice a5 0 c5] 30) := ⟨_, rfl⟩
        rw [← hw6]
        have hB46 : Below w4.heap.size w4 w6 := by
          rw [hw6]
          exact HB5.out.alloc HB5.out.size _
        have hb6 : Blk none0 w6 [] w5.heap.size #[.int .i64 4, .string ⟨tx.toArray⟩, .int .i64 0, .slice a5 0 c5] 30 := ⟨by rw [hw6]; exact heap_alloc_new w5 _, rfl⟩
        have HB46 := Lib.hid hB46
        have HBK := Lib.hid hb6
        clear hw6 hB46 hb6 Hb6 HB6 hf6 hck5 hbk5
        refine (HXG.out w6 HB46.out).mono ?_
        rintro e w7 ⟨u1, m1, d1, u2, m2, d2, u3, m3, d3, rfl, hB7⟩
        have HB47 := Lib.hid (HB46.out.trans (hB7.mono HB46.out.size))
        have HBK7 := Lib.hid (HBK.out.below hB7)
        clear hB7 HBK HB46 HXG
        go_wp2_with fail
        obtain ⟨w9, hw9⟩ : ∃ w9, w9 = w7.alloc (.cells #[.int .i64 1, .string ⟨text.toArray⟩, .slice u1 m1 d1, .slice u2 m2 d2, .slice u3 m3 d3] 43) := ⟨_, rfl⟩
        rw [← hw9]
        have hB79 : Below w7.heap.size w7 w9 := by rw [hw9]; exact lit_below0 _ _
        have hb14 : Blk none0 w9 [] w7.heap.size #[.int .i64 1, .string ⟨text.toArray⟩, .slice u1 m1 d1, .slice u2 m2 d2, .slice u3 m3 d3] 43 := ⟨by rw [hw9]; exact heap_alloc_new w7 _, rfl⟩
        have hB49 := HB47.out.trans (hB79.mono HB47.out.size)
        have HC := Lib.hid (fun (W : World) (hW : Below w9.heap.size w9 W) => show (∀ j, W.cell? ⟨w5.heap.size, j, none⟩ = (#[.int .i64 4, .string ⟨tx.toArray⟩, .int .i64 0, .slice a5 0 c5] : Array Value)[j]?) ∧ (∀ j, W.cell? ⟨b9, j, none⟩ = (#[.int .i64 6, .string ⟨#[]⟩, .int .i64 0, .slice (some ⟨bl, ol, none⟩) N cl] : Array Value)[j]?) ∧ (∀ j, W.cell? ⟨w7.heap.size, j, none⟩ = (#[.int .i64 1, .string ⟨text.toArray⟩, .slice u1 m1 d1, .slice u2 m2 d2, .slice u3 m3 d3] : Array Value)[j]?) ∧ W.cell? ⟨bl, ol + k * 4, none⟩ = some (.int .i64 4) ∧ W.cell? ⟨bl, ol + k * 4 + 1, none⟩ = some (.string ⟨tx.toArray⟩) ∧ W.cell? ⟨bl, ol + k * 4 + 2, none⟩ = some (.int .i64 0) ∧ W.cell? ⟨bl, ol + k * 4 + 3, none⟩ = some (.slice none 0 0) from by
          have h49 := hB49.trans (hW.mono hB49.size)
          exact ⟨((HBK7.out.below hB79).below hW).cell, (HBK9.out.below h49).cell, (hb14.below hW).cell, cell_below h49 (HGL.out 0 _ rfl), cell_below h49 (HGL.out 1 _ rfl), cell_below h49 (HGL.out 2 _ rfl), cell_below h49 (HGL.out 3 _ rfl)⟩)
        have HB49 := Lib.hid hB49
        clear hw9 hB79 hb14 hB49 HBK7 HB47
        refine region_staged (n := 20) (cs := [6]) (st := [0, 0, 0, 0, 0, 0, 0, 1, 1, 1, 1, 1, 1, 1, 1, 1, 1, 1, 1, 1]) (S := fun W => W = w9.drew) (l := [(some 94, .agg #[.int .i64 4, .string ⟨tx.toArray⟩, .int .i64 0, .slice a5 0 c5]), (some 95, .pointer (some ⟨b9, 3, none⟩)), (some 96, .slice (some ⟨bl, ol, none⟩) N cl), (some 97, .int .i64 (k : Int)), (some 98, .pointer (some ⟨bl, ol + k * 4, none⟩)), (some 99, .agg #[.int .i64 4, .string ⟨tx.toArray⟩, .int .i64 0, .slice none 0 0]), (some 100, undef), (some 101, undef), (some 102, undef), (some 103, undef), (some 104, undef), (some 105, undef), (some 106, undef), (some 107, undef), (some 108, undef), (some 109, undef), (some 110, undef), (some 111, undef), (some 112, undef), (some 113, undef)])
          (by kernel_rfl) ⟨by kernel_rfl, by kernel_rfl, by kernel_rfl, by decide, by kernel_rfl, by kernel_rfl, by kernel_rfl, rfl, by kernel_rfl⟩ rfl (fun hreg0 => ?_)
        refine ZAt.step (fun u W => u = .bool true ∧ Below w9.heap.size w9 W) 6 (by simp only [zFin, Act.put, List.setIfInBounds_toArray, List.set_cons_zero, List.set_cons_succ]; exact rfl) rfl hreg0 [true, true, true, true, true, true, false, false, false, false, false, false, false, false, false, false, false, false, false, false] (by kernel_rfl)
          ⟨ZSee.val (by kernel_rfl) (fun W hW => by subst hW; have hc := HC.out w9 (Below.refl _ _); obtain ⟨h12, h9, h14, he0, he1, he2, he3⟩ := hc; go_simp; done),
            ZSee.val (by kernel_rfl) (fun W _ => by kernel_rfl),
            ZSee.val (by kernel_rfl) (fun W hW => by subst hW; have hc := HC.out w9 (Below.refl _ _); obtain ⟨h12, h9, h14, he0, he1, he2, he3⟩ := hc; go_simp; done),
            ZSee.val (by kernel_rfl) (fun W _ => by kernel_rfl),
            ZSee.val (by kernel_rfl) (fun W hW => by go_simp; done),
            ZSee.val (by kernel_rfl) (fun W hW => by subst hW; have hc := HC.out w9 (Below.refl _ _); obtain ⟨h12, h9, h14, he0, he1, he2, he3⟩ := hc; go_simp; done),
            trivial⟩
          (fun o ho => by
            obtain rfl := Option.some.inj ho
            exact ZTurn.call (by kernel_rfl) 56 #[.agg #[.int .i64 4, .string ⟨tx.toArray⟩, .int .i64 0, .slice a5 0 c5], .agg #[.int .i64 4, .string ⟨tx.toArray⟩, .int .i64 0, .slice none 0 0]] (fun _ _ => by kernel_rfl) (fun W hW => by
              subst hW
              refine (r3same_eq _ _ _ _ _ _ _ _).mono ?_
              rintro e w' ⟨rfl, hB'⟩
              exact ⟨_, rfl, rfl, (Below.refl _ w9).drew.trans hB'⟩))
          (fun u W0 hW0 => ?_)
        obtain ⟨rfl, _⟩ := hW0
        refine ⟨[(7, .bool false), (8, .bool false), (9, .pointer (some ⟨w5.heap.size, 0, none⟩)), (10, .int .i64 4), (11, .bool true), (12, .bool true), (13, .bool true), (14, .pointer (some ⟨w7.heap.size, 0, none⟩)), (15, .int .i64 1), (16, .bool true), (17, .bool true), (18, .bool false), (19, .bool false)], _, rfl, (by simp only [zUpd, List.getD_cons_succ, List.getD_cons_zero, List.set_cons_succ, List.set_cons_zero]; exact rfl), fun hreg1 => ?_⟩
        refine ZAt.done (by simp only [zFin, Act.put, List.setIfInBounds_toArray, List.set_cons_zero, List.set_cons_succ]; exact rfl) rfl hreg1 [false, false, false, false, false, false, false, true, true, true, true, true, true, true, true, true, true, true, true, true] (by kernel_rfl) ⟨ZSee.val (by kernel_rfl) (fun W _ => by kernel_rfl),
            ZSee.val (by kernel_rfl) (fun W _ => by kernel_rfl),
            ZSee.val (by kernel_rfl) (fun W _ => by kernel_rfl),
            ZSee.val (by kernel_rfl) (fun W hW => by have hc := HC.out W hW.2; obtain ⟨h12, h9, h14, he0, he1, he2, he3⟩ := hc; go_simp; done),
            ZSee.val (by kernel_rfl) (fun W _ => by kernel_rfl),
            ZSee.val (by kernel_rfl) (fun W _ => by kernel_rfl),
            ZSee.val (by kernel_rfl) (fun W _ => by kernel_rfl),
            ZSee.val (by kernel_rfl) (fun W _ => by kernel_rfl),
            ZSee.val (by kernel_rfl) (fun W hW => by have hc := HC.out W hW.2; obtain ⟨h12, h9, h14, he0, he1, he2, he3⟩ := hc; go_simp; done),
            ZSee.val (by kernel_rfl) (fun W hW => by go_simp; done),
            ZSee.val (by kernel_rfl) (fun W _ => by kernel_rfl),
            ZSee.val (by kernel_rfl) (fun W _ => by kernel_rfl),
            ZSee.val (by kernel_rfl) (fun W _ => by kernel_rfl),
            trivial⟩ ?_
        clear hreg0 hreg1
        rintro w10 ⟨_, hB10⟩
        have HB10 := Lib.hid hB10
        clear hB10
        simp only [List.drop_succ_cons, List.drop_nil]
        go_wp2_with fail
        have D := Lib.hid (HB49.out.trans (HB10.out.mono HB49.out.size))
        clear HB49 HB10 HC HGL
        go_roundw
        case rel => exact ⟨k + 1, hkl, by go_num, D.out⟩
        case measure => simp [intOf]; omega
      · have hkd2 : (kind != 1) = true := by simpa using hkd
        have hkd3 : (kind == 1) = false := by simpa using hkd
        simp only [hkd2, Bool.true_and, Bool.not_true, Bool.and_false, Bool.false_eq_true, if_false, if_true, Rf.bare, errF] at hrun HGL
        have HXG := Lib.hid hXG
        clear hXG hkd2 hkd
        unfold txt at HXG
        have hrun2 : Calls Tryz.prog 23 #[.pointer (some ⟨p, 0, none⟩), .int .i64 now, .slice (some ⟨wr.heap.size, 0, none⟩) 2 2] (wr.alloc (.cells ([[71, 69, 84], y].map txt).toArray 9)) (fun e w' => ∃ v, e = .returned (.tuple #[.agg #[.int .i64 2, .string ⟨wrongB.toArray⟩, .int .i64 0, v], .bool true]) ∧ Vw (fun b => (wr.alloc (.cells ([[71, 69, 84], y].map txt).toArray 9)).heap.size ≤ b) w' v 4 0 (rfsC []) ∧ Below (wr.alloc (.cells ([[71, 69, 84], y].map txt).toArray 9)).heap.size (wr.alloc (.cells ([[71, 69, 84], y].map txt).toArray 9)) w') := hrun
        have HRUN := Lib.hid hrun2
        clear hrun hrun2
        go_wp2_with fail
        refine HRUN.out.mono ?_; rintro e w5 ⟨v5, rfl, hv5, hB5⟩
        obtain ⟨a5, c5, rfl, _⟩ := id hv5.slice
        have hB5' : Below w4.heap.size w4 w5 := HWR.out.trans (((lit_below0 wr (.cells ([[71, 69, 84], y].map txt).toArray 9)).trans (hB5.mono (by simp))).mono HWR.out.size)
        have hB6 : Below w4.heap.size w4 (w5.alloc (.cells #[.int .i64 2, .string ⟨wrongB.toArray⟩, .int .i64 0, .slice a5 0 c5] 30)) := hB5'.alloc hB5'.size _
        have hb6 : Blk none0 (w5.alloc (.cells #[.int .i64 2, .string ⟨wrongB.toArray⟩, .int .i64 0, .slice a5 0 c5] 30)) [] w5.heap.size #[.int .i64 2, .string ⟨wrongB.toArray⟩, .int .i64 0, .slice a5 0 c5] 30 := ⟨heap_alloc_new w5 _, rfl⟩
        have hf6 := hb6.free
        have Hb6 := Lib.hid hb6
        have hck5 := cell_below hB5' (HKC.out)
        have hbk5 : bk < w5.heap.size := Nat.lt_of_lt_of_le HBK4.out hB5'.size
        have HB5 := Lib.hid hB5'
        have HB6 := Lib.hid hB6
        clear hv5 hB5 hB5' hB6 HRUN HWR hb6
        go_wp2_with fail
        obtain ⟨w6, hw6⟩ : ∃ w6, w6 = w5.alloc (.cells #[.int .i64 5, .string ⟨([] : List UInt8).toArray⟩, .int .i64 0, .slice none 0 0] 30) := ⟨_, rfl⟩
        rw [← hw6]
        have hB46 : Below w4.heap.size w4 w6 := by
          rw [hw6]
          exact HB5.out.alloc HB5.out.size _
        have hb6 : Blk none0 w6 [] w5.heap.size #[.int .i64 5, .string ⟨([] : List UInt8).toArray⟩, .int .i64 0, .slice none 0 0] 30 := ⟨by rw [hw6]; exact heap_alloc_new w5 _, rfl⟩
        have HB46 := Lib.hid hB46
        have HBK := Lib.hid hb6
        clear hw6 hB46 hb6 Hb6 HB6 hf6 hck5 hbk5
        refine (HXG.out w6 HB46.out).mono ?_
        rintro e w7 ⟨u1, m1, d1, u2, m2, d2, u3, m3, d3, rfl, hB7⟩
        have HB47 := Lib.hid (HB46.out.trans (hB7.mono HB46.out.size))
        have HBK7 := Lib.hid (HBK.out.below hB7)
        clear hB7 HBK HB46 HXG
        go_wp2_with fail
        obtain ⟨w9, hw9⟩ : ∃ w9, w9 = w7.alloc (.cells #[.int .i64 kind, .string ⟨text.toArray⟩, .slice u1 m1 d1, .slice u2 m2 d2, .slice u3 m3 d3] 43) := ⟨_, rfl⟩
        rw [← hw9]
        have hB79 : Below w7.heap.size w7 w9 := by rw [hw9]; exact lit_below0 _ _
        have hb14 : Blk none0 w9 [] w7.heap.size #[.int .i64 kind, .string ⟨text.toArray⟩, .slice u1 m1 d1, .slice u2 m2 d2, .slice u3 m3 d3] 43 := ⟨by rw [hw9]; exact heap_alloc_new w7 _, rfl⟩
        have hB49 := HB47.out.trans (hB79.mono HB47.out.size)
        have HC := Lib.hid (fun (W : World) (hW : Below w9.heap.size w9 W) => show (∀ j, W.cell? ⟨w5.heap.size, j, none⟩ = (#[.int .i64 5, .string ⟨([] : List UInt8).toArray⟩, .int .i64 0, .slice none 0 0] : Array Value)[j]?) ∧ (∀ j, W.cell? ⟨b9, j, none⟩ = (#[.int .i64 6, .string ⟨#[]⟩, .int .i64 0, .slice (some ⟨bl, ol, none⟩) N cl] : Array Value)[j]?) ∧ (∀ j, W.cell? ⟨w7.heap.size, j, none⟩ = (#[.int .i64 kind, .string ⟨text.toArray⟩, .slice u1 m1 d1, .slice u2 m2 d2, .slice u3 m3 d3] : Array Value)[j]?) ∧ W.cell? ⟨bl, ol + k * 4, none⟩ = some (.int .i64 5) ∧ W.cell? ⟨bl, ol + k * 4 + 1, none⟩ = some (.string ⟨([] : List UInt8).toArray⟩) ∧ W.cell? ⟨bl, ol + k * 4 + 2, none⟩ = some (.int .i64 0) ∧ W.cell? ⟨bl, ol + k * 4 + 3, none⟩ = some (.slice none 0 0) from by
          have h49 := hB49.trans (hW.mono hB49.size)
          exact ⟨((HBK7.out.below hB79).below hW).cell, (HBK9.out.below h49).cell, (hb14.below hW).cell, cell_below h49 (HGL.out 0 _ rfl), cell_below h49 (HGL.out 1 _ rfl), cell_below h49 (HGL.out 2 _ rfl), cell_below h49 (HGL.out 3 _ rfl)⟩)
        have HB49 := Lib.hid hB49
        clear hw9 hB79 hb14 hB49 HBK7 HB47
        refine region_staged (n := 20) (cs := [6]) (st := [0, 0, 0, 0, 0, 0, 0, 1, 1, 1, 1, 1, 1, 1, 1, 1, 1, 1, 1, 1]) (S := fun W => W = w9.drew) (l := [(some 94, .agg #[.int .i64 5, .string ⟨#[]⟩, .int .i64 0, .slice none 0 0]), (some 95, .pointer (some ⟨b9, 3, none⟩)), (some 96, .slice (some ⟨bl, ol, none⟩) N cl), (some 97, .int .i64 (k : Int)), (some 98, .pointer (some ⟨bl, ol + k * 4, none⟩)), (some 99, .agg #[.int .i64 5, .string ⟨#[]⟩, .int .i64 0, .slice none 0 0]), (some 100, undef), (some 101, undef), (some 102, undef), (some 103, undef), (some 104, undef), (some 105, undef), (some 106, undef), (some 107, undef), (some 108, undef), (some 109, undef), (some 110, undef), (some 111, undef), (some 112, undef), (some 113, undef)])
          (by kernel_rfl) ⟨by kernel_rfl, by kernel_rfl, by kernel_rfl, by decide, by kernel_rfl, by kernel_rfl, by kernel_rfl, rfl, by kernel_rfl⟩ rfl (fun hreg0 => ?_)
        refine ZAt.step (fun u W => u = .bool true ∧ Below w9.heap.size w9 W) 6 (by simp only [zFin, Act.put, List.setIfInBounds_toArray, List.set_cons_zero, List.set_cons_succ]; exact rfl) rfl hreg0 [true, true, true, true, true, true, false, false, false, false, false, false, false, false, false, false, false, false, false, false] (by kernel_rfl)
          ⟨ZSee.val (by kernel_rfl) (fun W hW => by subst hW; have hc := HC.out w9 (Below.refl _ _); obtain ⟨h12, h9, h14, he0, he1, he2, he3⟩ := hc; go_simp; done),
            ZSee.val (by kernel_rfl) (fun W _ => by kernel_rfl),
            ZSee.val (by kernel_rfl) (fun W hW => by subst hW; have hc := HC.out w9 (Below.refl _ _); obtain ⟨h12, h9, h14, he0, he1, he2, he3⟩ := hc; go_simp; done),
            ZSee.val (by kernel_rfl) (fun W _ => by kernel_rfl),
            ZSee.val (by kernel_rfl) (fun W hW => by go_simp; done),
            ZSee.val (by kernel_rfl) (fun W hW => by subst hW; have hc := HC.out w9 (Below.refl _ _); obtain ⟨h12, h9, h14, he0, he1, he2, he3⟩ := hc; go_simp; done),
            trivial⟩
          (fun o ho => by
            obtain rfl := Option.some.inj ho
            exact ZTurn.call (by kernel_rfl) 56 #[.agg #[.int .i64 5, .string ⟨#[]⟩, .int .i64 0, .slice none 0 0], .agg #[.int .i64 5, .string ⟨#[]⟩, .int .i64 0, .slice none 0 0]] (fun _ _ => by kernel_rfl) (fun W hW => by
              subst hW
              refine (r3same_eq _ _ _ _ _ _ _ _).mono ?_
              rintro e w' ⟨rfl, hB'⟩
              exact ⟨_, rfl, rfl, (Below.refl _ w9).drew.trans hB'⟩))
          (fun u W0 hW0 => ?_)
        obtain ⟨rfl, _⟩ := hW0
        refine ⟨[(7, .bool false), (8, .bool false), (9, .pointer (some ⟨w5.heap.size, 0, none⟩)), (10, .int .i64 5), (11, .bool false), (12, .bool true), (13, .bool true), (14, .pointer (some ⟨w7.heap.size, 0, none⟩)), (15, .int .i64 kind), (16, .bool false), (17, .bool false), (18, .bool false), (19, .bool false)], _, rfl, (by simp only [zUpd, List.getD_cons_succ, List.getD_cons_zero, List.set_cons_succ, List.set_cons_zero]; exact rfl), fun hreg1 => ?_⟩
        refine ZAt.done (by simp only [zFin, Act.put, List.setIfInBounds_toArray, List.set_cons_zero, List.set_cons_succ]; exact rfl) rfl hreg1 [false, false, false, false, false, false, false, true, true, true, true, true, true, true, true, true, true, true, true, true] (by kernel_rfl) ⟨ZSee.val (by kernel_rfl) (fun W _ => by kernel_rfl),
            ZSee.val (by kernel_rfl) (fun W _ => by kernel_rfl),
            ZSee.val (by kernel_rfl) (fun W _ => by kernel_rfl),
            ZSee.val (by kernel_rfl) (fun W hW => by have hc := HC.out W hW.2; obtain ⟨h12, h9, h14, he0, he1, he2, he3⟩ := hc; go_simp; done),
            ZSee.val (by kernel_rfl) (fun W _ => by kernel_rfl),
            ZSee.val (by kernel_rfl) (fun W _ => by kernel_rfl),
            ZSee.val (by kernel_rfl) (fun W _ => by kernel_rfl),
            ZSee.val (by kernel_rfl) (fun W _ => by kernel_rfl),
            ZSee.val (by kernel_rfl) (fun W hW => by have hc := HC.out W hW.2; obtain ⟨h12, h9, h14, he0, he1, he2, he3⟩ := hc; go_simp; done),
            ZSee.val (by kernel_rfl) (fun W hW => by go_simp; done),
            ZSee.val (by kernel_rfl) (fun W _ => by kernel_rfl),
            ZSee.val (by kernel_rfl) (fun W _ => by kernel_rfl),
            ZSee.val (by kernel_rfl) (fun W _ => by kernel_rfl),
            trivial⟩ ?_
        clear hreg0 hreg1
        rintro w10 ⟨_, hB10⟩
        have HB10 := Lib.hid hB10
        clear hB10
        simp only [List.drop_succ_cons, List.drop_nil]
        go_wp2_with fail
        have D := Lib.hid (HB49.out.trans (HB10.out.mono HB49.out.size))
        clear HB49 HB10 HC HGL
        go_roundw
        case rel => exact ⟨k + 1, hkl, by go_num, D.out⟩
        case measure => simp [intOf]; omega
    · obtain rfl : k = N := by omega
      have hB1W : Below w1.heap.size w1 wr := HB14.out.trans (hWR.mono HB14.out.size)
      have HLK := Lib.hid (like_ok (HJ.out.below hB1W) (HX.out.below hB1W) HAG.out HXN.out)
      have HE := Lib.hid (HB1.out.trans (hB1W.mono HB1.out.size))
      clear hWR hB1W HWR HJ HX HAG HK HV9 HBK9
      go_wp2_with fail
      refine HLK.out.mono ?_; rintro e w5 ⟨rfl, hB5⟩
      have HE2 := Lib.hid (HE.out.trans (hB5.mono HE.out.size))
      clear hB5 HLK HE
      go_wp2_with fail
      go_ret
      exact ⟨rfl, HE2.out⟩
end Go.Proofs.YthojmgjgmbnopaaGreatDoor

