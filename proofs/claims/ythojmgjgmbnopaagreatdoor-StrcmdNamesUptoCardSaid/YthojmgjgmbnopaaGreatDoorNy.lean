import Derived.Test.YthojmgjgmbnopaaGreatDoorCm
import Derived.Test.YthojmgjgmbnopaaGreatDoorSt
import Derived.Test.YthojmgjgmbnopaaGreatDoorXG
namespace Go.Proofs.YthojmgjgmbnopaaGreatDoor
open Go Go.RowKit Go.ChangeMaps
/-! strcmd.Names. -/
def namesL : List (List UInt8) := [[97, 112, 112, 101, 110, 100], [98, 105, 116, 99, 111, 117, 110, 116], [98, 105, 116, 111, 112], [98, 105, 116, 112, 111, 115], [100, 101, 99, 114], [100, 101, 99, 114, 98, 121], [103, 101, 116], [103, 101, 116, 98, 105, 116], [103, 101, 116, 100, 101, 108], [103, 101, 116, 101, 120], [103, 101, 116, 114, 97, 110, 103, 101], [103, 101, 116, 115, 101, 116], [105, 110, 99, 114], [105, 110, 99, 114, 98, 121], [109, 103, 101, 116], [109, 115, 101, 116], [109, 115, 101, 116, 110, 120], [112, 115, 101, 116, 101, 120], [115, 101, 116], [115, 101, 116, 98, 105, 116], [115, 101, 116, 101, 120], [115, 101, 116, 110, 120], [115, 101, 116, 114, 97, 110, 103, 101], [115, 116, 114, 108, 101, 110]]
/-- A block that holds the names. -/
def NamB (w : World) (g : Nat) : Prop := g < w.heap.size ∧ ∀ k, k < 24 → w.cell? ⟨g, k, none⟩ = (namesL.map txt)[k]? ∧ w.frozen? ⟨g, k, none⟩ = false
theorem NamB.below {w w' : World} {g : Nat} (h : NamB w g) (hB : Below w.heap.size w w') : NamB w' g := by
  refine ⟨Nat.lt_of_lt_of_le h.1 hB.size, fun k hk => ?_⟩
  have e := hB.block g h.1
  have h2 := h.2 k hk
  unfold World.cell? World.frozen? at *
  dsimp only at *
  rw [e]; exact h2
theorem NamB.setOther {w : World} {g : Nat} (h : NamB w g) (a : Addr) (v : Value) (hn : g ≠ a.block) : NamB (w.setCell a v) g := by
  refine ⟨by simpa using h.1, fun k hk => ?_⟩
  have e : (w.setCell a v).heap[g]? = w.heap[g]? := heap_set_far hn
  have h2 := h.2 k hk
  unfold World.cell? World.frozen? at *
  dsimp only at *
  rw [e]; exact h2
theorem NamB.vw {w : World} {g : Nat} (h : NamB w g) : Vw (fun k => k = g) w (.slice (some ⟨g, 0, none⟩) 24 24) 1 namesL.length (namesL.map txt) := by
  refine ⟨⟨some ⟨g, 0, none⟩, 24, rfl, by decide, by unfold maxLen; omega, .inr ⟨g, 0, rfl, h.1, rfl, fun k u hk => ?_⟩⟩, by decide⟩
  have hk2 : k < 24 := by have := (List.getElem?_eq_some_iff.1 hk).1; rw [List.length_map] at this; exact this
  rw [Nat.zero_add, (h.2 k hk2).1]; exact hk
theorem names_list : (putAll [] cmdL).map Prod.fst = namesL := by kernel_rfl
theorem names_asc : Asc namesL := by unfold Asc; decide +kernel
theorem names_key : ofL ((putAll [] cmdL).map Prod.fst) = namesL := by rw [names_list]; exact (ofL_eq names_asc fun x => Iff.rfl).symm
theorem names_nodup : ((putAll [] cmdL).map Prod.fst).Nodup := by
  rw [names_list]
  refine List.Pairwise.imp ?_ names_asc
  intro x y hxy e
  subst e
  exact ltB_ne hxy rfl
def NzRel (w : World) (m r : Nat) (ks : List Tx) (es : Array MapEntry) (clock : Nat) (v : Value) (wr : World) : Prop :=
  ∃ seen L R o' a cap, v = .slice a L.length cap ∧ wr.heap[m]? = some (.map es clock) ∧ wr.heap[r]? = some (.mapIter (some m) clock seen clock) ∧ Row o' wr [9, 0] 9 1 v L.length ((L : List (List UInt8)).map txt) ∧ o' r = [9, 1] ∧ (leftOf es seen).toList.map (fun e => e.key) = R.map txt ∧ (L ++ R).Perm ks ∧ Stp [9] none0 w o' wr
theorem clip_form (w : World) (g n cap : Nat) (h : n ≤ cap) : Calls Tryz.prog 87 #[.slice (some ⟨g, 0, none⟩) n cap] w fun e w' => e = .returned (.slice (some ⟨g, 0, none⟩) n n) ∧ w' = w := by
  obtain ⟨i0, hi0, _⟩ := info_parts infoS
  have hcut := cut_own (P := Tryz.prog) Tryz.underlying39 hi0 (a := some ⟨g, 0, none⟩) h
  go_enter Tryz.func87, Tryz.ntmps87
  go_wp2
  go_ret
  exact ⟨rfl, rfl⟩
def TNamesDid (w : World) (e : Ending) (w' : World) : Prop := ∃ g, e = .returned (.slice (some ⟨g, 0, none⟩) 24 24) ∧ w.heap.size ≤ g ∧ NamB w' g ∧ Below w.heap.size w w'
set_option maxRecDepth 10000 in
set_option maxHeartbeats 4000000 in
theorem tnames_ok (w : World) : Calls Tryz.prog 51 #[] w (TNamesDid w) := by
  obtain ⟨i0, hi0, hz0, hz1, hz2⟩ := info_parts infoS
  go_enter Tryz.func51, Tryz.ntmps51
  go_wp2_with fail
  refine (commands_ok w).mono ?_; rintro e w3 ⟨m, rfl, hmb, hBC⟩
  obtain ⟨es, clock, hb, hok, hsz, hent, hke⟩ := hmb.entries
  have hml := hmb.lt
  have hnd := names_nodup
  have hkey := names_key
  obtain ⟨ks, hks⟩ : ∃ ks, ks = (putAll [] cmdL).map Prod.fst := ⟨_, rfl⟩
  rw [← hks] at hke hnd hkey
  have hN : ks.length = 24 := by rw [hks, names_list]; rfl
  clear hks hmb hsz
  have hrg := run_range_map (P := Tryz.prog) w3 104 _ _ m es clock Tryz.underlying104 hb
  have hat : NzRel w3 m w3.heap.size ks es clock (.slice none 0 0) (w3.alloc (.mapIter (some m) clock #[] clock)) := by
    refine ⟨#[], [], ks, none0.put w3.heap.size [9, 1], none, 0, rfl, ?_, heap_alloc_new _ _, Row.nil _ _ _ _ _, Roles.put_same _ _ _, by rw [left_none]; exact hke, List.Perm.refl _, (Stp.refl [9] none0 w3).alloc (r' := [9, 1]) _ _ rfl⟩
    rw [(lit_below0 w3 _).block m hml]; exact hb
  have HOK := Lib.hid hok
  have HENT := Lib.hid hent
  have HND := Lib.hid hnd
  have HKY := Lib.hid hkey
  have HBC := Lib.hid hBC
  have HAT := Lib.hid hat
  clear hb hok hent hke hnd hkey hBC hat
  go_wp2_with fail
  go_loopw [1] (fun v wr => NzRel w3 m w3.heap.size ks es clock v wr) (fun _ w' => w'.rangeLeft m w3.heap.size)
  case atStart => exact HAT.out
  case round =>
    clear HAT
    obtain ⟨seen, L, R, o1, ga, cap, rfl, hbr, hr, hrow, hor, hlr, hperm, hst⟩ := hrel
    have hle : L.length + R.length = 24 := by rw [← hN, ← hperm.length_eq, List.length_append]
    have hlz : (leftOf es seen).size = R.length := by have := congrArg List.length hlr; simpa using this
    have hlf : wr.rangeLeft m w3.heap.size = (leftOf es seen).size := by unfold World.rangeLeft; rw [hbr, hr]
    rcases run_next_at (P := Tryz.prog) wr 0 w3.heap.size m clock clock seen es clock hr hbr HOK.out.1 (Nat.le_refl _) with ⟨h0, hrun⟩ | ⟨e, he, w1, hal, hrun⟩
    · have hrn : ∀ ty, (Instr.next (.pointer (some ⟨w3.heap.size, 0, none⟩)) false ty).run Tryz.prog wr = .ok (.tuple #[.bool false]) wr := fun _ => hrun
      clear hrun
      have HROW := Lib.hid hrow
      have HST := Lib.hid hst
      have hR0 : R = [] := List.eq_nil_of_length_eq_zero (by omega)
      have HN0 := Lib.hid (show L.Perm ks from by rw [hR0, List.append_nil] at hperm; exact hperm)
      have hL24 : L.length = 24 := by rw [HN0.out.length_eq, hN]
      have hgx : ∃ g, ga = some ⟨g, 0, none⟩ := by
        obtain ⟨g, cg, eg, _, _, _⟩ := hrow.at (k := 0) (by omega)
        injection eg with eg _ _
        exact ⟨g, eg⟩
      obtain ⟨g, rfl⟩ := hgx
      have hLn : L.length ≤ 1099511627776 := by omega
      have hsort := Tryz.slices_Sort_string g 0 cap L wr (by
        intro j hj
        have hj' : j < L.length := by simpa using hj
        obtain ⟨g2, c2, e2, _, hc2, hf2⟩ := hrow.at (k := j) (by omega)
        injection e2 with e3 _ _
        injection e3 with e3
        injection e3 with e3 _ _
        subst e3
        rw [Nat.zero_add]
        refine ⟨?_, hf2⟩
        rw [hc2, List.getElem?_map, List.getElem?_eq_getElem hj']
        simp [txt, encStr, hj']) (hrow.lt g rfl) (by omega)
      have HSO := Lib.hid hsort
      have HL24 := Lib.hid hL24
      have HNN := Lib.hid hN
      clear hrow hst hle hlz hR0 hperm hlr hsort hr hbr hlf hor hL24 hN h0
      go_wp2_with fail
      refine HSO.out.mono ?_; rintro e w5 ⟨rfl, n, os, rfl⟩
      have hL24 := HL24.out
      have D : NamB (Sort.grow (Sort.putRow encStr (Sort.ahead wr n) g 0 (L.mergeSort fun x y => decide (x ≤ y)).toArray) os) g ∧ w3.heap.size ≤ g ∧ Below w3.heap.size w3 (Sort.grow (Sort.putRow encStr (Sort.ahead wr n) g 0 (L.mergeSort fun x y => decide (x ≤ y)).toArray) os) ∧ 24 ≤ cap := by
        have hml : (L.mergeSort fun x y => decide (x ≤ y)).length = L.length := List.length_mergeSort _
        have hso : (L.mergeSort fun x y => decide (x ≤ y)) = namesL := by
          rw [msort_asc (HN0.out.nodup_iff.2 HND.out), ← HKY.out]
          exact ofL_congr fun x => HN0.out.mem_iff
        have hfr := HROW.out.fresh2 (by decide) HST.out
        rcases hfr.own.2 with ⟨h1, _⟩ | ⟨g2, cap2, cur, h1, h2, h3, h4, h5, h6, h7⟩
        · cases h1
        · injection h1 with e1 _ e3
          injection e1 with e1
          injection e1 with e1 _ _
          subst e1 e3
          have hown := ownsRow_sorted (os := os) (n := n) (ts := L.mergeSort fun x y => decide (x ≤ y)) (ss := L) hml h2 h3 h4 h5 h6
          have hgr := grownBy_sorted (w := wr) (g := g) (n := n) (os := os) (L.mergeSort fun x y => decide (x ≤ y)).toArray
          have hfin : Fresh w3 (Sort.grow (Sort.putRow encStr (Sort.ahead wr n) g 0 (L.mergeSort fun x y => decide (x ≤ y)).toArray) os) 9 1 (.slice (some ⟨g, 0, none⟩) L.length cap) L.length ((L.mergeSort fun x y => decide (x ≤ y)).map txt) :=
            ⟨hown, hfr.below.trans ⟨hgr.os, hgr.tape, hgr.output, hgr.size, fun b hb => hgr.block b (Nat.lt_of_lt_of_le hb hfr.below.size) (by simp; omega)⟩⟩
          rw [hso] at hfin ⊢
          obtain ⟨o', hro, _⟩ := hfin.row none0 [9]
          refine ⟨⟨?_, fun k hk => ?_⟩, h2, hfin.below, by omega⟩
          · exact hro.lt g rfl
          · obtain ⟨g3, c3, e3, _, e4, e5⟩ := hro.at (k := k) (by omega)
            injection e3 with e3 _ _
            injection e3 with e3
            injection e3 with e3 _ _
            subst e3
            exact ⟨e4, e5⟩
      have HD := Lib.hid D
      clear D HROW HST HSO HKY HND HN0 hL24
      rw [HL24.out]
      go_wp2_with fail
      refine (clip_form _ g 24 cap HD.out.2.2.2).mono ?_; rintro e w6 ⟨rfl, rfl⟩
      go_wp2_with fail
      go_ret
      exact ⟨g, rfl, Nat.le_trans HBC.out.size HD.out.2.1, HD.out.1, HBC.out.trans (HD.out.2.2.1.mono HBC.out.size)⟩
    · have hrn : ∀ ty, (Instr.next (.pointer (some ⟨w3.heap.size, 0, none⟩)) false ty).run Tryz.prog wr = .ok (.tuple #[.bool true, e.key, e.val]) (setBlock w1 w3.heap.size (.mapIter (some m) clock (seen.push e.born) clock)) := fun _ => hrun
      obtain ⟨hem, _⟩ := mem_left he
      have hlt := left_shrinks es seen e he
      obtain ⟨A, B, hA, hB⟩ := left_split HOK.out (by simpa using he)
      obtain ⟨x, u, hk, hv⟩ := HENT.out e hem
      have hB1 : Below wr.heap.size wr w1 := by rcases hal with rfl | rfl; exact Below.refl _ _; exact (Below.refl _ _).drew
      have hrl : w3.heap.size < wr.heap.size := (Array.getElem?_eq_some_iff.1 hr).1
      have hrl1 : w3.heap.size < w1.heap.size := Nat.lt_of_lt_of_le hrl hB1.size
      have hrow1 : Row o1 w1 [9, 0] 9 1 _ _ _ := hrow.below hB1
      have hst1 := hst.trans (Stp.ofBelow [9] o1 hB1)
      have hbm1 : w1.heap[m]? = some (.map es clock) := by rw [hB1.block m (Array.getElem?_eq_some_iff.1 hbr).1]; exact hbr
      have hom : o1 m = [] := by rw [hst.old m hml]; rfl
      have hne : m ≠ w3.heap.size := fun e => by rw [e, hor] at hom; cases hom
      have hs2 : Stp [9, 1] o1 w1 o1 (setBlock w1 w3.heap.size (.mapIter (some m) clock (seen.push e.born) clock)) := (Stp.refl [9, 1] o1 w1).setBlk (by rw [hor]; exact List.prefix_refl _) hrl1 _
      have hr2 : (setBlock w1 w3.heap.size (.mapIter (some m) clock (seen.push e.born) clock)).heap[w3.heap.size]? = some (.mapIter (some m) clock (seen.push e.born) clock) := by rw [setBlock_heap hrl1, if_pos rfl]
      have hm2 : (setBlock w1 w3.heap.size (.mapIter (some m) clock (seen.push e.born) clock)).heap[m]? = some (.map es clock) := by rw [setBlock_heap hrl1, if_neg hne]; exact hbm1
      have hrow2 := hrow1.keep hs2 (by decide)
      have hst2 := hst1.trans (hs2.wide (by decide))
      have hen := run_entry_at (P := Tryz.prog) _ w3.heap.size m clock seen es clock e hr2 hm2 hem HOK.out.2
      rw [hk, hv] at hrn hen
      obtain ⟨W2, hW2⟩ : ∃ W2, W2 = setBlock w1 w3.heap.size (.mapIter (some m) clock (seen.push e.born) clock) := ⟨_, rfl⟩
      rw [← hW2] at hrn hen hr2 hm2 hrow2 hst2
      have HROW := Lib.hid (hrow2.below (lit_below0 W2 (.cells #[txt x] 9)))
      have HSRC := Lib.hid ((vw_new1 W2 x 9).src (P := Tryz.prog) Tryz.underlying39 (one_list [x]))
      have hrl2 : w3.heap.size < W2.heap.size := (Array.getElem?_eq_some_iff.1 hr2).1
      have hml2 : m < W2.heap.size := (Array.getElem?_eq_some_iff.1 hm2).1
      have HST := Lib.hid (hst2.trans (Stp.ofBelow [9] o1 (lit_below0 W2 (.cells #[txt x] 9))))
      have HR2 := Lib.hid hr2
      have HM2 := Lib.hid hm2
      have HOR := Lib.hid hor
      have HOM := Lib.hid hom
      obtain ⟨RA, RB, hRAB, hRA, hRB⟩ : ∃ RA RB, R = RA ++ x :: RB ∧ A.map (fun e => e.key) = RA.map txt ∧ B.map (fun e => e.key) = RB.map txt := by
        rw [hA, List.map_append, List.map_cons, hk] at hlr
        obtain ⟨RA, R2, h1, h2, h3⟩ := List.map_eq_append_iff.1 hlr.symm
        obtain ⟨y, RB, h4, h5, h6⟩ := List.map_eq_cons_iff.1 h3
        refine ⟨RA, RB, ?_, h2.symm, h6.symm⟩
        rw [h1, h4, txt_inj.1 h5]
      have HPR := Lib.hid (show (leftOf es (seen.push e.born)).toList.map (fun e => e.key) = (RA ++ RB).map txt ∧ ((L ++ [x]) ++ (RA ++ RB)).Perm ks from by
        refine ⟨by rw [hB, List.map_append, hRA, hRB, List.map_append], ?_⟩
        refine List.Perm.trans ?_ hperm
        rw [hRAB, List.append_assoc]
        refine List.Perm.append_left L ?_
        exact (show (x :: (RA ++ RB)).Perm (RA ++ x :: RB) from List.perm_middle.symm))
      have HLT := Lib.hid hlt
      have HLE := Lib.hid (show L.length + 1 ≤ 24 from by rw [hRAB] at hle; simp at hle; omega)
      have HLF := Lib.hid hlf
      clear hrun hrow hst hr hbr hrow1 hst1 hbm1 hs2 hrow2 hst2 hr2 hm2 hor hom hlt hle hlz hlf hlr hperm hRAB hRA hRB hA hB hW2 he hal hB1 hrl hrl1 hk hv hne
      unfold txt at hrn hen
      have hLN : L.length + 1 ≤ 24 := HLE.out
      go_wp2_with (
        at_builtin
        refine wpList_app _ rfl _ _ 39 39 rfl 9 i0 _ 1 16 Tryz.underlying39 hi0 hz0 hz1 hz2 rfl rfl HROW.out rfl HSRC.out (by unfold maxLen; omega) (by omega) ?_
        intro v' w5 o5 hrow5 hst5
        obtain ⟨g5, c5, rfl, _⟩ := hrow5.at (k := 0) (by omega)
        have hr5 : w5.heap[w3.heap.size]? = some (.mapIter (some m) clock (seen.push e.born) clock) := by
          rw [hst5.block w3.heap.size (by simp; omega) (by rw [HOR.out]; decide), (lit_below0 W2 _).block _ hrl2]; exact HR2.out
        have hm5 : w5.heap[m]? = some (.map es clock) := by
          rw [hst5.block m (by simp; omega) (by rw [HOM.out]; decide), (lit_below0 W2 _).block _ hml2]; exact HM2.out
        have D := Lib.hid (show NzRel w3 m w3.heap.size ks es clock (.slice (some ⟨g5, 0, none⟩) (L.length + 1) c5) w5 from
          ⟨seen.push e.born, L ++ [x], RA ++ RB, o5, some ⟨g5, 0, none⟩, c5, by simp, hm5, hr5, by simpa using hrow5, by rw [hst5.old w3.heap.size (by simp; omega)]; exact HOR.out, HPR.out.1, HPR.out.2, HST.out.trans (hst5.wide (by decide))⟩)
        have HM5 := Lib.hid (show w5.rangeLeft m w3.heap.size < wr.rangeLeft m w3.heap.size by rw [HLF.out]; unfold World.rangeLeft; rw [hm5, hr5]; exact HLT.out)
        clear hrow5 hst5 hr5 hm5 HROW HSRC)
      go_roundw
      case rel => exact D.out
      case measure => exact HM5.out
end Go.Proofs.YthojmgjgmbnopaaGreatDoor
