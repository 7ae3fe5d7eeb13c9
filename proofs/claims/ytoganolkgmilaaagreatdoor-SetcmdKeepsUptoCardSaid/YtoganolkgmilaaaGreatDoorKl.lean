import Derived.Test.YtoganolkgmilaaaGreatDoorXE
import Derived.Test.YtoganolkgmilaaaGreatDoorXH
import Derived.Test.YtoganolkgmilaaaGreatDoorSs
import Derived.Maps.Range
import Derived.Sort.OwnSorted
namespace Go.Proofs.YtoganolkgmilaaaGreatDoor
open Go Go.RowKit Go.ChangeMaps
/-! names, Keys, Len. -/
theorem MBlk.entries {o : Roles} {w : World} {r : List Nat} {b : Nat} {kvs : KV} (h : MBlk o w r b kvs) : ∃ es clock, w.heap[b]? = some (.map es clock) ∧ MOk es.toList clock ∧ es.size = kvs.length ∧ (∀ e ∈ es.toList, ∃ x u, e.key = txt x ∧ e.val = u) ∧ es.toList.map (fun e => e.key) = (kvs.map Prod.fst).map txt := by
  obtain ⟨es, clock, hb, hes, hok⟩ := h.heap
  have hlen : es.toList.length = kvs.length := by have := congrArg List.length hes; simpa using this
  refine ⟨es, clock, hb, hok, by simpa using hlen, fun e he => ?_, ?_⟩
  · have : (e.key, e.val) ∈ kvs.map (fun p => (txt p.1, p.2)) := by rw [← hes]; exact List.mem_map.2 ⟨e, he, rfl⟩
    obtain ⟨p, _, hp⟩ := List.mem_map.1 this
    exact ⟨p.1, _, (congrArg Prod.fst hp).symm, rfl⟩
  · have := congrArg (List.map Prod.fst) hes
    rw [List.map_map, List.map_map] at this
    rw [List.map_map]
    exact this
/-- One entry is handed out: it, and no other, is left no more. -/
theorem left_split {es : Array MapEntry} {seen : Array Nat} {clock : Nat} (hok : MOk es.toList clock) {e : MapEntry} (he : e ∈ (leftOf es seen).toList) : ∃ A B, (leftOf es seen).toList = A ++ e :: B ∧ (leftOf es (seen.push e.born)).toList = A ++ B := by
  obtain ⟨A, B, hAB⟩ := List.append_of_mem he
  refine ⟨A, B, hAB, ?_⟩
  have h1 : (leftOf es (seen.push e.born)).toList = (leftOf es seen).toList.filter fun x => decide (x.born ≠ e.born) := by
    unfold leftOf
    rw [Array.toList_filter, Array.toList_filter, List.filter_filter]
    congr 1
    funext x
    rw [Array.contains_push]
    by_cases hx : x.born = e.born
    · simp [hx]
    · simp [hx]
  have hnd : ((leftOf es seen).toList.map (·.born)).Nodup := by
    unfold leftOf
    rw [Array.toList_filter]
    exact hok.2.sublist ((List.filter_sublist).map _)
  rw [h1, hAB]
  rw [hAB, List.map_append, List.map_cons, List.nodup_append, List.nodup_cons] at hnd
  rw [List.filter_append, List.filter_cons, if_neg (by simp)]
  congr 1
  · rw [List.filter_eq_self]
    intro x hx
    have := hnd.2.2 x.born (List.mem_map_of_mem hx) e.born (by simp)
    simpa using this
  · rw [List.filter_eq_self]
    intro x hx
    have := hnd.2.1.1
    simp only [decide_eq_true_eq]
    intro e1
    exact this (e1 ▸ List.mem_map_of_mem hx)
theorem left_none (es : Array MapEntry) : (leftOf es #[]).toList = es.toList := by
  unfold leftOf
  rw [Array.toList_filter]
  simp
theorem msort_asc {l : List Tx} (h : l.Nodup) : (l.mergeSort fun x y => decide (x ≤ y)) = ofL l := by
  refine Asc.ext ?_ (ofL_asc l) fun x => by rw [msort_mem, ofL_mem]
  have hn : (l.mergeSort fun x y => decide (x ≤ y)).Nodup := (List.mergeSort_perm l _).nodup_iff.2 h
  have h2 := List.pairwise_and_iff.2 ⟨msort_sorted l, hn⟩
  refine h2.imp fun {a b} hab => ?_
  rcases less_total a b with k | k | k
  · exact k
  · exact absurd k hab.2
  · rw [show ltB b a = true from k] at hab; cases hab.1
theorem run_len_map {P : Program} {w : World} {t kt e : TypeId} {b : Nat} {es : Array MapEntry} {clock : Nat} (hb : w.heap[b]? = some (.map es clock)) (ht : P.underlying t = some (.map kt e)) (ty : TypeId) : (Builtin.len_ #[t] ty #[.map (some b)]).run P w = .ok (.int .i64 es.size) w := by
  simp [Builtin.len_, run_underlying ht, MapKept.run_getObj_map hb, Result.andThen, goInt]
theorem lit_below0 (w : World) (x : Obj) : Below w.heap.size w (w.alloc x) := (Below.refl _ _).alloc (Nat.le_refl _) _
def NmRel (w : World) (m r : Nat) (ks : List Tx) (es : Array MapEntry) (clock : Nat) (v : Value) (wr : World) : Prop :=
  ∃ seen L R o' g cap, v = .slice (some ⟨g, 0, none⟩) L.length cap ∧ wr.heap[m]? = some (.map es clock) ∧ wr.heap[r]? = some (.mapIter (some m) clock seen clock) ∧ Row o' wr [9, 0] 9 1 v L.length ((L : List (List UInt8)).map txt) ∧ o' r = [9, 1] ∧ (leftOf es seen).toList.map (fun e => e.key) = (R : List Tx).map txt ∧ (L ++ R).Perm ks ∧ Stp [9] none0 w o' wr
def NamesDid (w : World) (K : List Tx) (e : Ending) (w' : World) : Prop := ∃ g cap, e = .returned (.slice (some ⟨g, 0, none⟩) K.length cap) ∧ Fresh w w' 9 1 (.slice (some ⟨g, 0, none⟩) K.length cap) K.length (K.map txt)
section
variable {o : Roles} {w : World} {q : List Nat} {p m d a : Nat} {c : Cnt} {kvs : KV} {S : SP}
set_option maxRecDepth 10000 in
set_option maxHeartbeats 4000000 in
theorem snames_ok (h : SpR o w q p m d a kvs S c) (hn : kvs.length ≤ 1099511627776) : Calls Tryz.prog 91 #[.pointer (some ⟨p, 0, none⟩)] w (NamesDid w (ofL (kvs.map Prod.fst))) := by
  obtain ⟨es, clock, hb, hok, hsz, hent, hke⟩ := h.keys.entries
  have hnd := h.nodup
  have hlen := run_len_map (P := Tryz.prog) hb (Tryz.underlying70)
  have hc := h.blk.cell
  have hml := h.keys.lt
  have hpl := h.blk.lt
  obtain ⟨i0, hi0, hz0, hz1, hz2⟩ := info_parts infoS
  rw [hsz] at hlen
  obtain ⟨ks, hks⟩ : ∃ ks, ks = kvs.map Prod.fst := ⟨_, rfl⟩
  have hkl : ks.length = kvs.length := by rw [hks]; simp
  rw [← hks] at hke hnd ⊢
  rw [← hkl] at hlen hn hsz
  clear hks hkl
  have HKE := Lib.hid hke
  have HND := Lib.hid hnd
  generalize hN : ks.length = N at *
  have HOK := Lib.hid hok
  have HENT := Lib.hid hent
  have HSZ := Lib.hid hsz
  have HB := Lib.hid hb
  clear h hok hent hsz hb hke hnd
  go_enter Tryz.func91, Tryz.ntmps91
  go_wp2_with (
    refine wpList_make_own _ rfl _ _ 22 rfl w.heap.size 9 i0 (.string ⟨#[]⟩) 1 Tryz.underlying22 hi0 hz0 hz1 .i64 .i64 _ N rfl rfl rfl (by rw [hz2]; omega) (by unfold maxLen; omega) (Nat.le_refl _) ?_
    intro w3 hown hgr
    have hB3 : Below w.heap.size w w3 := ⟨hgr.os, hgr.tape, hgr.output, hgr.size, fun b hb => hgr.block b hb (by simp)⟩
    have hc3 : ∀ k, w3.cell? ⟨p, k, none⟩ = (spC m d c.num a)[k]? := fun k => by rw [(bcell hB3).1 _ _ hpl]; exact hc k
    have hb3 : w3.heap[m]? = some (.map es clock) := by rw [hB3.block m hml]; exact HB.out
    have hrg := run_range_map (P := Tryz.prog) w3 70 _ _ m es clock (Tryz.underlying70) hb3
    have HB3 := Lib.hid hB3
    have HM3 := Lib.hid hb3
    have HOWN := Lib.hid hown
    clear hB3 hb3 hown hgr)
  have hat : NmRel w m w3.heap.size ks es clock (.slice (some ⟨w.heap.size, 0, none⟩) 0 N) (w3.alloc (.mapIter (some m) clock #[] clock)) := by
    have h3 : Row (none0.put w.heap.size [9, 0]) w3 [9, 0] 9 1 (.slice (some ⟨w.heap.size, 0, none⟩) 0 N) 0 (([] : List (List UInt8)).map txt) := by
      rcases HOWN.out.2 with ⟨h1, _⟩ | ⟨g, cap, cur, h1, h2, rest⟩
      · cases h1
      · refine ⟨⟨HOWN.out.1, .inr ⟨g, cap, cur, h1, Nat.zero_le _, rest⟩⟩, fun k hk => ?_⟩
        simp only [Value.ownBlock, Option.some.injEq] at hk
        subst hk; exact Roles.put_same _ _ _
    have s3 : Stp [9] none0 w (none0.put w.heap.size [9, 0]) w3 := (Stp.ofBelow [9] none0 HB3.out).name w.heap.size [9, 0] (Nat.le_refl _)
    refine ⟨#[], [], ks, _, w.heap.size, N, rfl, ?_, heap_alloc_new _ _, h3.alloc _ _ [9, 1] rfl, Roles.put_same _ _ _, by rw [left_none]; exact HKE.out, List.Perm.refl _, s3.alloc (r' := [9, 1]) _ _ rfl⟩
    rw [(lit_below0 w3 _).block m (Nat.lt_of_lt_of_le hml HB3.out.size)]; exact HM3.out
  go_loopw [3] (fun v wr => NmRel w m w3.heap.size ks es clock v wr) (fun _ w' => w'.rangeLeft m w3.heap.size)
  case atStart => exact hat
  case round =>
    clear hat
    obtain ⟨seen, L, R, o1, g, cap, rfl, hbr, hr, hrow, hor, hlr, hperm, hst⟩ := hrel
    have hle : L.length + R.length = N := by rw [← hN, ← hperm.length_eq, List.length_append]
    have hlz : (leftOf es seen).size = R.length := by have := congrArg List.length hlr; simpa using this
    have hlf : wr.rangeLeft m w3.heap.size = (leftOf es seen).size := by unfold World.rangeLeft; rw [hbr, hr]
    rcases run_next_at (P := Tryz.prog) wr 0 w3.heap.size m clock clock seen es clock hr hbr HOK.out.1 (Nat.le_refl _) with ⟨h0, hrun⟩ | ⟨e, he, w1, hal, hrun⟩
    · have hrn : ∀ ty, (Instr.next (.pointer (some ⟨w3.heap.size, 0, none⟩)) false ty).run Tryz.prog wr = .ok (.tuple #[.bool false]) wr := fun _ => hrun
      clear hrun
      have HROW := Lib.hid hrow
      have HST := Lib.hid hst
      have hR0 : R = [] := List.eq_nil_of_length_eq_zero (by omega)
      have HN0 := Lib.hid (show L.Perm ks from by rw [hR0, List.append_nil] at hperm; exact hperm)
      have hLn : L.length ≤ 1099511627776 := by omega
      have hsort := Tryz.sort_Strings g 0 cap L wr (by
        intro j hj
        have hj' : j < L.length := by simpa using hj
        obtain ⟨g2, c2, e2, _, hc2, hf2⟩ := hrow.at (k := j) (by omega)
        injection e2 with e3 _ _
        injection e3 with e3
        injection e3 with e3 _ _
        subst e3
        rw [Nat.zero_add]
        refine ⟨?_, hf2⟩
        rw [hc2, List.getElem?_map, List.getElem?_eq_getElem hj']
        simp [txt, encStr, hj']) (hrow.lt g rfl) (by omega)
      have HSO := Lib.hid hsort
      clear hrow hst hle hlz hR0 hperm hlr hsort hr hbr hlf hor hc HB HOWN HM3 HB3
      go_wp2_with fail
      refine HSO.out.mono ?_; rintro e w5 ⟨rfl, n, os, rfl⟩
      have D : NamesDid w (ofL ks) (.returned (.slice (some ⟨g, 0, none⟩) L.length cap)) (Sort.grow (Sort.putRow encStr (Sort.ahead wr n) g 0 (L.mergeSort fun x y => decide (x ≤ y)).toArray) os) := by
        have hml : (L.mergeSort fun x y => decide (x ≤ y)).length = L.length := List.length_mergeSort _
        have hso : (L.mergeSort fun x y => decide (x ≤ y)) = ofL ks := by
          rw [msort_asc (HN0.out.nodup_iff.2 HND.out)]
          exact ofL_congr fun x => HN0.out.mem_iff
        have hfr := HROW.out.fresh2 (by decide) HST.out
        rcases hfr.own.2 with ⟨h1, _⟩ | ⟨g2, cap2, cur, h1, h2, h3, h4, h5, h6, h7⟩
        · cases h1
        · injection h1 with e1 _ e3
          injection e1 with e1
          injection e1 with e1 _ _
          subst e1 e3
          have hown := ownsRow_sorted (os := os) (n := n) (ts := L.mergeSort fun x y => decide (x ≤ y)) (ss := L) hml h2 h3 h4 h5 h6
          have hgr := grownBy_sorted (w := wr) (g := g) (n := n) (os := os) (L.mergeSort fun x y => decide (x ≤ y)).toArray
          have hfin : Fresh w (Sort.grow (Sort.putRow encStr (Sort.ahead wr n) g 0 (L.mergeSort fun x y => decide (x ≤ y)).toArray) os) 9 1 (.slice (some ⟨g, 0, none⟩) L.length cap) L.length ((L.mergeSort fun x y => decide (x ≤ y)).map txt) :=
            ⟨hown, hfr.below.trans ⟨hgr.os, hgr.tape, hgr.output, hgr.size, fun b hb => hgr.block b (Nat.lt_of_lt_of_le hb hfr.below.size) (by simp; omega)⟩⟩
          have hlo : (ofL ks).length = L.length := by rw [← hso]; exact hml
          rw [hso] at hfin ⊢
          exact ⟨g, cap, by rw [hlo], by rw [hlo]; exact hfin⟩
      have HD := Lib.hid D
      clear D HROW HST HSO HKE HND HN0
      go_wp2_with fail
      go_ret
      exact HD.out
    · have hrn : ∀ ty, (Instr.next (.pointer (some ⟨w3.heap.size, 0, none⟩)) false ty).run Tryz.prog wr = .ok (.tuple #[.bool true, e.key, e.val]) (setBlock w1 w3.heap.size (.mapIter (some m) clock (seen.push e.born) clock)) := fun _ => hrun
      obtain ⟨hem, _⟩ := mem_left he
      have hlt := left_shrinks es seen e he
      obtain ⟨A, B, hA, hB⟩ := left_split HOK.out (by simpa using he)
      obtain ⟨x, u, hk, hv⟩ := HENT.out e hem
      have hB1 : Below wr.heap.size wr w1 := by rcases hal with rfl | rfl; exact Below.refl _ _; exact (Below.refl _ _).drew
      have hrl : w3.heap.size < wr.heap.size := (Array.getElem?_eq_some_iff.1 hr).1
      have hrl1 : w3.heap.size < w1.heap.size := Nat.lt_of_lt_of_le hrl hB1.size
      have hrow1 : Row o1 w1 [9, 0] 9 1 _ _ _ := hrow.below hB1
      have hst1 := hst.trans (Stp.ofBelow [9] o1 hB1)
      have hbm1 : w1.heap[m]? = some (.map es clock) := by rw [hB1.block m (Array.getElem?_eq_some_iff.1 hbr).1]; exact hbr
      have hom : o1 m = [] := by rw [hst.old m hml]; rfl
      have hne : m ≠ w3.heap.size := fun e => by rw [e, hor] at hom; cases hom
      have hs2 : Stp [9, 1] o1 w1 o1 (setBlock w1 w3.heap.size (.mapIter (some m) clock (seen.push e.born) clock)) := (Stp.refl [9, 1] o1 w1).setBlk (by rw [hor]; exact List.prefix_refl _) hrl1 _
      have hr2 : (setBlock w1 w3.heap.size (.mapIter (some m) clock (seen.push e.born) clock)).heap[w3.heap.size]? = some (.mapIter (some m) clock (seen.push e.born) clock) := by rw [setBlock_heap hrl1, if_pos rfl]
      have hm2 : (setBlock w1 w3.heap.size (.mapIter (some m) clock (seen.push e.born) clock)).heap[m]? = some (.map es clock) := by rw [setBlock_heap hrl1, if_neg hne]; exact hbm1
      have hrow2 := hrow1.keep hs2 (by decide)
      have hst2 := hst1.trans (hs2.wide (by decide))
      have hen := run_entry_at (P := Tryz.prog) _ w3.heap.size m clock seen es clock e hr2 hm2 hem HOK.out.2
      rw [hk, hv] at hrn hen
      obtain ⟨W2, hW2⟩ : ∃ W2, W2 = setBlock w1 w3.heap.size (.mapIter (some m) clock (seen.push e.born) clock) := ⟨_, rfl⟩
      rw [← hW2] at hrn hen hr2 hm2 hrow2 hst2
      have HROW := Lib.hid (hrow2.below (lit_below0 W2 (.cells #[txt x] 9)))
      have HSRC := Lib.hid ((vw_new1 W2 x 9).src (P := Tryz.prog) Tryz.underlying22 (one_list [x]))
      have hrl2 : w3.heap.size < W2.heap.size := (Array.getElem?_eq_some_iff.1 hr2).1
      have hml2 : m < W2.heap.size := (Array.getElem?_eq_some_iff.1 hm2).1
      have HST := Lib.hid (hst2.trans (Stp.ofBelow [9] o1 (lit_below0 W2 (.cells #[txt x] 9))))
      have HR2 := Lib.hid hr2
      have HM2 := Lib.hid hm2
      have HOR := Lib.hid hor
      have HOM := Lib.hid hom
      obtain ⟨RA, RB, hRAB, hRA, hRB⟩ : ∃ RA RB, R = RA ++ x :: RB ∧ A.map (fun e => e.key) = RA.map txt ∧ B.map (fun e => e.key) = RB.map txt := by
        rw [hA, List.map_append, List.map_cons, hk] at hlr
        obtain ⟨RA, R2, h1, h2, h3⟩ := List.map_eq_append_iff.1 hlr.symm
        obtain ⟨y, RB, h4, h5, h6⟩ := List.map_eq_cons_iff.1 h3
        refine ⟨RA, RB, ?_, h2.symm, h6.symm⟩
        rw [h1, h4, txt_inj.1 h5]
      have HPR := Lib.hid (show (leftOf es (seen.push e.born)).toList.map (fun e => e.key) = (RA ++ RB).map txt ∧ ((L ++ [x]) ++ (RA ++ RB)).Perm ks from by
        refine ⟨by rw [hB, List.map_append, hRA, hRB, List.map_append], ?_⟩
        refine List.Perm.trans ?_ hperm
        rw [hRAB, List.append_assoc]
        refine List.Perm.append_left L ?_
        exact (show (x :: (RA ++ RB)).Perm (RA ++ x :: RB) from List.perm_middle.symm))
      have HLT := Lib.hid hlt
      have HLE := Lib.hid (show L.length + 1 ≤ N from by rw [hRAB] at hle; simp at hle; omega)
      have HLF := Lib.hid hlf
      clear hrun hrow hst hr hbr hrow1 hst1 hbm1 hs2 hrow2 hst2 hr2 hm2 hor hom hlt hle hlz hlf hlr hperm hRAB hRA hRB hA hB hW2 he hal hB1 hrl hrl1 hk hv hc HOWN HM3 HB hne
      unfold txt at hrn hen
      have hLN : L.length + 1 ≤ 1099511627777 := by have := HLE.out; omega
      go_wp2_with (
        at_builtin
        refine wpList_app _ rfl _ _ 22 22 rfl 9 i0 _ 1 16 Tryz.underlying22 hi0 hz0 hz1 hz2 rfl rfl HROW.out rfl HSRC.out (by unfold maxLen; omega) (by omega) ?_
        intro v' w5 o5 hrow5 hst5
        obtain ⟨g5, c5, rfl, _⟩ := hrow5.at (k := 0) (by omega)
        have hr5 : w5.heap[w3.heap.size]? = some (.mapIter (some m) clock (seen.push e.born) clock) := by
          rw [hst5.block w3.heap.size (by simp; omega) (by rw [HOR.out]; decide), (lit_below0 W2 _).block _ hrl2]; exact HR2.out
        have hm5 : w5.heap[m]? = some (.map es clock) := by
          rw [hst5.block m (by simp; omega) (by rw [HOM.out]; decide), (lit_below0 W2 _).block _ hml2]; exact HM2.out
        have D := Lib.hid (show NmRel w m w3.heap.size ks es clock (.slice (some ⟨g5, 0, none⟩) (L.length + 1) c5) w5 from
          ⟨seen.push e.born, L ++ [x], RA ++ RB, o5, g5, c5, by simp, hm5, hr5, by simpa using hrow5, by rw [hst5.old w3.heap.size (by simp; omega)]; exact HOR.out, HPR.out.1, HPR.out.2, HST.out.trans (hst5.wide (by decide))⟩)
        have HM5 := Lib.hid (show w5.rangeLeft m w3.heap.size < wr.rangeLeft m w3.heap.size by rw [HLF.out]; unfold World.rangeLeft; rw [hm5, hr5]; exact HLT.out)
        clear hrow5 hst5 hr5 hm5 HROW HSRC)
      go_roundw
      case rel => exact D.out
      case measure => exact HM5.out
end
end Go.Proofs.YtoganolkgmilaaaGreatDoor
