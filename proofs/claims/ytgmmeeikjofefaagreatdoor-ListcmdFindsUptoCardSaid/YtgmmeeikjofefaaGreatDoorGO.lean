import Derived.Test.YtgmmeeikjofefaaGreatDoorGB
import Derived.Test.YtgmmeeikjofefaaGreatDoorGC
import Derived.Test.YtgmmeeikjofefaaGreatDoorGD
import Derived.Test.YtgmmeeikjofefaaGreatDoorGG
import Derived.Test.YtgmmeeikjofefaaGreatDoorGI
import Derived.Maps.Range
import Derived.Sort.OwnSorted
import Derived.Laws.CopyOwn
namespace Go.Proofs.YtgmmeeikjofefaaGreatDoor
open Go Go.RowKit Go.ChangeMaps
/-! names, Keys, Len. -/
theorem MBlk.entries {o : Roles} {w : World} {r : List Nat} {b : Nat} {kvs : KV} (h : MBlk o w r b kvs) : ∃ es clock, w.heap[b]? = some (.map es clock) ∧ MOk es.toList clock ∧ es.size = kvs.length ∧ ∀ e ∈ es.toList, ∃ x u, e.key = txt x ∧ e.val = u := by
  obtain ⟨es, clock, hb, hes, hok⟩ := h.heap
  have hlen : es.toList.length = kvs.length := by have := congrArg List.length hes; simpa using this
  refine ⟨es, clock, hb, hok, by simpa using hlen, fun e he => ?_⟩
  have : (e.key, e.val) ∈ kvs.map (fun p => (txt p.1, p.2)) := by rw [← hes]; exact List.mem_map.2 ⟨e, he, rfl⟩
  obtain ⟨p, _, hp⟩ := List.mem_map.1 this
  exact ⟨p.1, _, (congrArg Prod.fst hp).symm, rfl⟩
theorem run_len_map {P : Program} {w : World} {t kt e : TypeId} {b : Nat} {es : Array MapEntry} {clock : Nat} (hb : w.heap[b]? = some (.map es clock)) (ht : P.underlying t = some (.map kt e)) (ty : TypeId) : (Builtin.len_ #[t] ty #[.map (some b)]).run P w = .ok (.int .i64 es.size) w := by
  simp [Builtin.len_, run_underlying ht, MapKept.run_getObj_map hb, Result.andThen, goInt]
theorem lit_below0 (w : World) (x : Obj) : Below w.heap.size w (w.alloc x) := (Below.refl _ _).alloc (Nat.le_refl _) _
def NmRel (w : World) (m r N : Nat) (es : Array MapEntry) (clock : Nat) (v : Value) (wr : World) : Prop :=
  ∃ seen L o' g cap, v = .slice (some ⟨g, 0, none⟩) L.length cap ∧ wr.heap[m]? = some (.map es clock) ∧ wr.heap[r]? = some (.mapIter (some m) clock seen clock) ∧ Row o' wr [9, 0] 9 1 v L.length ((L : List (List UInt8)).map txt) ∧ o' r = [9, 1] ∧ L.length + (leftOf es seen).size ≤ N ∧ (L = [] → (leftOf es seen).size = N) ∧ Stp [9] none0 w o' wr
def NamesDid (w : World) (N : Nat) (e : Ending) (w' : World) : Prop := ∃ g cap L, e = .returned (.slice (some ⟨g, 0, none⟩) (L : List (List UInt8)).length cap) ∧ Fresh w w' 9 1 (.slice (some ⟨g, 0, none⟩) L.length cap) L.length (L.map txt) ∧ L.length ≤ N ∧ (L = [] ↔ N = 0)
section
variable {o : Roles} {w : World} {q : List Nat} {p m d m2 a c : Nat} {kvs : KV} {S : SP}
set_option maxRecDepth 10000 in
set_option maxHeartbeats 4000000 in
theorem snames_ok (h : SpR o w q p m d m2 a kvs S c) (hn : kvs.length ≤ 1048576) : Calls Tryz.prog 98 #[.pointer (some ⟨p, 0, none⟩)] w (NamesDid w kvs.length) := by
  obtain ⟨es, clock, hb, hok, hsz, hent⟩ := h.keys.entries
  have hlen := run_len_map (P := Tryz.prog) hb (Tryz.underlying69)
  have hc := h.blk.cell
  have hml := h.keys.lt
  have hpl := h.blk.lt
  obtain ⟨i0, hi0, hz0, hz1, hz2⟩ := info_parts infoS
  rw [hsz] at hlen
  generalize kvs.length = N at *
  have HOK := Lib.hid hok
  have HENT := Lib.hid hent
  have HSZ := Lib.hid hsz
  have HB := Lib.hid hb
  clear h hok hent hsz hb
  go_enter Tryz.func98, Tryz.ntmps98
  go_wp2_with (
    refine wpList_make_own _ rfl _ _ 22 rfl w.heap.size 9 i0 (.string ⟨#[]⟩) 1 Tryz.underlying22 hi0 hz0 hz1 .i64 .i64 _ N rfl rfl rfl (by rw [hz2]; omega) (by unfold maxLen; omega) (Nat.le_refl _) ?_
    intro w3 hown hgr
    have hB3 : Below w.heap.size w w3 := ⟨hgr.os, hgr.tape, hgr.output, hgr.size, fun b hb => hgr.block b hb (by simp)⟩
    have hc3 : ∀ k, w3.cell? ⟨p, k, none⟩ = (spC m d c a)[k]? := fun k => by rw [(bcell hB3).1 _ _ hpl]; exact hc k
    have hb3 : w3.heap[m]? = some (.map es clock) := by rw [hB3.block m hml]; exact HB.out
    have hrg := run_range_map (P := Tryz.prog) w3 69 _ _ m es clock (Tryz.underlying69) hb3
    have HB3 := Lib.hid hB3
    have HM3 := Lib.hid hb3
    have HOWN := Lib.hid hown
    clear hB3 hb3 hown hgr)
  have hat : NmRel w m w3.heap.size N es clock (.slice (some ⟨w.heap.size, 0, none⟩) 0 N) (w3.alloc (.mapIter (some m) clock #[] clock)) := by
    have h3 : Row (none0.put w.heap.size [9, 0]) w3 [9, 0] 9 1 (.slice (some ⟨w.heap.size, 0, none⟩) 0 N) 0 (([] : List (List UInt8)).map txt) := by
      rcases HOWN.out.2 with ⟨h1, _⟩ | ⟨g, cap, cur, h1, h2, rest⟩
      · cases h1
      · refine ⟨⟨HOWN.out.1, .inr ⟨g, cap, cur, h1, Nat.zero_le _, rest⟩⟩, fun k hk => ?_⟩
        simp only [Value.ownBlock, Option.some.injEq] at hk
        subst hk; exact Roles.put_same _ _ _
    have s3 : Stp [9] none0 w (none0.put w.heap.size [9, 0]) w3 := (Stp.ofBelow [9] none0 HB3.out).name w.heap.size [9, 0] (Nat.le_refl _)
    have hsz0 : (leftOf es #[]).size = N := by rw [← HSZ.out]; simp [leftOf]
    refine ⟨#[], [], _, w.heap.size, N, rfl, ?_, heap_alloc_new _ _, h3.alloc _ _ [9, 1] rfl, Roles.put_same _ _ _, by simp [hsz0], fun _ => hsz0, s3.alloc (r' := [9, 1]) _ _ rfl⟩
    rw [(lit_below0 w3 _).block m (Nat.lt_of_lt_of_le hml HB3.out.size)]; exact HM3.out
  go_loopw [3] (fun v wr => NmRel w m w3.heap.size N es clock v wr) (fun _ w' => w'.rangeLeft m w3.heap.size)
  case atStart => exact hat
  case round =>
    clear hat
    obtain ⟨seen, L, o1, g, cap, rfl, hbr, hr, hrow, hor, hle, hl0, hst⟩ := hrel
    have hlf : wr.rangeLeft m w3.heap.size = (leftOf es seen).size := by unfold World.rangeLeft; rw [hbr, hr]
    rcases run_next_at (P := Tryz.prog) wr 0 w3.heap.size m clock clock seen es clock hr hbr HOK.out.1 (Nat.le_refl _) with ⟨h0, hrun⟩ | ⟨e, he, w1, hal, hrun⟩
    · have hrn : ∀ ty, (Instr.next (.pointer (some ⟨w3.heap.size, 0, none⟩)) false ty).run Tryz.prog wr = .ok (.tuple #[.bool false]) wr := fun _ => hrun
      clear hrun
      have HROW := Lib.hid hrow
      have HST := Lib.hid hst
      have HN0 := Lib.hid (show L.length ≤ N ∧ (L = [] ↔ N = 0) from ⟨by omega, fun e => by have := hl0 e; omega, fun e => List.eq_nil_of_length_eq_zero (by omega)⟩)
      have hsort := Tryz.sort_Strings g 0 cap L wr (by
        intro j hj
        have hj' : j < L.length := by simpa using hj
        obtain ⟨g2, c2, e2, _, hc2, hf2⟩ := hrow.at (k := j) (by omega)
        injection e2 with e3 _ _
        injection e3 with e3
        injection e3 with e3 _ _
        subst e3
        rw [Nat.zero_add]
        refine ⟨?_, hf2⟩
        rw [hc2, List.getElem?_map, List.getElem?_eq_getElem hj']
        simp [txt, encStr, hj']) (hrow.lt g rfl) (by omega)
      have HSO := Lib.hid hsort
      clear hrow hst hl0 hle hsort hr hbr hlf hor hc HB HOWN HM3 HB3
      go_wp2_with fail
      refine HSO.out.mono ?_; rintro e w5 ⟨rfl, n, os, rfl⟩
      have D : NamesDid w N (.returned (.slice (some ⟨g, 0, none⟩) L.length cap)) (Sort.grow (Sort.putRow encStr (Sort.ahead wr n) g 0 (L.mergeSort fun x y => decide (x ≤ y)).toArray) os) := by
        have hml : (L.mergeSort fun x y => decide (x ≤ y)).length = L.length := List.length_mergeSort _
        have hfr := HROW.out.fresh2 (by decide) HST.out
        rcases hfr.own.2 with ⟨h1, _⟩ | ⟨g2, cap2, cur, h1, h2, h3, h4, h5, h6, h7⟩
        · cases h1
        · injection h1 with e1 _ e3
          injection e1 with e1
          injection e1 with e1 _ _
          subst e1 e3
          have hown := ownsRow_sorted (os := os) (n := n) (ts := L.mergeSort fun x y => decide (x ≤ y)) (ss := L) hml h2 h3 h4 h5 h6
          have hgr := grownBy_sorted (w := wr) (g := g) (n := n) (os := os) (L.mergeSort fun x y => decide (x ≤ y)).toArray
          refine ⟨g, cap, L.mergeSort fun x y => decide (x ≤ y), by rw [hml], ?_, by rw [hml]; exact HN0.out.1, ?_⟩
          · rw [hml]
            refine ⟨hown, hfr.below.trans ⟨hgr.os, hgr.tape, hgr.output, hgr.size, fun b hb => hgr.block b (Nat.lt_of_lt_of_le hb hfr.below.size) (by simp; omega)⟩⟩
          · rw [← HN0.out.2]
            constructor
            · intro e; rw [e] at hml; exact List.eq_nil_of_length_eq_zero (by simpa using hml.symm)
            · intro e; rw [e]; simp
      have HD := Lib.hid D
      clear D HROW HST HSO
      go_wp2_with fail
      go_ret
      exact HD.out
    · have hrn : ∀ ty, (Instr.next (.pointer (some ⟨w3.heap.size, 0, none⟩)) false ty).run Tryz.prog wr = .ok (.tuple #[.bool true, e.key, e.val]) (setBlock w1 w3.heap.size (.mapIter (some m) clock (seen.push e.born) clock)) := fun _ => hrun
      obtain ⟨hem, _⟩ := mem_left he
      have hlt := left_shrinks es seen e he
      obtain ⟨x, u, hk, hv⟩ := HENT.out e hem
      have hB1 : Below wr.heap.size wr w1 := by rcases hal with rfl | rfl; exact Below.refl _ _; exact (Below.refl _ _).drew
      have hrl : w3.heap.size < wr.heap.size := (Array.getElem?_eq_some_iff.1 hr).1
      have hrl1 : w3.heap.size < w1.heap.size := Nat.lt_of_lt_of_le hrl hB1.size
      have hrow1 : Row o1 w1 [9, 0] 9 1 _ _ _ := hrow.below hB1
      have hst1 := hst.trans (Stp.ofBelow [9] o1 hB1)
      have hbm1 : w1.heap[m]? = some (.map es clock) := by rw [hB1.block m (Array.getElem?_eq_some_iff.1 hbr).1]; exact hbr
      have hom : o1 m = [] := by rw [hst.old m hml]; rfl
      have hne : m ≠ w3.heap.size := fun e => by rw [e, hor] at hom; cases hom
      have hs2 : Stp [9, 1] o1 w1 o1 (setBlock w1 w3.heap.size (.mapIter (some m) clock (seen.push e.born) clock)) := (Stp.refl [9, 1] o1 w1).setBlk (by rw [hor]; exact List.prefix_refl _) hrl1 _
      have hr2 : (setBlock w1 w3.heap.size (.mapIter (some m) clock (seen.push e.born) clock)).heap[w3.heap.size]? = some (.mapIter (some m) clock (seen.push e.born) clock) := by rw [setBlock_heap hrl1, if_pos rfl]
      have hm2 : (setBlock w1 w3.heap.size (.mapIter (some m) clock (seen.push e.born) clock)).heap[m]? = some (.map es clock) := by rw [setBlock_heap hrl1, if_neg hne]; exact hbm1
      have hrow2 := hrow1.keep hs2 (by decide)
      have hst2 := hst1.trans (hs2.wide (by decide))
      have hen := run_entry_at (P := Tryz.prog) _ w3.heap.size m clock seen es clock e hr2 hm2 hem HOK.out.2
      rw [hk, hv] at hrn hen
      obtain ⟨W2, hW2⟩ : ∃ W2, W2 = setBlock w1 w3.heap.size (.mapIter (some m) clock (seen.push e.born) clock) := ⟨_, rfl⟩
      rw [← hW2] at hrn hen hr2 hm2 hrow2 hst2
      have HROW := Lib.hid (hrow2.below (lit_below0 W2 (.cells #[txt x] 9)))
      have HSRC := Lib.hid ((vw_new1 W2 x 9).src (P := Tryz.prog) Tryz.underlying22 (one_list [x]))
      have hrl2 : w3.heap.size < W2.heap.size := (Array.getElem?_eq_some_iff.1 hr2).1
      have hml2 : m < W2.heap.size := (Array.getElem?_eq_some_iff.1 hm2).1
      have HST := Lib.hid (hst2.trans (Stp.ofBelow [9] o1 (lit_below0 W2 (.cells #[txt x] 9))))
      have HR2 := Lib.hid hr2
      have HM2 := Lib.hid hm2
      have HOR := Lib.hid hor
      have HOM := Lib.hid hom
      have HLT := Lib.hid hlt
      have HLE := Lib.hid hle
      have HLF := Lib.hid hlf
      clear hrun hrow hst hr hbr hrow1 hst1 hbm1 hs2 hrow2 hst2 hr2 hm2 hor hom hlt hle hl0 hlf hW2 he hal hB1 hrl hrl1 hk hv hc HOWN HM3 HB hne
      unfold txt at hrn hen
      have hLN : L.length + 1 ≤ 1048577 := by have := HLE.out; omega
      go_wp2_with (
        at_builtin
        refine wpList_app _ rfl _ _ 22 22 rfl 9 i0 _ 1 16 Tryz.underlying22 hi0 hz0 hz1 hz2 rfl rfl HROW.out rfl HSRC.out (by unfold maxLen; omega) (by omega) ?_
        intro v' w5 o5 hrow5 hst5
        obtain ⟨g5, c5, rfl, _⟩ := hrow5.at (k := 0) (by omega)
        have hr5 : w5.heap[w3.heap.size]? = some (.mapIter (some m) clock (seen.push e.born) clock) := by
          rw [hst5.block w3.heap.size (by simp; omega) (by rw [HOR.out]; decide), (lit_below0 W2 _).block _ hrl2]; exact HR2.out
        have hm5 : w5.heap[m]? = some (.map es clock) := by
          rw [hst5.block m (by simp; omega) (by rw [HOM.out]; decide), (lit_below0 W2 _).block _ hml2]; exact HM2.out
        have D := Lib.hid (show NmRel w m w3.heap.size N es clock (.slice (some ⟨g5, 0, none⟩) (L.length + 1) c5) w5 from
          ⟨seen.push e.born, L ++ [x], o5, g5, c5, by simp, hm5, hr5, by simpa using hrow5, by rw [hst5.old w3.heap.size (by simp; omega)]; exact HOR.out, by have := HLE.out; have := HLT.out; simp; omega, fun e => by simp at e, HST.out.trans (hst5.wide (by decide))⟩)
        have HM5 := Lib.hid (show w5.rangeLeft m w3.heap.size < wr.rangeLeft m w3.heap.size by rw [HLF.out]; unfold World.rangeLeft; rw [hm5, hr5]; exact HLT.out)
        clear hrow5 hst5 hr5 hm5 HROW HSRC)
      go_roundw
      case rel => exact D.out
      case measure => exact HM5.out
end
end Go.Proofs.YtgmmeeikjofefaaGreatDoor
namespace Go.Proofs.YtgmmeeikjofefaaGreatDoor
open Go Go.RowKit Go.ChangeMaps
def KyRel (w : World) (g : Nat) (L : List (List UInt8)) (n i : Value) (wr : World) : Prop :=
  ∃ k : Nat, k ≤ L.length ∧ n = .int .i64 (k : Int) ∧ i = .int .i64 (k : Int) ∧ Below w.heap.size w wr ∧ (∀ j x, L[j]? = some x → wr.cell? ⟨g, j, none⟩ = some (txt x)) ∧ (∀ j, j < L.length → wr.frozen? ⟨g, j, none⟩ = false)
section
variable {o : Roles} {w : World} {q : List Nat} {p m d m2 a c : Nat} {kvs : KV} {S : SP}
theorem look_due0 (h : SpR o w q p m d m2 a kvs S c) (k : List UInt8) : ∃ H a1 n1 c1 a2 n2 c2 a3 n3 c3, (∀ W, Below w.heap.size w W → (Instr.lookup 69 (.map (some m)) (txt k) false).run Tryz.prog W = .ok (hdV H (.slice a1 n1 c1) (.slice a2 n2 c2) (.slice a3 n3 c3)) W) ∧ H.due = 0 := by
  have hv := h.vals k
  cases hm : mfind kvs k with
  | none =>
    refine ⟨hd0, none, 0, 0, none, 0, 0, none, 0, 0, fun W hW => ?_, rfl⟩
    have := run_look (P := Tryz.prog) (h.keys.below hW) Tryz.underlying69 Tryz.underlying9 k false (zeroHd _)
    rw [hm] at this
    exact this
  | some u =>
    rw [hm] at hv
    cases hS : S k with
    | none => rw [hS] at hv; exact hv.elim
    | some H =>
      rw [hS] at hv
      obtain ⟨l, f, r, rfl, hv3, _⟩ := hv
      obtain ⟨a1, c1, rfl, _⟩ := hv3.list.slice
      obtain ⟨a2, c2, rfl, _⟩ := hv3.fields.slice
      obtain ⟨a3, c3, rfl, _⟩ := hv3.ranked.slice
      refine ⟨H, a1, H.v.list.length, c1, a2, H.v.fields.length, c2, a3, H.v.ranked.length, c3, fun W hW => ?_, h.due0 k H hS⟩
      have := run_look (P := Tryz.prog) (h.keys.below hW) Tryz.underlying69 Tryz.underlying9 k false (zeroHd _)
      rw [hm] at this
      exact this
def LenDid (w : World) (N : Nat) (e : Ending) (w' : World) : Prop := ∃ n : Nat, e = .returned (.int .i64 n) ∧ (n = 0 ↔ N = 0) ∧ Below w.heap.size w w'
def KeysDid (w : World) (N : Nat) (e : Ending) (w' : World) : Prop := ∃ n a c, e = .returned (.slice a n c) ∧ (n = 0 ↔ N = 0) ∧ Below w.heap.size w w'
set_option maxRecDepth 10000 in
set_option maxHeartbeats 4000000 in
theorem skeys_ok (h : SpR o w q p m d m2 a kvs S c) (hn : kvs.length ≤ 1048576) : Calls Tryz.prog 46 #[.pointer (some ⟨p, 0, none⟩), .int .i64 0] w (KeysDid w kvs.length) := by
  have HN := Lib.hid (snames_ok h hn)
  have HH := Lib.hid h
  obtain ⟨i0, hi0, hz0, hz1, hz2⟩ := info_parts infoS
  clear h
  generalize kvs.length = N at *
  go_enter Tryz.func46, Tryz.ntmps46
  go_wp2_with fail
  refine HN.out.mono ?_; rintro e w1 ⟨g, cap, L, rfl, hF, hLN, hL0⟩
  have hgw : w.heap.size ≤ g ∧ L.length ≤ cap := by
    rcases hF.own.2 with ⟨h1, _⟩ | ⟨g2, cap2, cur, h1, h2, h3, h4, rest⟩
    · cases h1
    · injection h1 with e1 _ e3
      injection e1 with e1
      injection e1 with e1 _ _
      subst e1 e3
      exact ⟨h2, h4⟩
  have hcells : (∀ j x, L[j]? = some x → w1.cell? ⟨g, j, none⟩ = some (txt x)) ∧ (∀ j, j < L.length → w1.frozen? ⟨g, j, none⟩ = false) := by
    obtain ⟨o2, hrow, _⟩ := hF.row none0 []
    have hat : ∀ j, j < L.length → w1.cell? ⟨g, j, none⟩ = (L.map txt)[j]? ∧ w1.frozen? ⟨g, j, none⟩ = false := fun j hj => by
      obtain ⟨g2, c2, e2, _, hc2, hf2⟩ := hrow.at (k := j) (by omega)
      injection e2 with e3 _ _
      injection e3 with e3
      injection e3 with e3 _ _
      subst e3
      exact ⟨hc2, hf2⟩
    refine ⟨fun j x hj => ?_, fun j hj => (hat j hj).2⟩
    rw [(hat j (List.getElem?_eq_some_iff.1 hj).1).1, List.getElem?_map, hj]; rfl
  have hat : KyRel w g L (.int .i64 0) (.int .i64 0) w1 := ⟨0, Nat.zero_le _, rfl, rfl, hF.below, hcells.1, hcells.2⟩
  have hcut := cut_own (P := Tryz.prog) Tryz.underlying22 hi0 (a := some ⟨g, 0, none⟩) hgw.2
  have hgw := hgw.1
  clear hF hcells HN
  have HL0 := Lib.hid hL0
  clear hL0
  go_wp2_with fail
  go_loopw [6, 15] (fun n i wr => KyRel w g L n i wr) (fun _ i _ => L.length - (intOf i).toNat)
  case atStart => exact hat
  case round =>
    clear hat
    obtain ⟨k, hk, rfl, rfl, hB, hcl, hfz⟩ := hrel
    by_cases hkl : k < L.length
    · obtain ⟨x, hx⟩ : ∃ x, L[k]? = some x := ⟨_, List.getElem?_eq_getElem hkl⟩
      have hc := hcl k x hx
      have hf := hfz k hkl
      obtain ⟨⟨⟨kind, text, list, fields, ranked⟩, due, ver⟩, a1, n1, c1, a2, n2, c2, a3, n3, c3, hlk, hdue⟩ := look_due0 HH.out x
      dsimp only at hdue
      subst hdue
      have hlk := hlk wr hB
      have hfd : ∀ W, (Instr.field 95 (hdV ⟨⟨kind, text, list, fields, ranked⟩, 0, ver⟩ (.slice a1 n1 c1) (.slice a2 n2 c2) (.slice a3 n3 c3)) 1).run Tryz.prog W = .ok (.int .i64 0) W := fun W => by kernel_rfl
      have hkI : (0 : Int) ≤ k ∧ (k : Int) < L.length := by omega
      have hpc := (HH.out.blk.below hB).cell
      have D := Lib.hid (show KyRel w g L (.int .i64 ((k : Int) + 1)) (.int .i64 ((k : Int) + 1)) (wr.setCell ⟨g, k, none⟩ (txt x)) from
        ⟨k + 1, hkl, by simp, by simp, hB.setCell hgw _, fun j y hj => by
          by_cases hjk : j = k
          · subst hjk
            rw [hx] at hj
            cases hj
            exact World.cell?_setCell_same _ _ _ hc
          · rw [World.cell?_setCell_other _ _ _ _ (by intro e; injection e with _ e2 _; exact hjk e2.symm)]
            exact hcl j y hj, fun j hj => by rw [World.frozen?_setCell]; exact hfz j hj⟩)
      have HOV := Lib.hid (over0_ok wr 0)
      clear hcl hfz hB hx
      unfold txt at hc hlk D
      go_wp2_with fail
      refine HOV.out.mono ?_; rintro e w2 ⟨rfl, rfl⟩
      go_wp2_with fail
      exact ⟨D.out, by simp [intOf]; omega⟩
    · obtain rfl : k = L.length := by omega
      have hl0 : L.length = 0 ↔ N = 0 := by rw [← HL0.out]; exact List.length_eq_zero_iff
      have HB := Lib.hid hB
      clear hcl hfz hB HH
      go_wp2_with fail
      go_ret
      exact ⟨_, _, _, rfl, hl0, HB.out⟩
theorem slen_ok (h : SpR o w q p m d m2 a kvs S c) (hn : kvs.length ≤ 1048576) : Calls Tryz.prog 26 #[.pointer (some ⟨p, 0, none⟩), .int .i64 0] w (LenDid w kvs.length) := by
  have HK := Lib.hid (skeys_ok h hn)
  clear h
  go_enter Tryz.func26, Tryz.ntmps26
  go_wp2_with fail
  refine HK.out.mono ?_; rintro e w1 ⟨n, a1, c1, rfl, h0, hB⟩
  have HD := Lib.hid (show LenDid w kvs.length (.returned (.int .i64 n)) w1 from ⟨n, rfl, h0, hB⟩)
  clear h0 hB HK
  go_wp2_with fail
  go_ret
  exact HD.out
end
theorem nodup_len {α : Type} [DecidableEq α] : ∀ {l K : List α}, l.Nodup → (∀ x ∈ l, x ∈ K) → l.length ≤ K.length
  | [], _, _, _ => Nat.zero_le _
  | x :: t, K, h, hs => by
    obtain ⟨h1, h2⟩ := List.nodup_cons.1 h
    have hx := hs x (by simp)
    have := nodup_len (l := t) (K := K.erase x) h2 (fun y hy => (List.mem_erase_of_ne (fun e => h1 (by rw [← e]; exact hy))).2 (hs y (by simp [hy])))
    rw [List.length_erase_of_mem hx] at this
    have : 0 < K.length := List.length_pos_of_mem hx
    simp
    omega
theorem mfind_has {kvs : KV} {k : List UInt8} (h : k ∈ kvs.map Prod.fst) : mfind kvs k ≠ none := by
  induction kvs with
  | nil => cases h
  | cons p t ih =>
    obtain ⟨q, u⟩ := p
    unfold mfind
    split
    · simp
    · rename_i hne
      exact ih (by simp at h; rcases h with h | h; exact absurd h hne; simpa using h)
theorem mfind_nil {kvs : KV} (h : ∀ k, mfind kvs k = none) : kvs = [] := by
  cases kvs with
  | nil => rfl
  | cons p t =>
    have := h p.1
    unfold mfind at this
    simp at this
def JLen (w : World) (S : SP) (e : Ending) (w' : World) : Prop := ∃ n : Nat, e = .returned (.int .i64 n) ∧ (n = 0 ↔ ∀ k, S k = none) ∧ Below w.heap.size w w'
theorem jlen_ok {o : Roles} {w : World} {q : List Nat} {p : Nat} {c : Cnt} {S : SP} (h : SpJ o w q p S c) {K : List (List UInt8)} (hK : ∀ k, S k ≠ none → k ∈ K) (hn : K.length ≤ 1048576) : Calls Tryz.prog 26 #[.pointer (some ⟨p, 0, none⟩), .int .i64 0] w (JLen w S) := by
  obtain ⟨m, d, m2, a, kvs, h⟩ := h
  have hiff : ∀ k, mfind kvs k = none ↔ S k = none := fun k => (h.vals k).none_iff
  have hl : kvs.length ≤ K.length := by
    have := nodup_len (l := kvs.map Prod.fst) (K := K) h.nodup (fun x hx => hK x (fun e => mfind_has hx ((hiff x).2 e)))
    simpa using this
  refine (slen_ok h (by omega)).mono ?_
  rintro e w' ⟨n, rfl, h0, hB⟩
  refine ⟨n, rfl, h0.trans ⟨fun e k => ?_, fun e => ?_⟩, hB⟩
  · rw [← hiff, List.eq_nil_of_length_eq_zero e]; rfl
  · rw [mfind_nil (fun k => (hiff k).2 (e k))]; rfl
end Go.Proofs.YtgmmeeikjofefaaGreatDoor
