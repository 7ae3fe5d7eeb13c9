/- Contracts of the library at this program, as the kit's tools have laid them (some of them). -/
import Derived.Shelf.Sort.Plain
import Derived.Shelf.LaysC
import Derived.Shelf.LaysM
import Derived.Test.YthojmgjgmbnopaaGreatDoorProg
import Derived.Test.YthojmgjgmbnopaaGreatDoorXE
import Derived.Test.YthojmgjgmbnopaaGreatDoorXF
import Derived.Maps.Range
import Derived.Sort.OwnSorted
namespace Go.Proofs
open Go.Shelf Go.RowKit Go.Sort Go.Lib
def Tryz.lays192_ren : Go.Shelf.Ren := ⟨fun | 192 => 148 | 190 => 86 | 125 => 171 | 258 => 170 | 128 => 232 | 129 => 233 | 302 => 223 | 303 => 224 | 304 => 225 | 305 => 226 | 306 => 227 | 307 => 228 | 308 => 229 | 309 => 230 | 310 => 231 | 333 => 265 | 329 => 266 | 330 => 267 | 334 => 268 | 335 => 269 | 336 => 270 | 344 => 288 | n => n, fun | 31 => 39 | 0 => 0 | 9 => 9 | 3 => 3 | 46 => 188 | 51 => 261 | 53 => 76 | 4 => 4 | 183 => 255 | 182 => 254 | 131 => 34 | 5 => 5 | 218 => 281 | 222 => 284 | 228 => 301 | 229 => 46 | n => n, fun | n => n⟩
theorem Tryz.lays192 : Go.Proofs.Lays.n192 Tryz.prog Tryz.lays192_ren := {
  mixed := by kernel_rfl
  f125 := Tryz.func171.trans (congrArg some (by kernel_rfl))
  f128 := Tryz.func232.trans (congrArg some (by kernel_rfl))
  f129 := Tryz.func233.trans (congrArg some (by kernel_rfl))
  f190 := Tryz.func86.trans (congrArg some (by kernel_rfl))
  f192 := Tryz.func148.trans (congrArg some (by kernel_rfl))
  f258 := Tryz.func170.trans (congrArg some (by kernel_rfl))
  f302 := Tryz.func223.trans (congrArg some (by kernel_rfl))
  f303 := Tryz.func224.trans (congrArg some (by kernel_rfl))
  f304 := Tryz.func225.trans (congrArg some (by kernel_rfl))
  f305 := Tryz.func226.trans (congrArg some (by kernel_rfl))
  f306 := Tryz.func227.trans (congrArg some (by kernel_rfl))
  f307 := Tryz.func228.trans (congrArg some (by kernel_rfl))
  f308 := Tryz.func229.trans (congrArg some (by kernel_rfl))
  f309 := Tryz.func230.trans (congrArg some (by kernel_rfl))
  f310 := Tryz.func231.trans (congrArg some (by kernel_rfl))
  f329 := Tryz.func266.trans (congrArg some (by kernel_rfl))
  f330 := Tryz.func267.trans (congrArg some (by kernel_rfl))
  f333 := Tryz.func265.trans (congrArg some (by kernel_rfl))
  f334 := Tryz.func268.trans (congrArg some (by kernel_rfl))
  f335 := Tryz.func269.trans (congrArg some (by kernel_rfl))
  f336 := Tryz.func270.trans (congrArg some (by kernel_rfl))
  f344 := Tryz.func288.trans (congrArg some (by kernel_rfl))
  t0 := Tryz.underlying0
  a0 := Tryz.isAgg0
  z0 := Tryz.sizeOf0
  v0 := Tryz.zeroValue0
  t3 := Tryz.underlying3
  a3 := Tryz.isAgg3
  z3 := Tryz.sizeOf3
  v3 := Tryz.zeroValue3
  t4 := Tryz.underlying4
  a4 := Tryz.isAgg4
  z4 := Tryz.sizeOf4
  v4 := Tryz.zeroValue4
  t5 := Tryz.underlying5
  a5 := Tryz.isAgg5
  z5 := Tryz.sizeOf5
  v5 := Tryz.zeroValue5
  t9 := Tryz.underlying9
  a9 := Tryz.isAgg9
  z9 := Tryz.sizeOf9
  v9 := Tryz.zeroValue9
  t31 := Tryz.underlying39
  a31 := Tryz.isAgg39
  z31 := Tryz.sizeOf39
  v31 := Tryz.zeroValue39
  t46 := Tryz.underlying188
  a46 := Tryz.isAgg188
  z46 := Tryz.sizeOf188
  v46 := Tryz.zeroValue188
  t51 := Tryz.underlying261
  a51 := Tryz.isAgg261
  z51 := Tryz.sizeOf261
  v51 := Tryz.zeroValue261
  t53 := Tryz.underlying76
  a53 := Tryz.isAgg76
  z53 := Tryz.sizeOf76
  v53 := Tryz.zeroValue76
  t131 := Tryz.underlying34
  a131 := Tryz.isAgg34
  z131 := Tryz.sizeOf34
  v131 := Tryz.zeroValue34
  t182 := Tryz.underlying254
  a182 := Tryz.isAgg254
  z182 := Tryz.sizeOf254
  v182 := Tryz.zeroValue254
  t183 := Tryz.underlying255
  a183 := Tryz.isAgg255
  z183 := Tryz.sizeOf255
  v183 := Tryz.zeroValue255
  t218 := Tryz.underlying281
  a218 := Tryz.isAgg281
  z218 := Tryz.sizeOf281
  v218 := Tryz.zeroValue281
  t222 := Tryz.underlying284
  a222 := Tryz.isAgg284
  z222 := Tryz.sizeOf284
  v222 := Tryz.zeroValue284
  t228 := Tryz.underlying301
  a228 := Tryz.isAgg301
  z228 := Tryz.sizeOf301
  v228 := Tryz.zeroValue301
  t229 := Tryz.underlying46
  a229 := Tryz.isAgg46
  z229 := Tryz.sizeOf46
  v229 := Tryz.zeroValue46 }
theorem Tryz.sort_Strings (blk off cap : Nat) (ss : List (List UInt8)) (w : World) (hH : Holds encStr w blk off ss.toArray) (hblk : blk < w.heap.size) (hsz : ss.length < 4611686018427387904) :
    Calls Tryz.prog 148 #[.slice (some ⟨blk, off, none⟩) ss.length cap] w fun e w' =>
      e = .returned (.tuple #[]) ∧ ∃ n os, w' = grow (putRow encStr (Sort.ahead w n) blk off (ss.mergeSort fun x y => decide (x ≤ y)).toArray) os := Any.sort_Strings Tryz.lays192 blk off cap ss w hH hblk hsz
end Go.Proofs
namespace Go.Proofs.YthojmgjgmbnopaaGreatDoor
open Go Go.RowKit Go.ChangeMaps
/-! names, Keys, Len. -/
theorem Row.fresh2 {o' : Roles} {w w' : World} {r t : List Nat} {a n sz : Nat} {e : TypeId} {v : Value} {xs : List Value} (h : Row o' w' r e sz v n xs) (h0 : r ≠ []) (st : Stp (a :: t) none0 w o' w') : Fresh w w' e sz v n xs := by
  refine ⟨?_, st.below0⟩
  rcases h.own.2 with h1 | ⟨g, cap, cur, h1, h2, h3, rest⟩
  · exact ⟨h.own.1, .inl h1⟩
  · refine ⟨h.own.1, .inr ⟨g, cap, cur, h1, ?_, h3, rest⟩⟩
    rcases Nat.lt_or_ge g w.heap.size with hg | hg
    · have e1 := h.role g (by simp [h1, Value.ownBlock])
      rw [st.old g hg] at e1
      exact absurd e1.symm h0
    · exact hg
theorem MBlk.entries {o : Roles} {w : World} {r : List Nat} {b : Nat} {kvs : KV} (h : MBlk o w r b kvs) : ∃ es clock, w.heap[b]? = some (.map es clock) ∧ MOk es.toList clock ∧ es.size = kvs.length ∧ (∀ e ∈ es.toList, ∃ x u, e.key = txt x ∧ e.val = u) ∧ es.toList.map (fun e => e.key) = (kvs.map Prod.fst).map txt := by
  obtain ⟨es, clock, hb, hes, hok⟩ := h.heap
  have hlen : es.toList.length = kvs.length := by have := congrArg List.length hes; simpa using this
  refine ⟨es, clock, hb, hok, by simpa using hlen, fun e he => ?_, ?_⟩
  · have : (e.key, e.val) ∈ kvs.map (fun p => (txt p.1, p.2)) := by rw [← hes]; exact List.mem_map.2 ⟨e, he, rfl⟩
    obtain ⟨p, _, hp⟩ := List.mem_map.1 this
    exact ⟨p.1, _, (congrArg Prod.fst hp).symm, rfl⟩
  · have := congrArg (List.map Prod.fst) hes
    rw [List.map_map, List.map_map] at this
    rw [List.map_map]
    exact this
/-- One entry is handed out: it, and no other, is left no more. -/
theorem left_split {es : Array MapEntry} {seen : Array Nat} {clock : Nat} (hok : MOk es.toList clock) {e : MapEntry} (he : e ∈ (leftOf es seen).toList) : ∃ A B, (leftOf es seen).toList = A ++ e :: B ∧ (leftOf es (seen.push e.born)).toList = A ++ B := by
  obtain ⟨A, B, hAB⟩ := List.append_of_mem he
  refine ⟨A, B, hAB, ?_⟩
  have h1 : (leftOf es (seen.push e.born)).toList = (leftOf es seen).toList.filter fun x => decide (x.born ≠ e.born) := by
    unfold leftOf
    rw [Array.toList_filter, Array.toList_filter, List.filter_filter]
    congr 1
    funext x
    rw [Array.contains_push]
    by_cases hx : x.born = e.born
    · simp [hx]
    · simp [hx]
  have hnd : ((leftOf es seen).toList.map (·.born)).Nodup := by
    unfold leftOf
    rw [Array.toList_filter]
    exact hok.2.sublist ((List.filter_sublist).map _)
  rw [h1, hAB]
  rw [hAB, List.map_append, List.map_cons, List.nodup_append, List.nodup_cons] at hnd
  rw [List.filter_append, List.filter_cons, if_neg (by simp)]
  congr 1
  · rw [List.filter_eq_self]
    intro x hx
    have := hnd.2.2 x.born (List.mem_map_of_mem hx) e.born (by simp)
    simpa using this
  · rw [List.filter_eq_self]
    intro x hx
    have := hnd.2.1.1
    simp only [decide_eq_true_eq]
    intro e1
    exact this (e1 ▸ List.mem_map_of_mem hx)
theorem left_none (es : Array MapEntry) : (leftOf es #[]).toList = es.toList := by
  unfold leftOf
  rw [Array.toList_filter]
  simp
theorem msort_asc {l : List Tx} (h : l.Nodup) : (l.mergeSort fun x y => decide (x ≤ y)) = ofL l := by
  refine Asc.ext ?_ (ofL_asc l) fun x => by rw [msort_mem, ofL_mem]
  have hn : (l.mergeSort fun x y => decide (x ≤ y)).Nodup := (List.mergeSort_perm l _).nodup_iff.2 h
  have h2 := List.pairwise_and_iff.2 ⟨msort_sorted l, hn⟩
  refine h2.imp fun {a b} hab => ?_
  rcases less_total a b with k | k | k
  · exact k
  · exact absurd k hab.2
  · rw [show ltB b a = true from k] at hab; cases hab.1
theorem run_len_map {P : Program} {w : World} {t kt e : TypeId} {b : Nat} {es : Array MapEntry} {clock : Nat} (hb : w.heap[b]? = some (.map es clock)) (ht : P.underlying t = some (.map kt e)) (ty : TypeId) : (Builtin.len_ #[t] ty #[.map (some b)]).run P w = .ok (.int .i64 es.size) w := by
  simp [Builtin.len_, run_underlying ht, MapKept.run_getObj_map hb, Result.andThen, goInt]
theorem lit_below0 (w : World) (x : Obj) : Below w.heap.size w (w.alloc x) := (Below.refl _ _).alloc (Nat.le_refl _) _
def NmRel (w : World) (m r : Nat) (ks : List Tx) (es : Array MapEntry) (clock : Nat) (v : Value) (wr : World) : Prop :=
  ∃ seen L R o' g cap, v = .slice (some ⟨g, 0, none⟩) L.length cap ∧ wr.heap[m]? = some (.map es clock) ∧ wr.heap[r]? = some (.mapIter (some m) clock seen clock) ∧ Row o' wr [9, 0] 9 1 v L.length ((L : List (List UInt8)).map txt) ∧ o' r = [9, 1] ∧ (leftOf es seen).toList.map (fun e => e.key) = (R : List Tx).map txt ∧ (L ++ R).Perm ks ∧ Stp [9] none0 w o' wr
def NamesDid (w : World) (K : List Tx) (e : Ending) (w' : World) : Prop := ∃ g cap, e = .returned (.slice (some ⟨g, 0, none⟩) K.length cap) ∧ Fresh w w' 9 1 (.slice (some ⟨g, 0, none⟩) K.length cap) K.length (K.map txt)
section
variable {o : Roles} {w : World} {q : List Nat} {p m d a : Nat} {c : Cnt} {kvs : KV} {S : SP}
set_option maxRecDepth 10000 in
set_option maxHeartbeats 4000000 in
theorem snames_ok (h : SpR o w q p m d a kvs S c) (hn : kvs.length ≤ 1099511627776) : Calls Tryz.prog 79 #[.pointer (some ⟨p, 0, none⟩)] w (NamesDid w (ofL (kvs.map Prod.fst))) := by
  obtain ⟨es, clock, hb, hok, hsz, hent, hke⟩ := h.keys.entries
  have hnd := h.nodup
  have hlen := run_len_map (P := Tryz.prog) hb (Tryz.underlying115)
  have hc := h.blk.cell
  have hml := h.keys.lt
  have hpl := h.blk.lt
  obtain ⟨i0, hi0, hz0, hz1, hz2⟩ := info_parts infoS
  rw [hsz] at hlen
  obtain ⟨ks, hks⟩ : ∃ ks, ks = kvs.map Prod.fst := ⟨_, rfl⟩
  have hkl : ks.length = kvs.length := by rw [hks]; simp
  rw [← hks] at hke hnd ⊢
  rw [← hkl] at hlen hn hsz
  clear hks hkl
  have HKE := Lib.hid hke
  have HND := Lib.hid hnd
  generalize hN : ks.length = N at *
  have HOK := Lib.hid hok
  have HENT := Lib.hid hent
  have HSZ := Lib.hid hsz
  have HB := Lib.hid hb
  clear h hok hent hsz hb hke hnd
  go_enter Tryz.func79, Tryz.ntmps79
  go_wp2_with (
    refine wpList_make_own _ rfl _ _ 39 rfl w.heap.size 9 i0 (.string ⟨#[]⟩) 1 Tryz.underlying39 hi0 hz0 hz1 .i64 .i64 _ N rfl rfl rfl (by rw [hz2]; omega) (by unfold maxLen; omega) (Nat.le_refl _) ?_
    intro w3 hown hgr
    have hB3 : Below w.heap.size w w3 := ⟨hgr.os, hgr.tape, hgr.output, hgr.size, fun b hb => hgr.block b hb (by simp)⟩
    have hc3 : ∀ k, w3.cell? ⟨p, k, none⟩ = (spC m d c.num a)[k]? := fun k => by rw [(bcell hB3).1 _ _ hpl]; exact hc k
    have hb3 : w3.heap[m]? = some (.map es clock) := by rw [hB3.block m hml]; exact HB.out
    have hrg := run_range_map (P := Tryz.prog) w3 115 _ _ m es clock (Tryz.underlying115) hb3
    have HB3 := Lib.hid hB3
    have HM3 := Lib.hid hb3
    have HOWN := Lib.hid hown
    clear hB3 hb3 hown hgr)
  have hat : NmRel w m w3.heap.size ks es clock (.slice (some ⟨w.heap.size, 0, none⟩) 0 N) (w3.alloc (.mapIter (some m) clock #[] clock)) := by
    have h3 : Row (none0.put w.heap.size [9, 0]) w3 [9, 0] 9 1 (.slice (some ⟨w.heap.size, 0, none⟩) 0 N) 0 (([] : List (List UInt8)).map txt) := by
      rcases HOWN.out.2 with ⟨h1, _⟩ | ⟨g, cap, cur, h1, h2, rest⟩
      · cases h1
      · refine ⟨⟨HOWN.out.1, .inr ⟨g, cap, cur, h1, Nat.zero_le _, rest⟩⟩, fun k hk => ?_⟩
        simp only [Value.ownBlock, Option.some.injEq] at hk
        subst hk; exact Roles.put_same _ _ _
    have s3 : Stp [9] none0 w (none0.put w.heap.size [9, 0]) w3 := (Stp.ofBelow [9] none0 HB3.out).name w.heap.size [9, 0] (Nat.le_refl _)
    refine ⟨#[], [], ks, _, w.heap.size, N, rfl, ?_, heap_alloc_new _ _, h3.alloc _ _ [9, 1] rfl, Roles.put_same _ _ _, by rw [left_none]; exact HKE.out, List.Perm.refl _, s3.alloc (r' := [9, 1]) _ _ rfl⟩
    rw [(lit_below0 w3 _).block m (Nat.lt_of_lt_of_le hml HB3.out.size)]; exact HM3.out
  go_loopw [3] (fun v wr => NmRel w m w3.heap.size ks es clock v wr) (fun _ w' => w'.rangeLeft m w3.heap.size)
  case atStart => exact hat
  case round =>
    clear hat
    obtain ⟨seen, L, R, o1, g, cap, rfl, hbr, hr, hrow, hor, hlr, hperm, hst⟩ := hrel
    have hle : L.length + R.length = N := by rw [← hN, ← hperm.length_eq, List.length_append]
    have hlz : (leftOf es seen).size = R.length := by have := congrArg List.length hlr; simpa using this
    have hlf : wr.rangeLeft m w3.heap.size = (leftOf es seen).size := by unfold World.rangeLeft; rw [hbr, hr]
    rcases run_next_at (P := Tryz.prog) wr 0 w3.heap.size m clock clock seen es clock hr hbr HOK.out.1 (Nat.le_refl _) with ⟨h0, hrun⟩ | ⟨e, he, w1, hal, hrun⟩
    · have hrn : ∀ ty, (Instr.next (.pointer (some ⟨w3.heap.size, 0, none⟩)) false ty).run Tryz.prog wr = .ok (.tuple #[.bool false]) wr := fun _ => hrun
      clear hrun
      have HROW := Lib.hid hrow
      have HST := Lib.hid hst
      have hR0 : R = [] := List.eq_nil_of_length_eq_zero (by omega)
      have HN0 := Lib.hid (show L.Perm ks from by rw [hR0, List.append_nil] at hperm; exact hperm)
      have hLn : L.length ≤ 1099511627776 := by omega
      have hsort := Tryz.sort_Strings g 0 cap L wr (by
        intro j hj
        have hj' : j < L.length := by simpa using hj
        obtain ⟨g2, c2, e2, _, hc2, hf2⟩ := hrow.at (k := j) (by omega)
        injection e2 with e3 _ _
        injection e3 with e3
        injection e3 with e3 _ _
        subst e3
        rw [Nat.zero_add]
        refine ⟨?_, hf2⟩
        rw [hc2, List.getElem?_map, List.getElem?_eq_getElem hj']
        simp [txt, encStr, hj']) (hrow.lt g rfl) (by omega)
      have HSO := Lib.hid hsort
      clear hrow hst hle hlz hR0 hperm hlr hsort hr hbr hlf hor hc HB HOWN HM3 HB3
      go_wp2_with fail
      refine HSO.out.mono ?_; rintro e w5 ⟨rfl, n, os, rfl⟩
      have D : NamesDid w (ofL ks) (.returned (.slice (some ⟨g, 0, none⟩) L.length cap)) (Sort.grow (Sort.putRow encStr (Sort.ahead wr n) g 0 (L.mergeSort fun x y => decide (x ≤ y)).toArray) os) := by
        have hml : (L.mergeSort fun x y => decide (x ≤ y)).length = L.length := List.length_mergeSort _
        have hso : (L.mergeSort fun x y => decide (x ≤ y)) = ofL ks := by
          rw [msort_asc (HN0.out.nodup_iff.2 HND.out)]
          exact ofL_congr fun x => HN0.out.mem_iff
        have hfr := HROW.out.fresh2 (by decide) HST.out
        rcases hfr.own.2 with ⟨h1, _⟩ | ⟨g2, cap2, cur, h1, h2, h3, h4, h5, h6, h7⟩
        · cases h1
        · injection h1 with e1 _ e3
          injection e1 with e1
          injection e1 with e1 _ _
          subst e1 e3
          have hown := ownsRow_sorted (os := os) (n := n) (ts := L.mergeSort fun x y => decide (x ≤ y)) (ss := L) hml h2 h3 h4 h5 h6
          have hgr := grownBy_sorted (w := wr) (g := g) (n := n) (os := os) (L.mergeSort fun x y => decide (x ≤ y)).toArray
          have hfin : Fresh w (Sort.grow (Sort.putRow encStr (Sort.ahead wr n) g 0 (L.mergeSort fun x y => decide (x ≤ y)).toArray) os) 9 1 (.slice (some ⟨g, 0, none⟩) L.length cap) L.length ((L.mergeSort fun x y => decide (x ≤ y)).map txt) :=
            ⟨hown, hfr.below.trans ⟨hgr.os, hgr.tape, hgr.output, hgr.size, fun b hb => hgr.block b (Nat.lt_of_lt_of_le hb hfr.below.size) (by simp; omega)⟩⟩
          have hlo : (ofL ks).length = L.length := by rw [← hso]; exact hml
          rw [hso] at hfin ⊢
          exact ⟨g, cap, by rw [hlo], by rw [hlo]; exact hfin⟩
      have HD := Lib.hid D
      clear D HROW HST HSO HKE HND HN0
      go_wp2_with fail
      go_ret
      exact HD.out
    · have hrn : ∀ ty, (Instr.next (.pointer (some ⟨w3.heap.size, 0, none⟩)) false ty).run Tryz.prog wr = .ok (.tuple #[.bool true, e.key, e.val]) (setBlock w1 w3.heap.size (.mapIter (some m) clock (seen.push e.born) clock)) := fun _ => hrun
      obtain ⟨hem, _⟩ := mem_left he
      have hlt := left_shrinks es seen e he
      obtain ⟨A, B, hA, hB⟩ := left_split HOK.out (by simpa using he)
      obtain ⟨x, u, hk, hv⟩ := HENT.out e hem
      have hB1 : Below wr.heap.size wr w1 := by rcases hal with rfl | rfl; exact Below.refl _ _; exact (Below.refl _ _).drew
      have hrl : w3.heap.size < wr.heap.size := (Array.getElem?_eq_some_iff.1 hr).1
      have hrl1 : w3.heap.size < w1.heap.size := Nat.lt_of_lt_of_le hrl hB1.size
      have hrow1 : Row o1 w1 [9, 0] 9 1 _ _ _ := hrow.below hB1
      have hst1 := hst.trans (Stp.ofBelow [9] o1 hB1)
      have hbm1 : w1.heap[m]? = some (.map es clock) := by rw [hB1.block m (Array.getElem?_eq_some_iff.1 hbr).1]; exact hbr
      have hom : o1 m = [] := by rw [hst.old m hml]; rfl
      have hne : m ≠ w3.heap.size := fun e => by rw [e, hor] at hom; cases hom
      have hs2 : Stp [9, 1] o1 w1 o1 (setBlock w1 w3.heap.size (.mapIter (some m) clock (seen.push e.born) clock)) := (Stp.refl [9, 1] o1 w1).setBlk (by rw [hor]; exact List.prefix_refl _) hrl1 _
      have hr2 : (setBlock w1 w3.heap.size (.mapIter (some m) clock (seen.push e.born) clock)).heap[w3.heap.size]? = some (.mapIter (some m) clock (seen.push e.born) clock) := by rw [setBlock_heap hrl1, if_pos rfl]
      have hm2 : (setBlock w1 w3.heap.size (.mapIter (some m) clock (seen.push e.born) clock)).heap[m]? = some (.map es clock) := by rw [setBlock_heap hrl1, if_neg hne]; exact hbm1
      have hrow2 := hrow1.keep hs2 (by decide)
      have hst2 := hst1.trans (hs2.wide (by decide))
      have hen := run_entry_at (P := Tryz.prog) _ w3.heap.size m clock seen es clock e hr2 hm2 hem HOK.out.2
      rw [hk, hv] at hrn hen
      obtain ⟨W2, hW2⟩ : ∃ W2, W2 = setBlock w1 w3.heap.size (.mapIter (some m) clock (seen.push e.born) clock) := ⟨_, rfl⟩
      rw [← hW2] at hrn hen hr2 hm2 hrow2 hst2
      have HROW := Lib.hid (hrow2.below (lit_below0 W2 (.cells #[txt x] 9)))
      have HSRC := Lib.hid ((vw_new1 W2 x 9).src (P := Tryz.prog) Tryz.underlying39 (one_list [x]))
      have hrl2 : w3.heap.size < W2.heap.size := (Array.getElem?_eq_some_iff.1 hr2).1
      have hml2 : m < W2.heap.size := (Array.getElem?_eq_some_iff.1 hm2).1
      have HST := Lib.hid (hst2.trans (Stp.ofBelow [9] o1 (lit_below0 W2 (.cells #[txt x] 9))))
      have HR2 := Lib.hid hr2
      have HM2 := Lib.hid hm2
      have HOR := Lib.hid hor
      have HOM := Lib.hid hom
      obtain ⟨RA, RB, hRAB, hRA, hRB⟩ : ∃ RA RB, R = RA ++ x :: RB ∧ A.map (fun e => e.key) = RA.map txt ∧ B.map (fun e => e.key) = RB.map txt := by
        rw [hA, List.map_append, List.map_cons, hk] at hlr
        obtain ⟨RA, R2, h1, h2, h3⟩ := List.map_eq_append_iff.1 hlr.symm
        obtain ⟨y, RB, h4, h5, h6⟩ := List.map_eq_cons_iff.1 h3
        refine ⟨RA, RB, ?_, h2.symm, h6.symm⟩
        rw [h1, h4, txt_inj.1 h5]
      have HPR := Lib.hid (show (leftOf es (seen.push e.born)).toList.map (fun e => e.key) = (RA ++ RB).map txt ∧ ((L ++ [x]) ++ (RA ++ RB)).Perm ks from by
        refine ⟨by rw [hB, List.map_append, hRA, hRB, List.map_append], ?_⟩
        refine List.Perm.trans ?_ hperm
        rw [hRAB, List.append_assoc]
        refine List.Perm.append_left L ?_
        exact (show (x :: (RA ++ RB)).Perm (RA ++ x :: RB) from List.perm_middle.symm))
      have HLT := Lib.hid hlt
      have HLE := Lib.hid (show L.length + 1 ≤ N from by rw [hRAB] at hle; simp at hle; omega)
      have HLF := Lib.hid hlf
      clear hrun hrow hst hr hbr hrow1 hst1 hbm1 hs2 hrow2 hst2 hr2 hm2 hor hom hlt hle hlz hlf hlr hperm hRAB hRA hRB hA hB hW2 he hal hB1 hrl hrl1 hk hv hc HOWN HM3 HB hne
      unfold txt at hrn hen
      have hLN : L.length + 1 ≤ 1099511627777 := by have := HLE.out; omega
      go_wp2_with (
        at_builtin
        refine wpList_app _ rfl _ _ 39 39 rfl 9 i0 _ 1 16 Tryz.underlying39 hi0 hz0 hz1 hz2 rfl rfl HROW.out rfl HSRC.out (by unfold maxLen; omega) (by omega) ?_
        intro v' w5 o5 hrow5 hst5
        obtain ⟨g5, c5, rfl, _⟩ := hrow5.at (k := 0) (by omega)
        have hr5 : w5.heap[w3.heap.size]? = some (.mapIter (some m) clock (seen.push e.born) clock) := by
          rw [hst5.block w3.heap.size (by simp; omega) (by rw [HOR.out]; decide), (lit_below0 W2 _).block _ hrl2]; exact HR2.out
        have hm5 : w5.heap[m]? = some (.map es clock) := by
          rw [hst5.block m (by simp; omega) (by rw [HOM.out]; decide), (lit_below0 W2 _).block _ hml2]; exact HM2.out
        have D := Lib.hid (show NmRel w m w3.heap.size ks es clock (.slice (some ⟨g5, 0, none⟩) (L.length + 1) c5) w5 from
          ⟨seen.push e.born, L ++ [x], RA ++ RB, o5, g5, c5, by simp, hm5, hr5, by simpa using hrow5, by rw [hst5.old w3.heap.size (by simp; omega)]; exact HOR.out, HPR.out.1, HPR.out.2, HST.out.trans (hst5.wide (by decide))⟩)
        have HM5 := Lib.hid (show w5.rangeLeft m w3.heap.size < wr.rangeLeft m w3.heap.size by rw [HLF.out]; unfold World.rangeLeft; rw [hm5, hr5]; exact HLT.out)
        clear hrow5 hst5 hr5 hm5 HROW HSRC)
      go_roundw
      case rel => exact D.out
      case measure => exact HM5.out
end
end Go.Proofs.YthojmgjgmbnopaaGreatDoor
namespace Go.Proofs.YthojmgjgmbnopaaGreatDoor
open Go Go.RowKit Go.ChangeMaps
/-! Keys, Len. -/
theorem cut_to {P : Program} {t e : TypeId} {i0 : TypeInfo} (ht : P.underlying t = some (.slice e)) (hi : P.info? e = some i0) {a : Option Addr} {n N cap : Nat} (h : n ≤ cap) (W : World) :
    (Instr.slice t (.slice a N cap) none (some (.int .i64 n)) (some (.int .i64 n))).run P W = .ok (.slice a n n) W := by
  have ha : a.map (fun x => x.add 0) = a := by cases a <;> simp [Addr.add]
  simp [Instr.slice, run_underlying ht, Instr.sliceBounds, Instr.sliceBound, asIntOf, sizeOf, typeInfo, hi]
  rw [if_pos (by omega)]
  simp [ha]
def KyRel (w : World) (g : Nat) (P : Tx → Bool) (L : List Tx) (n i : Value) (wr : World) : Prop :=
  ∃ (k r : Nat) (M : List Tx), k ≤ L.length ∧ M.length = L.length ∧ r = ((L.take k).filter P).length ∧ n = .int .i64 (r : Int) ∧ i = .int .i64 (k : Int) ∧ Below w.heap.size w wr ∧ (∀ j x, M[j]? = some x → wr.cell? ⟨g, j, none⟩ = some (txt x)) ∧ (∀ j, j < L.length → wr.frozen? ⟨g, j, none⟩ = false) ∧ M.take r = (L.take k).filter P ∧ M.drop k = L.drop k
theorem ky_step {P : Tx → Bool} {L M : List Tx} {k r : Nat} {x : Tx} (hx : L[k]? = some x) (hr : r = ((L.take k).filter P).length) (hM : M.length = L.length) (h1 : M.take r = (L.take k).filter P) (h2 : M.drop k = L.drop k) :
    (P x = true → r + 1 = ((L.take (k + 1)).filter P).length ∧ (M.set r x).take (r + 1) = (L.take (k + 1)).filter P ∧ (M.set r x).drop (k + 1) = L.drop (k + 1)) ∧ (P x = false → r = ((L.take (k + 1)).filter P).length ∧ M.take r = (L.take (k + 1)).filter P ∧ M.drop (k + 1) = L.drop (k + 1)) ∧ r ≤ k ∧ M[k]? = some x := by
  have hk : k < L.length := (List.getElem?_eq_some_iff.1 hx).1
  have hrk : r ≤ k := by rw [hr]; refine Nat.le_trans (List.length_filter_le _ _) ?_; simp; omega
  have e1 : L.take (k + 1) = L.take k ++ [x] := by rw [List.take_add_one, hx]; rfl
  have hd : M.drop (k + 1) = L.drop (k + 1) := by
    have := congrArg (List.drop 1) h2
    rwa [List.drop_drop, List.drop_drop] at this
  refine ⟨fun hp => ?_, fun hp => ?_, hrk, ?_⟩
  · have ef : (L.take (k + 1)).filter P = (L.take k).filter P ++ [x] := by rw [e1, List.filter_append]; simp [hp]
    rw [ef]
    refine ⟨by simp [hr], ?_, ?_⟩
    · rw [List.take_add_one, List.take_set_of_le (Nat.le_refl _), h1, List.getElem?_set_self (by omega)]; rfl
    · rw [List.drop_set_of_lt (by omega)]; exact hd
  · have ef : (L.take (k + 1)).filter P = (L.take k).filter P := by rw [e1, List.filter_append]; simp [hp]
    rw [ef]
    exact ⟨hr, h1, hd⟩
  · have : (M.drop k)[0]? = (L.drop k)[0]? := by rw [h2]
    rwa [List.getElem?_drop, List.getElem?_drop, Nat.add_zero, hx] at this
theorem mfind_has {kvs : KV} {k : List UInt8} (h : k ∈ kvs.map Prod.fst) : mfind kvs k ≠ none := by
  induction kvs with
  | nil => cases h
  | cons p t ih =>
    obtain ⟨q, u⟩ := p
    unfold mfind
    split
    · simp
    · rename_i hne
      exact ih (by simp at h; rcases h with h | h; exact absurd h hne; simpa using h)
theorem mfind_in {kvs : KV} {k : List UInt8} (h : mfind kvs k ≠ none) : k ∈ kvs.map Prod.fst := by
  induction kvs with
  | nil => exact absurd rfl h
  | cons p t ih =>
    obtain ⟨q, u⟩ := p
    unfold mfind at h
    split at h
    · rename_i e; subst e; simp
    · have := ih h
      simp only [List.map_cons, List.mem_cons]; exact .inr this
section
variable {o : Roles} {w : World} {q : List Nat} {p m d a : Nat} {c : Cnt} {kvs : KV} {S : SP}
theorem look_has (h : SpR o w q p m d a kvs S c) {k : List UInt8} (hk : k ∈ kvs.map Prod.fst) : ∃ H a1 n1 c1 a2 n2 c2 a3 n3 c3, S k = some H ∧ ∀ W, Below w.heap.size w W → (Instr.lookup 115 (.map (some m)) (txt k) false).run Tryz.prog W = .ok (hdV H (.slice a1 n1 c1) (.slice a2 n2 c2) (.slice a3 n3 c3)) W := by
  have hv := h.vals k
  cases hm : mfind kvs k with
  | none => exact absurd hm (mfind_has hk)
  | some u =>
    rw [hm] at hv
    cases hS : S k with
    | none => rw [hS] at hv; exact hv.elim
    | some H =>
      rw [hS] at hv
      obtain ⟨l, f, r, rfl, hv3, _⟩ := hv
      obtain ⟨a1, c1, rfl, _⟩ := hv3.list.slice
      obtain ⟨a2, c2, rfl, _⟩ := hv3.fields.slice
      obtain ⟨a3, c3, rfl, _⟩ := hv3.ranked.slice
      refine ⟨H, a1, H.v.list.length, c1, a2, H.v.fields.length, c2, a3, H.v.ranked.length, c3, rfl, fun W hW => ?_⟩
      have := run_look (P := Tryz.prog) (h.keys.below hW) Tryz.underlying115 Tryz.underlying9 k false (zeroHd _)
      rw [hm] at this
      exact this
def KeysDid (w : World) (K : List Tx) (e : Ending) (w' : World) : Prop := ∃ a, e = .returned (.slice a K.length K.length) ∧ Vw (fun b => w.heap.size ≤ b) w' (.slice a K.length K.length) 1 K.length (K.map txt) ∧ Below w.heap.size w w'
set_option maxRecDepth 10000 in
set_option maxHeartbeats 4000000 in
theorem skeys_ok (h : SpR o w q p m d a kvs S c) (hn : kvs.length ≤ 1099511627776) (now : Int) : Calls Tryz.prog 42 #[.pointer (some ⟨p, 0, none⟩), .int .i64 now] w (KeysDid w ((ofL (kvs.map Prod.fst)).filter fun x => (S.at now x).isSome)) := by
  have hnm := snames_ok h hn
  have HH := Lib.hid h
  obtain ⟨i0, hi0, hz0, hz1, hz2⟩ := info_parts infoS
  have hmem : ∀ x ∈ ofL (kvs.map Prod.fst), x ∈ kvs.map Prod.fst := fun x hx => (ofL_mem x _).1 hx
  have hLl : (ofL (kvs.map Prod.fst)).length ≤ 1099511627776 := Nat.le_trans (ofL_len _) (by simpa using hn)
  obtain ⟨L, hL⟩ : ∃ L, L = ofL (kvs.map Prod.fst) := ⟨_, rfl⟩
  rw [← hL] at hnm hmem hLl ⊢
  obtain ⟨P, hP⟩ : ∃ P : Tx → Bool, P = fun x => (S.at now x).isSome := ⟨_, rfl⟩
  rw [← hP]
  have HP := Lib.hid hP
  have HN := Lib.hid hnm
  have HM := Lib.hid hmem
  clear h hnm hmem hP hL
  go_enter Tryz.func42, Tryz.ntmps42
  go_wp2_with fail
  refine HN.out.mono ?_; rintro e w1 ⟨g, cap, rfl, hF⟩
  have hgw : w.heap.size ≤ g ∧ L.length ≤ cap := by
    rcases hF.own.2 with ⟨h1, _⟩ | ⟨g2, cap2, cur, h1, h2, h3, h4, rest⟩
    · cases h1
    · injection h1 with e1 _ e3
      injection e1 with e1
      injection e1 with e1 _ _
      subst e1 e3
      exact ⟨h2, h4⟩
  have hcells : (∀ j x, L[j]? = some x → w1.cell? ⟨g, j, none⟩ = some (txt x)) ∧ (∀ j, j < L.length → w1.frozen? ⟨g, j, none⟩ = false) := by
    obtain ⟨o2, hrow, _⟩ := hF.row none0 []
    have hat : ∀ j, j < L.length → w1.cell? ⟨g, j, none⟩ = (L.map txt)[j]? ∧ w1.frozen? ⟨g, j, none⟩ = false := fun j hj => by
      obtain ⟨g2, c2, e2, _, hc2, hf2⟩ := hrow.at (k := j) (by omega)
      injection e2 with e3 _ _
      injection e3 with e3
      injection e3 with e3 _ _
      subst e3
      exact ⟨hc2, hf2⟩
    refine ⟨fun j x hj => ?_, fun j hj => (hat j hj).2⟩
    rw [(hat j (List.getElem?_eq_some_iff.1 hj).1).1, List.getElem?_map, hj]; rfl
  have hat : KyRel w g P L (.int .i64 0) (.int .i64 0) w1 := ⟨0, 0, L, Nat.zero_le _, rfl, rfl, rfl, rfl, hF.below, hcells.1, hcells.2, rfl, rfl⟩
  have HCUT := Lib.hid (fun (n : Nat) (hn : n ≤ cap) => cut_to (P := Tryz.prog) Tryz.underlying39 hi0 (a := some ⟨g, 0, none⟩) (N := L.length) hn)
  have HCAP := Lib.hid hgw.2
  have hgw := hgw.1
  clear hF hcells HN
  go_wp2_with fail
  go_loopw [6, 15] (fun n i wr => KyRel w g P L n i wr) (fun _ i _ => L.length - (intOf i).toNat)
  case atStart => exact hat
  case round =>
    clear hat
    obtain ⟨k, r, M, hk, hM, hr, rfl, rfl, hB, hcl, hfz, hm1, hm2⟩ := hrel
    by_cases hkl : k < L.length
    · obtain ⟨x, hx⟩ : ∃ x, L[k]? = some x := ⟨_, List.getElem?_eq_getElem hkl⟩
      obtain ⟨hst1, hst2, hrk, hMk⟩ := ky_step hx hr hM hm1 hm2
      have hc := hcl k x hMk
      obtain ⟨y, hy⟩ : ∃ y, M[r]? = some y := ⟨_, List.getElem?_eq_getElem (by omega)⟩
      have hcr := hcl r y hy
      have hf := hfz r (by omega)
      obtain ⟨⟨⟨kind, text, list, fields, ranked⟩, due, ver⟩, a1, n1, c1, a2, n2, c2, a3, n3, c3, hS, hlk⟩ := look_has HH.out (HM.out x (List.mem_of_getElem? hx))
      have hlk := hlk wr hB
      have hfd : ∀ W, (Instr.field 95 (hdV ⟨⟨kind, text, list, fields, ranked⟩, due, ver⟩ (.slice a1 n1 c1) (.slice a2 n2 c2) (.slice a3 n3 c3)) 1).run Tryz.prog W = .ok (.int .i64 due) W := fun W => by kernel_rfl
      have hkI : (0 : Int) ≤ k ∧ (k : Int) < L.length ∧ (0 : Int) ≤ r ∧ (r : Int) ≤ k := by omega
      have hpc := (HH.out.blk.below hB).cell
      have hpx : P x = !(due != 0 && decide (due ≤ now)) := by
        rw [HP.out]
        show (S.at now x).isSome = _
        rw [SP.at_over hS]
        unfold Hd.over
        dsimp only
        cases (due != 0 && decide (due ≤ now)) <;> rfl
      have HOV := Lib.hid (over_ok wr due now)
      rcases hbo : (due != 0 && decide (due ≤ now)) with _ | _
      · rw [hbo] at hpx
        obtain ⟨g1, g2, g3⟩ := hst1 hpx
        have D := Lib.hid (show KyRel w g P L (.int .i64 ((r : Int) + 1)) (.int .i64 ((k : Int) + 1)) (wr.setCell ⟨g, r, none⟩ (txt x)) from
          ⟨k + 1, r + 1, M.set r x, hkl, by simpa using hM, g1, by simp, by simp, hB.setCell hgw _, fun j y hj => by
            by_cases hjk : j = r
            · subst hjk
              rw [List.getElem?_set_self (by omega)] at hj
              cases hj
              exact World.cell?_setCell_same _ _ _ hcr
            · rw [World.cell?_setCell_other _ _ _ _ (by intro e; injection e with _ e2 _; exact hjk e2.symm)]
              rw [List.getElem?_set_ne (by omega)] at hj
              exact hcl j y hj, fun j hj => by rw [World.frozen?_setCell]; exact hfz j hj, g2, g3⟩)
        have hov := HOV.out
        rw [hbo] at hov
        have HOV := Lib.hid hov
        clear hov hcl hfz hB hx hbo hpx hst1 hst2 g1 g2 g3 hm1 hm2 hMk hy hS hr hM
        unfold txt at hc hcr hlk D
        go_wp2_with fail
        refine HOV.out.mono ?_; rintro e w2 ⟨rfl, rfl⟩
        go_wp2_with fail
        exact ⟨D.out, by simp [intOf]; omega⟩
      · rw [hbo] at hpx
        obtain ⟨g1, g2, g3⟩ := hst2 hpx
        have D := Lib.hid (show KyRel w g P L (.int .i64 (r : Int)) (.int .i64 ((k : Int) + 1)) wr from ⟨k + 1, r, M, hkl, hM, g1, rfl, by simp, hB, hcl, hfz, g2, g3⟩)
        have hov := HOV.out
        rw [hbo] at hov
        have HOV := Lib.hid hov
        clear hov hcl hfz hB hx hbo hpx hst1 hst2 g1 g2 g3 hm1 hm2 hMk hy hS hr hM
        unfold txt at hc hcr hlk
        go_wp2_with fail
        refine HOV.out.mono ?_; rintro e w2 ⟨rfl, rfl⟩
        go_wp2_with fail
        exact ⟨D.out, by simp [intOf]; omega⟩
    · obtain rfl : k = L.length := by omega
      rw [List.take_length] at hr hm1
      have hrL : r ≤ L.length := by rw [hr]; exact List.length_filter_le _ _
      have hcut := HCUT.out r (by have := HCAP.out; omega)
      have D : KeysDid w (L.filter P) (.returned (.slice (some ⟨g, 0, none⟩) r r)) wr := by
        rw [← hm1]
        have hl : (M.take r).length = r := by simp; omega
        refine ⟨some ⟨g, 0, none⟩, by rw [hl], ?_, hB⟩
        rw [hl]
        have hcx : ∀ j u, ((M.take r).map txt)[j]? = some u → wr.cell? ⟨g, 0 + j, none⟩ = some u := fun j u hj => by
          rw [List.getElem?_map, List.getElem?_take] at hj
          split at hj
          · cases hMj : M[j]? with
            | none => rw [hMj] at hj; cases hj
            | some y =>
              rw [hMj] at hj
              cases hj
              rw [Nat.zero_add]; exact hcl j y hMj
          · cases hj
        refine ⟨⟨_, _, rfl, Nat.le_refl _, by unfold maxLen; omega, ?_⟩, by simp; omega⟩
        rcases Nat.eq_zero_or_pos r with h0 | h0
        · exact .inl h0
        · have hM0 : M[0]? = some M[0] := List.getElem?_eq_getElem (by omega)
          exact .inr ⟨g, 0, rfl, cell_lt (hcl 0 _ hM0), hgw, hcx⟩
      have HD := Lib.hid D
      have hrI : (r : Int) ≤ cap := by have := HCAP.out; omega
      clear D hcl hfz hB HH hm1 hm2 hr HM HP
      go_wp2_with fail
      go_ret
      exact HD.out
def LenDid (w : World) (K : List Tx) (e : Ending) (w' : World) : Prop := e = .returned (.int .i64 K.length) ∧ Below w.heap.size w w'
theorem slen_ok (h : SpR o w q p m d a kvs S c) (hn : kvs.length ≤ 1099511627776) (now : Int) : Calls Tryz.prog 137 #[.pointer (some ⟨p, 0, none⟩), .int .i64 now] w (LenDid w ((ofL (kvs.map Prod.fst)).filter fun x => (S.at now x).isSome)) := by
  have hk := skeys_ok h hn now
  clear h
  generalize (ofL (kvs.map Prod.fst)).filter (fun x => (S.at now x).isSome) = K at hk ⊢
  have HK := Lib.hid hk
  clear hk
  go_enter Tryz.func137, Tryz.ntmps137
  go_wp2_with fail
  refine HK.out.mono ?_; rintro e w1 ⟨a1, rfl, _, hB⟩
  have HB := Lib.hid hB
  clear hB HK
  go_wp2_with fail
  go_ret
  exact ⟨rfl, HB.out⟩
end
theorem nodup_len {α : Type} [DecidableEq α] : ∀ {l K : List α}, l.Nodup → (∀ x ∈ l, x ∈ K) → l.length ≤ K.length
  | [], _, _, _ => Nat.zero_le _
  | x :: t, K, h, hs => by
    obtain ⟨h1, h2⟩ := List.nodup_cons.1 h
    have hx := hs x (by simp)
    have := nodup_len (l := t) (K := K.erase x) h2 (fun y hy => (List.mem_erase_of_ne (fun e => h1 (by rw [← e]; exact hy))).2 (hs y (by simp [hy])))
    rw [List.length_erase_of_mem hx] at this
    have : 0 < K.length := List.length_pos_of_mem hx
    simp
    omega
/-- How many keys are seen. -/
theorem jlen_ok {o : Roles} {w : World} {q : List Nat} {p : Nat} {c : Cnt} {S : SP} (h : SpJ o w q p S c) {Ks : List Tx} (hK : ∀ k, S k ≠ none → k ∈ Ks) (hn : Ks.length ≤ 1099511627776) (now : Int) :
    ∃ K, Asc K ∧ (∀ x, x ∈ K ↔ (S.at now x).isSome = true) ∧ Calls Tryz.prog 137 #[.pointer (some ⟨p, 0, none⟩), .int .i64 now] w (LenDid w K) := by
  obtain ⟨m, d, a, kvs, h⟩ := h
  have hiff : ∀ k, mfind kvs k = none ↔ S k = none := fun k => (h.vals k).none_iff
  have hl : kvs.length ≤ Ks.length := by
    have := nodup_len (l := kvs.map Prod.fst) (K := Ks) h.nodup (fun x hx => hK x (fun e => mfind_has hx ((hiff x).2 e)))
    simpa using this
  refine ⟨_, Asc.sub (ofL_asc _) List.filter_sublist, fun x => ?_, slen_ok h (by omega) now⟩
  rw [List.mem_filter, ofL_mem]
  constructor
  · exact fun hx => hx.2
  · intro hx
    refine ⟨mfind_in fun e => ?_, hx⟩
    rw [SP.at_none ((hiff x).1 e)] at hx
    cases hx
/-- The keys that are seen, named. -/
theorem jlen_is {o : Roles} {w : World} {q : List Nat} {p : Nat} {c : Cnt} {S : SP} (h : SpJ o w q p S c) {Ks : List Tx} (hK : ∀ k, S k ≠ none → k ∈ Ks) (hn : Ks.length ≤ 1099511627776) {now : Int} {K : List Tx} (ha : Asc K) (hm : ∀ x, x ∈ K ↔ (S.at now x).isSome = true) :
    Calls Tryz.prog 137 #[.pointer (some ⟨p, 0, none⟩), .int .i64 now] w (LenDid w K) := by
  obtain ⟨K', h1, h2, h3⟩ := jlen_ok h hK hn now
  have e : K' = K := h1.ext ha fun x => (h2 x).trans (hm x).symm
  rw [← e]; exact h3
end Go.Proofs.YthojmgjgmbnopaaGreatDoor
