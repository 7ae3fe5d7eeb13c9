import Derived.Test.YtoganolkgmilaaaGreatDoorXF
import Derived.Deep.RegionLaw
import Derived.Deep.DrawnRows
import Derived.Shelf.Abstract
import Derived.Sort.Walk0
import Derived.Lib.SlicesCompact
import Derived.Shelf.Slices.CompactS
import Derived.Shelf.Sort.Plain
import Derived.Shelf.Slices.In.SortNone
import Derived.Shelf.LaysC
import Derived.Shelf.LaysM
import Derived.Test.YtoganolkgmilaaaGreatDoorProg
namespace Go.Proofs.YtoganolkgmilaaaGreatDoor
open Go Go.RowKit
attribute [local go_sem ↓] Go.wp_at_zero Go.wp_at_succ
/-! Replies: their lists. -/
structure Rf where
  kind : Nat
  text : List UInt8
  n : Int
abbrev rfC (x : Rf) : List Value := [.int .i64 (x.kind : Int), .string ⟨x.text.toArray⟩, .int .i64 x.n, .slice none 0 0]
def rfsC (l : List Rf) : List Value := l.flatMap rfC
theorem rfsC_app (a b : List Rf) : rfsC (a ++ b) = rfsC a ++ rfsC b := by unfold rfsC; exact List.flatMap_append
theorem rfsC_len (l : List Rf) : (rfsC l).length = l.length * 4 := by
  unfold rfsC
  induction l with
  | nil => rfl
  | cons x t ih => simp only [List.flatMap_cons, List.length_append, List.length_cons, ih]; simp; omega
theorem rfsC_one (l : List Rf) : ∀ u ∈ rfsC l, u.oneCell' = true := by
  intro u hu
  obtain ⟨x, _, hx⟩ := List.mem_flatMap.1 hu
  simp [rfC] at hx
  rcases hx with rfl | rfl | rfl | rfl <;> rfl
def bulkF (s : List UInt8) : Rf := ⟨4, s, 0⟩
def numF (n : Int) : Rf := ⟨3, [], n⟩
def BulksRel (w : World) (l : List (List UInt8)) (i : Value) (wr : World) : Prop :=
  ∃ k v o', k ≤ l.length ∧ i = .int .i64 ((k : Nat) : Int) ∧ Blk o' wr [9, 1] (w.heap.size + 1) #[.int .i64 6, .string ⟨#[]⟩, .int .i64 0, v] 29 ∧ Blk o' wr [9, 2] w.heap.size #[.int .i64 0, .string ⟨#[]⟩, .int .i64 0, .slice none 0 0] 29 ∧ Row o' wr [9, 0] 29 4 v k (rfsC ((l.take k).map bulkF)) ∧ Stp [9] none0 w o' wr
theorem vw_newK (w : World) (cs : Array Value) (T : TypeId) (sz : Nat) (h : cs.size = sz) : Vw (fun b => b = w.heap.size) (w.alloc (.cells cs T)) (.slice (some ⟨w.heap.size, 0, none⟩) 1 1) sz 1 cs.toList := by
  refine ⟨⟨_, 1, rfl, Nat.le_refl _, by unfold maxLen; omega, .inr ⟨w.heap.size, 0, rfl, by simp, rfl, fun k u hk => ?_⟩⟩, by simp [h]⟩
  unfold World.cell?
  rw [show (w.alloc (.cells cs T)).heap[w.heap.size]? = some (.cells cs T (0, 0)) from heap_alloc_new w _]
  simpa using hk
theorem Row.fresh2 {o' : Roles} {w w' : World} {r t : List Nat} {a n sz : Nat} {e : TypeId} {v : Value} {xs : List Value} (h : Row o' w' r e sz v n xs) (h0 : r ≠ []) (st : Stp (a :: t) none0 w o' w') : Fresh w w' e sz v n xs := by
  refine ⟨?_, st.below0⟩
  rcases h.own.2 with h1 | ⟨g, cap, cur, h1, h2, h3, rest⟩
  · exact ⟨h.own.1, .inl h1⟩
  · refine ⟨h.own.1, .inr ⟨g, cap, cur, h1, ?_, h3, rest⟩⟩
    rcases Nat.lt_or_ge g w.heap.size with hg | hg
    · have e1 := h.role g (by simp [h1, Value.ownBlock])
      rw [st.old g hg] at e1
      exact absurd e1.symm h0
    · exact hg
def BulksDid (w : World) (l : List (List UInt8)) (e : Ending) (w' : World) : Prop := ∃ v, e = .returned (repV 6 [] 0 v) ∧ Fresh w w' 29 4 v l.length (rfsC (l.map bulkF))
set_option maxRecDepth 10000 in
set_option maxHeartbeats 4000000 in
theorem lbulks_ok {A : Nat → Prop} {w : World} {v : Value} {l : List (List UInt8)} (hv : Vw A w v 1 l.length (l.map txt)) (hn : l.length ≤ 1099511627776) : Calls Tryz.prog 49 #[v] w (BulksDid w l) := by
  obtain ⟨a, cap, rfl, _⟩ := id hv.slice
  have HV := Lib.hid hv
  clear hv
  have hat : BulksRel w l (.int .i64 0) ((w.alloc (.cells #[.int .i64 0, .string ⟨#[]⟩, .int .i64 0, .slice none 0 0] 29)).alloc (.cells #[.int .i64 6, .string ⟨#[]⟩, .int .i64 0, .slice none 0 0] 29)) := by
    have h0 : (w.alloc (.cells #[.int .i64 0, .string ⟨#[]⟩, .int .i64 0, .slice none 0 0] 29)).heap.size = w.heap.size + 1 := by simp
    have b1 := Blk.new none0 w [9, 2] #[.int .i64 0, .string ⟨#[]⟩, .int .i64 0, .slice none 0 0] 29 w.heap.size rfl
    have s1 := (Stp.refl [9] none0 w).alloc (r' := [9, 2]) (.cells #[.int .i64 0, .string ⟨#[]⟩, .int .i64 0, .slice none 0 0] 29) w.heap.size rfl
    have b2 := Blk.new (none0.put w.heap.size [9, 2]) _ [9, 1] #[.int .i64 6, .string ⟨#[]⟩, .int .i64 0, .slice none 0 0] 29 (w.heap.size + 1) h0.symm
    have s2 := s1.alloc (r' := [9, 1]) (.cells #[.int .i64 6, .string ⟨#[]⟩, .int .i64 0, .slice none 0 0] 29) (w.heap.size + 1) h0.symm
    exact ⟨0, _, _, Nat.zero_le _, rfl, b2, b1.alloc _ _ [9, 1] h0.symm, Row.nil _ _ _ _ _, s2⟩
  go_enter Tryz.func49, Tryz.ntmps49
  go_wp2_with fail
  go_loopw [9] (fun i wr => BulksRel w l i wr) (fun i _ => l.length - (intOf i).toNat)
  case atStart => exact hat
  case round =>
    obtain ⟨k, v, o1, hk, rfl, hblk, hres, hrow, hst⟩ := hrel
    clear hat
    by_cases hkl : k < l.length
    · obtain ⟨x, hx⟩ : ∃ x, l[k]? = some x := ⟨_, List.getElem?_eq_getElem hkl⟩
      have hB := hst.below0
      have hvr := HV.out.below hB
      obtain ⟨⟨a1, c1, e4, hc1, _, hcells⟩, _⟩ := hvr
      injection e4 with e5 e6 e7
      subst e5 e7
      rcases hcells with hcells | ⟨bv, ov, rfl, hbv, _, hcv⟩
      · omega
      have hcell : wr.cell? ⟨bv, ov + k, none⟩ = some (.string ⟨x.toArray⟩) := hcv k (txt x) (by rw [List.getElem?_map, hx]; rfl)
      obtain ⟨av, cav, rfl, _⟩ := id hrow.slice
      have hld := hblk.cell 3
      have hkI : (0 : Int) ≤ k ∧ (k : Int) < l.length := by omega
      have HX := Lib.hid (show (l.take (k + 1)).map bulkF = (l.take k).map bulkF ++ [bulkF x] by rw [List.take_add_one, hx]; simp)
      have HBLK := Lib.hid hblk
      have HRES := Lib.hid hres
      have HROW := Lib.hid hrow
      have HST := Lib.hid hst
      have HEN := Lib.hid (show ∀ us w, (callFunc 76 us).run Tryz.prog w = .ok (.enter 76 us) w from enters_of Tryz.func76 (by kernel_rfl) rfl)
      have HBU := Lib.hid (lbulk_ok (World.drew wr) x)
      obtain ⟨i0, hi0, hz0, hz1, hz2⟩ := info_parts infoRp
      unfold txt at HBU
      clear hblk hres hrow hst hB hcv hx
      simp only [List.getElem?_toArray, List.getElem?_cons_succ, List.getElem?_cons_zero] at hld
      go_wp2_with fail
      go_region_law (first
        | (refine step_call (f := 76) rfl _ _ rfl (by rfl) HEN.out HBU.out ?_
           rintro e w3 ⟨rfl, hB3⟩
           refine ⟨_, rfl, ?_⟩
           have hB3' : Below wr.heap.size wr w3 := (Below.refl _ wr).drew.trans hB3
           have hld3 : w3.cell? ⟨w.heap.size + 1, 3, none⟩ = some (.slice av k cav) := (HBLK.out.below hB3').cell 3
           have hB4 := hB3'.alloc hB3'.size (.cells #[.int .i64 4, .string ⟨x.toArray⟩, .int .i64 0, .slice none 0 0] 29)
           have hld4 : (w3.alloc (.cells #[.int .i64 4, .string ⟨x.toArray⟩, .int .i64 0, .slice none 0 0] 29)).cell? ⟨w.heap.size + 1, 3, none⟩ = some (.slice av k cav) := (HBLK.out.below hB4).cell 3
           have HR4 := Lib.hid (HROW.out.below hB4)
           have HB4 := Lib.hid hB4
           have HSRC := Lib.hid ((vw_newK w3 #[.int .i64 4, .string ⟨x.toArray⟩, .int .i64 0, .slice none 0 0] 29 4 rfl).src (P := Tryz.prog) Tryz.underlying27 (by intro u hu; simp at hu; rcases hu with rfl | rfl | rfl | rfl <;> rfl))
           clear hB3 hB3' hB4)
        | (refine step_app _ rfl _ _ 27 27 rfl 29 i0 _ 4 56 Tryz.underlying27 hi0 hz0 hz1 hz2 rfl rfl HR4.out rfl HSRC.out (by unfold maxLen; omega) (by omega) ?_
           intro v' w5 o5 hrow5 hst5
           obtain ⟨av5, cv5, rfl, _⟩ := id hrow5.slice
           have hbk5 := (HBLK.out.below HB4.out).keep hst5 (by decide)
           have hld5 : w5.cell? ⟨w.heap.size + 1, 3, none⟩ = some (.slice av k cav) := hbk5.cell 3
           have hfr5 := hbk5.free
           have hrs5 := (HRES.out.below HB4.out).keep hst5 (by decide)
           have hs5 := HST.out.trans ((Stp.ofBelow [9] o1 HB4.out).trans (hst5.wide (by decide)))
           have D := Lib.hid (show BulksRel w l (.int .i64 ((k + 1 : Nat) : Int)) (w5.setCell ⟨w.heap.size + 1, 3, none⟩ (.slice av5 (k + 1) cv5)) from
             ⟨k + 1, _, o5, hkl, rfl, hbk5.setCell 3 _, hrs5.setOther _ _ (by simp), by rw [HX.out, rfsC_app]; exact hrow5.setCell _ _ (by show o5 (w.heap.size + 1) ≠ _; rw [hbk5.role]; decide), hs5.setCell (by show [9] <+: o5 (w.heap.size + 1); rw [hbk5.role]; decide) _⟩)
           clear hrow5 hst5 hbk5 hrs5 hs5))
      all_goals (
        clear HBLK HRES HROW HST HEN HBU HX HR4 HB4 HSRC
        go_wp2_with fail
        go_roundw
        case rel => exact D.out
        case measure => simp [intOf]; omega)
    · obtain rfl : k = l.length := by omega
      obtain ⟨av, cav, rfl, _⟩ := id hrow.slice
      have hb := hblk.cell
      have hr := hres.cell
      have hrf := hres.free
      rw [List.take_length] at hrow
      have HD := Lib.hid hrow
      have HBL := Lib.hid hblk
      have HRS := Lib.hid hres
      have HST := Lib.hid hst
      clear hblk hres hrow hst HV
      go_wp2_with fail
      refine bodyPost_ret (v := repV 6 [] 0 (.slice av l.length cav)) (by simp [results, Tryz.results49, go_sem, hr]) rfl ⟨_, rfl, ?_⟩
      have h0 := HRS.out.role
      refine Row.fresh2 (o' := o1) (r := [9, 0]) (a := 9) (t := []) ?_ (by decide) ?_
      · iterate 4 refine Row.setCell ?_ _ _ (by show o1 w.heap.size ≠ _; rw [h0]; decide)
        exact HD.out
      · iterate 4 refine Stp.setCell ?_ (by show [9] <+: o1 w.heap.size; rw [h0]; decide) _
        exact HST.out
end Go.Proofs.YtoganolkgmilaaaGreatDoor
/- Sorted and compacted, a list is its set: plain lists. No program is named. -/
namespace Go.Proofs.YtoganolkgmilaaaGreatDoor
open Go
theorem le_ltB (x y : Tx) : decide (x ≤ y) = !ltB y x := by
  have h : ltB y x = decide (y < x) := bytesLess_eq y x
  rw [h]
  by_cases hl : y < x
  · rw [decide_eq_true hl, decide_eq_false (fun k : x ≤ y => k hl)]; rfl
  · rw [decide_eq_false hl, decide_eq_true (show x ≤ y from hl)]; rfl
theorem msort_mem (l : List Tx) (x : Tx) : x ∈ (l.mergeSort fun x y => decide (x ≤ y)) ↔ x ∈ l := List.mem_mergeSort
theorem msort_sorted (l : List Tx) : (l.mergeSort fun x y => decide (x ≤ y)).Pairwise fun a b => ltB b a = false := by
  have h := List.pairwise_mergeSort (le := fun x y : Tx => decide (x ≤ y))
    (fun a b c h1 h2 => by
      rw [le_ltB] at h1 h2 ⊢
      have h1 : ltB b a = false := by simpa using h1
      have h2 : ltB c b = false := by simpa using h2
      cases e : ltB c a with
      | false => rfl
      | true =>
        rcases less_total b c with k | k | k
        · have := less_trans b c a k e; rw [show Op.bytesLess b a = ltB b a from rfl, h1] at this; cases this
        · subst k; rw [e] at h1; cases h1
        · rw [show ltB c b = true from k] at h2; cases h2)
    (fun a b => by
      rw [le_ltB, le_ltB]
      cases e : ltB b a with
      | false => rfl
      | true => rw [ltB_asymm e]; rfl) l
  exact h.imp fun hab => by rw [le_ltB] at hab; simpa using hab
open Go.Lib in
theorem compact_up {d : Array Tx} (hs : ∀ i j, i ≤ j → j < d.size → ltB d[j]! d[i]! = false) : ∀ m, m ≤ d.size → Asc (compactUpTo d m) ∧ ∀ x, x ∈ compactUpTo d m ↔ ∃ j, j < m ∧ d[j]! = x
  | 0, _ => ⟨by simpa [compactUpTo] using Asc.nil, fun x => by simp [compactUpTo]⟩
  | m + 1, hm => by
    obtain ⟨h1, h2⟩ := compact_up hs m (by omega)
    rw [compactUpTo_succ]
    by_cases hk : keeps d m = true
    · rw [if_pos hk]
      constructor
      · refine List.pairwise_append.2 ⟨h1, List.pairwise_singleton _ _, fun x hx y hy => ?_⟩
        obtain rfl := List.mem_singleton.1 hy
        obtain ⟨j, hj, rfl⟩ := (h2 x).1 hx
        have hne : m ≠ 0 := by omega
        have hd : d[m]! ≠ d[m - 1]! := by
          unfold keeps at hk
          rcases of_decide_eq_true hk with h | h
          · exact absurd h hne
          · exact h
        have hlt : ltB d[m - 1]! d[m]! = true := by
          rcases less_total d[m - 1]! d[m]! with k | k | k
          · exact k
          · exact absurd k.symm hd
          · have := hs (m - 1) m (by omega) (by omega); rw [show ltB d[m]! d[m - 1]! = true from k] at this; cases this
        have hle := hs j (m - 1) (by omega) (by omega)
        rcases less_total d[j]! d[m - 1]! with k | k | k
        · exact less_trans _ _ _ k hlt
        · rw [k]; exact hlt
        · rw [show ltB d[m - 1]! d[j]! = true from k] at hle; cases hle
      · intro x
        rw [List.mem_append, h2, List.mem_singleton]
        constructor
        · rintro (⟨j, hj, e⟩ | e)
          · exact ⟨j, by omega, e⟩
          · exact ⟨m, by omega, e.symm⟩
        · rintro ⟨j, hj, e⟩
          by_cases hjm : j = m
          · subst hjm; exact .inr e.symm
          · exact .inl ⟨j, by omega, e⟩
    · rw [if_neg hk, List.append_nil]
      refine ⟨h1, fun x => ?_⟩
      rw [h2]
      have hd : m ≠ 0 ∧ d[m]! = d[m - 1]! := by
        unfold keeps at hk
        have := of_decide_eq_false (by simpa using hk : decide (m = 0 ∨ d[m]! ≠ d[m - 1]!) = false)
        exact ⟨fun e => this (.inl e), Classical.not_not.1 fun e => this (.inr e)⟩
      constructor
      · rintro ⟨j, hj, e⟩; exact ⟨j, by omega, e⟩
      · rintro ⟨j, hj, e⟩
        by_cases hjm : j = m
        · subst hjm; exact ⟨j - 1, by omega, hd.2.symm.trans e⟩
        · exact ⟨j, by omega, e⟩
theorem compact_ofL (l : List Tx) : Lib.compact (l.mergeSort fun x y => decide (x ≤ y)) = ofL l := by
  have hp := msort_sorted l
  have hm := msort_mem l
  generalize (l.mergeSort fun x y => decide (x ≤ y)) = zs at *
  have hs : ∀ i j, i ≤ j → j < zs.toArray.size → ltB zs.toArray[j]! zs.toArray[i]! = false := fun i j hij hj => by
    have hj' : j < zs.length := by simpa using hj
    have hi' : i < zs.length := by omega
    have e1 : zs.toArray[j]! = zs[j] := by simp [hj']
    have e2 : zs.toArray[i]! = zs[i] := by simp [hi']
    rw [e1, e2]
    rcases Nat.lt_or_ge i j with h | h
    · exact List.pairwise_iff_getElem.1 hp i j hi' hj' h
    · obtain rfl : i = j := by omega
      exact less_irrefl _
  obtain ⟨h1, h2⟩ := compact_up hs zs.length (by simp)
  refine ofL_eq h1 fun x => ?_
  rw [← hm x]
  refine (h2 x).trans ?_
  constructor
  · rintro ⟨j, hj, rfl⟩
    have : zs.toArray[j]! = zs[j] := by simp [hj]
    rw [this]; exact List.getElem_mem hj
  · intro hx
    obtain ⟨j, hj, e⟩ := List.mem_iff_getElem.1 hx
    exact ⟨j, hj, by simp [hj, e]⟩
end Go.Proofs.YtoganolkgmilaaaGreatDoor
/- Contracts of the library at this program, as the kit's tools have laid them (some of them). -/
namespace Go.Proofs
open Go.Shelf Go.RowKit Go.Sort Go.Lib
def Tryz.lays190_ren : Go.Shelf.Ren := ⟨fun | 190 => 127 | 125 => 143 | 258 => 145 | 128 => 165 | 129 => 166 | 302 => 168 | 303 => 169 | 304 => 170 | 305 => 171 | 306 => 172 | 307 => 173 | 308 => 174 | 309 => 175 | 310 => 176 | 333 => 191 | 329 => 187 | 330 => 188 | 334 => 192 | 335 => 193 | 336 => 139 | 344 => 198 | n => n, fun | 31 => 22 | 9 => 9 | 3 => 3 | 46 => 169 | 0 => 0 | 51 => 209 | 53 => 61 | 4 => 4 | 183 => 203 | 182 => 202 | 131 => 41 | 5 => 5 | 218 => 222 | 222 => 225 | 228 => 233 | 229 => 234 | n => n, fun | n => n⟩
theorem Tryz.lays190 : Go.Proofs.Lays.n190 Tryz.prog Tryz.lays190_ren := {
  mixed := by kernel_rfl
  f125 := Tryz.func143.trans (congrArg some (by kernel_rfl))
  f128 := Tryz.func165.trans (congrArg some (by kernel_rfl))
  f129 := Tryz.func166.trans (congrArg some (by kernel_rfl))
  f190 := Tryz.func127.trans (congrArg some (by kernel_rfl))
  f258 := Tryz.func145.trans (congrArg some (by kernel_rfl))
  f302 := Tryz.func168.trans (congrArg some (by kernel_rfl))
  f303 := Tryz.func169.trans (congrArg some (by kernel_rfl))
  f304 := Tryz.func170.trans (congrArg some (by kernel_rfl))
  f305 := Tryz.func171.trans (congrArg some (by kernel_rfl))
  f306 := Tryz.func172.trans (congrArg some (by kernel_rfl))
  f307 := Tryz.func173.trans (congrArg some (by kernel_rfl))
  f308 := Tryz.func174.trans (congrArg some (by kernel_rfl))
  f309 := Tryz.func175.trans (congrArg some (by kernel_rfl))
  f310 := Tryz.func176.trans (congrArg some (by kernel_rfl))
  f329 := Tryz.func187.trans (congrArg some (by kernel_rfl))
  f330 := Tryz.func188.trans (congrArg some (by kernel_rfl))
  f333 := Tryz.func191.trans (congrArg some (by kernel_rfl))
  f334 := Tryz.func192.trans (congrArg some (by kernel_rfl))
  f335 := Tryz.func193.trans (congrArg some (by kernel_rfl))
  f336 := Tryz.func139.trans (congrArg some (by kernel_rfl))
  f344 := Tryz.func198.trans (congrArg some (by kernel_rfl))
  t0 := Tryz.underlying0
  a0 := Tryz.isAgg0
  z0 := Tryz.sizeOf0
  v0 := Tryz.zeroValue0
  t3 := Tryz.underlying3
  a3 := Tryz.isAgg3
  z3 := Tryz.sizeOf3
  v3 := Tryz.zeroValue3
  t4 := Tryz.underlying4
  a4 := Tryz.isAgg4
  z4 := Tryz.sizeOf4
  v4 := Tryz.zeroValue4
  t5 := Tryz.underlying5
  a5 := Tryz.isAgg5
  z5 := Tryz.sizeOf5
  v5 := Tryz.zeroValue5
  t9 := Tryz.underlying9
  a9 := Tryz.isAgg9
  z9 := Tryz.sizeOf9
  v9 := Tryz.zeroValue9
  t31 := Tryz.underlying22
  a31 := Tryz.isAgg22
  z31 := Tryz.sizeOf22
  v31 := Tryz.zeroValue22
  t46 := Tryz.underlying169
  a46 := Tryz.isAgg169
  z46 := Tryz.sizeOf169
  v46 := Tryz.zeroValue169
  t51 := Tryz.underlying209
  a51 := Tryz.isAgg209
  z51 := Tryz.sizeOf209
  v51 := Tryz.zeroValue209
  t53 := Tryz.underlying61
  a53 := Tryz.isAgg61
  z53 := Tryz.sizeOf61
  v53 := Tryz.zeroValue61
  t131 := Tryz.underlying41
  a131 := Tryz.isAgg41
  z131 := Tryz.sizeOf41
  v131 := Tryz.zeroValue41
  t182 := Tryz.underlying202
  a182 := Tryz.isAgg202
  z182 := Tryz.sizeOf202
  v182 := Tryz.zeroValue202
  t183 := Tryz.underlying203
  a183 := Tryz.isAgg203
  z183 := Tryz.sizeOf203
  v183 := Tryz.zeroValue203
  t218 := Tryz.underlying222
  a218 := Tryz.isAgg222
  z218 := Tryz.sizeOf222
  v218 := Tryz.zeroValue222
  t222 := Tryz.underlying225
  a222 := Tryz.isAgg225
  z222 := Tryz.sizeOf225
  v222 := Tryz.zeroValue225
  t228 := Tryz.underlying233
  a228 := Tryz.isAgg233
  z228 := Tryz.sizeOf233
  v228 := Tryz.zeroValue233
  t229 := Tryz.underlying234
  a229 := Tryz.isAgg234
  z229 := Tryz.sizeOf234
  v229 := Tryz.zeroValue234 }
theorem Tryz.slices_Sort_string (blk off cap : Nat) (ss : List (List UInt8)) (w : World) (hH : Holds encStr w blk off ss.toArray) (hblk : blk < w.heap.size) (hsz : ss.length < 4611686018427387904) :
    Calls Tryz.prog 127 #[.slice (some ⟨blk, off, none⟩) ss.length cap] w fun e w' =>
      e = .returned (.tuple #[]) ∧ ∃ n os, w' = grow (putRow encStr (Sort.ahead w n) blk off (ss.mergeSort fun x y => decide (x ≤ y)).toArray) os := Any.slices_Sort_string Tryz.lays190 blk off cap ss w hH hblk hsz
def Tryz.lays194_ren : Go.Shelf.Ren := ⟨fun | 194 => 128 | n => n, fun | 31 => 22 | 9 => 9 | 3 => 3 | 4 => 4 | 0 => 0 | n => n, fun | n => n⟩
theorem Tryz.lays194 : Go.Proofs.Lays.n194 Tryz.prog Tryz.lays194_ren := {
  mixed := by kernel_rfl
  f194 := Tryz.func128.trans (congrArg some (by kernel_rfl))
  t0 := Tryz.underlying0
  a0 := Tryz.isAgg0
  z0 := Tryz.sizeOf0
  v0 := Tryz.zeroValue0
  t3 := Tryz.underlying3
  a3 := Tryz.isAgg3
  z3 := Tryz.sizeOf3
  v3 := Tryz.zeroValue3
  t4 := Tryz.underlying4
  a4 := Tryz.isAgg4
  z4 := Tryz.sizeOf4
  v4 := Tryz.zeroValue4
  t9 := Tryz.underlying9
  a9 := Tryz.isAgg9
  z9 := Tryz.sizeOf9
  v9 := Tryz.zeroValue9
  t31 := Tryz.underlying22
  a31 := Tryz.isAgg22
  z31 := Tryz.sizeOf22
  v31 := Tryz.zeroValue22 }
theorem Tryz.slices_Compact_string (blk off cap : Nat) (zs : List (List UInt8)) (w : World) (hH : Holds encStr w blk off zs.toArray) (hsz : zs.length ≤ 9223372036854775807) (hcap : zs.length ≤ cap) :
    Calls Tryz.prog 128 #[.slice (some ⟨blk, off, none⟩) zs.length cap] w fun e w' => e = .returned (.slice (some ⟨blk, off, none⟩) (Lib.compact zs).length cap) ∧ ∃ q, w' = putRow encStr (Sort.ahead w q) blk off (Lib.compact zs ++ List.replicate (zs.length - (Lib.compact zs).length) []).toArray := Any.slices_Compact_string Tryz.lays194 blk off cap zs w hH hsz hcap
theorem Tryz.slices_Compact_string_empty (a : Option Addr) (cap : Nat) (w : World) :
    Calls Tryz.prog 128 #[.slice a 0 cap] w fun e w' => e = .returned (.slice a 0 cap) ∧ w' = w := Any.slices_Compact_string_empty Tryz.lays194 a cap w
theorem Tryz.slices_Sort_string_none (p : Option Addr) (cap : Nat) (w : World) :
    Calls Tryz.prog 127 #[.slice p 0 cap] w fun e w' => e = .returned (.tuple #[]) ∧ w' = w := Any.slices_Sort_string_none Tryz.lays190 p cap w
end Go.Proofs
