import Derived.Test.YthojmgjgmbnopaaGreatDoorZb
import Derived.Test.YthojmgjgmbnopaaGreatDoorZv
import Derived.Test.YthojmgjgmbnopaaGreatDoorJG
import Derived.Test.YthojmgjgmbnopaaGreatDoorXG
namespace Go.Proofs.YthojmgjgmbnopaaGreatDoor
open Go Go.RowKit
/-! All that a space holds, told as entries. -/
def Val3U (w : World) (V : VV) (u : Value) (W : World) : Prop := ∃ l f r, u = valV V l f r ∧ Val3 (fun b => w.heap.size ≤ b) W V l f r
def EntDid (w : World) (X : List EV) (e : Ending) (w' : World) : Prop := ∃ v Y, e = .returned v ∧ Vw (fun b => w.heap.size ≤ b) w' v 8 X.length (evC Y) ∧ EvsOk (fun b => w.heap.size ≤ b) w' Y ∧ Y.map EV.core = X.map EV.core ∧ Below w.heap.size w w'
def EnRel (w : World) (X : List EV) (i v : Value) (wr : World) : Prop :=
  ∃ k Y o', k ≤ X.length ∧ i = .int .i64 ((k : Nat) : Int) ∧ Row o' wr [9, 0] 133 8 v k (evC Y) ∧ Y.map EV.core = (X.take k).map EV.core ∧ EvsOk (fun b => o' b = [9, 1]) wr Y ∧ Stp [9] none0 w o' wr
theorem getX_mem {X : List EV} (hs : SortX X) {k : Nat} {x : EV} (hx : X[k]? = some x) : getX X x.key = some x := by
  induction X generalizing k with
  | nil => simp at hx
  | cons y X ih =>
    rw [getX_cons]
    obtain ⟨h1, h2⟩ := List.pairwise_cons.1 hs
    cases k with
    | zero => simp at hx; subst hx; simp
    | succ k =>
      have hx' : X[k]? = some x := by simpa using hx
      have hne := h1 x (List.mem_of_getElem? hx')
      have : (y.key == x.key) = false := by
        rw [beq_eq_false_iff_ne]
        exact ltB_ne hne
      rw [this]
      exact ih h2 hx'
theorem agree_at {X : List EV} {S : SP} (hs : SortX X) (hag : Agree X S) {k : Nat} {x : EV} (hx : X[k]? = some x) : S x.key = some x.hd := by
  rw [← hag x.key, getX_mem hs hx]; rfl
theorem getX_key {X : List EV} {k : Tx} {e : EV} (h : getX X k = some e) : e.key = k ∧ e ∈ X := by
  unfold getX at h
  have h1 := List.find?_some h
  exact ⟨by simpa using h1, List.mem_of_find?_eq_some h⟩
section
variable {o : Roles} {w : World} {q : List Nat} {p m d a : Nat} {c : Cnt} {kvs : KV} {S : SP} {X : List EV}
theorem keys_of (h : SpR o w q p m d a kvs S c) (hs : SortX X) (hag : Agree X S) : ofL (kvs.map Prod.fst) = X.map EV.key ∧ kvs.length ≤ X.length := by
  have hiff : ∀ k, mfind kvs k = none ↔ S k = none := fun k => (h.vals k).none_iff
  have hin : ∀ k, k ∈ kvs.map Prod.fst ↔ k ∈ X.map EV.key := by
    intro k
    constructor
    · intro hk
      have h1 : S k ≠ none := fun e => mfind_has hk ((hiff k).2 e)
      have h2 := hag k
      cases hg : getX X k with
      | none => rw [hg] at h2; exact absurd h2.symm h1
      | some e =>
        obtain ⟨h3, h4⟩ := getX_key hg
        exact List.mem_map.2 ⟨e, h4, h3⟩
    · intro hk
      obtain ⟨e, he, rfl⟩ := List.mem_map.1 hk
      obtain ⟨j, hj, e2⟩ := List.getElem_of_mem he
      have := agree_at hs hag (k := j) (x := e) (by rw [List.getElem?_eq_getElem hj, e2])
      exact mfind_in fun e3 => by rw [(hiff _).1 e3] at this; cases this
  have hasc : Asc (X.map EV.key) := by
    unfold Asc
    rw [List.pairwise_map]
    exact hs
  refine ⟨(ofL_eq hasc fun x => (hin x).symm).symm, ?_⟩
  have := nodup_len (l := kvs.map Prod.fst) (K := X.map EV.key) h.nodup (fun x hx => (hin x).1 hx)
  simpa using this
theorem look_ev (h : SpR o w q p m d a kvs S c) {k : List UInt8} {H : Hd} (hk : S k = some H) : ∃ l f r, Val3 (fun b => o b = q ++ [3]) w H.v l f r ∧ VSmall H.v ∧ ∀ W, Below w.heap.size w W → (Instr.lookup 115 (.map (some m)) (txt k) false).run Tryz.prog W = .ok (hdV H l f r) W := by
  have hv := h.vals k
  cases hm : mfind kvs k with
  | none => rw [hm, hk] at hv; exact hv.elim
  | some u =>
    rw [hm, hk] at hv
    obtain ⟨l, f, r, rfl, hv3, hs⟩ := hv
    refine ⟨l, f, r, hv3, hs, fun W hW => ?_⟩
    have := run_look (P := Tryz.prog) (h.keys.below hW) Tryz.underlying115 Tryz.underlying9 k false (zeroHd _)
    rw [hm] at this
    exact this
set_option maxRecDepth 10000 in
set_option maxHeartbeats 8000000 in
theorem entries_ok (h : SpJ o w q p S c) (hs : SortX X) (hag : Agree X S) (hn : X.length ≤ 1099511627776) : Calls Tryz.prog 48 #[.pointer (some ⟨p, 0, none⟩)] w (EntDid w X) := by
  obtain ⟨m, d, a, kvs, h⟩ := h
  obtain ⟨hks, hkl⟩ := keys_of h hs hag
  have hnm := snames_ok h (by omega)
  rw [hks] at hnm
  unfold NamesDid at hnm
  rw [List.length_map] at hnm
  have hc := h.blk.cell
  have hpl := h.blk.lt
  obtain ⟨i0, hi0, hz0, hz1, hz2⟩ := info_parts infoEv
  have HNM := Lib.hid hnm
  have HH := Lib.hid h
  have HAT := Lib.hid (fun (k : Nat) (x : EV) (hx : X[k]? = some x) => agree_at hs hag hx)
  have HN := Lib.hid hn
  clear hnm h hks hkl hag hs
  go_enter Tryz.func48, Tryz.ntmps48
  go_wp2_with fail
  refine HNM.out.mono ?_; rintro e w1 ⟨g, cap, rfl, hfr⟩
  have HVW := Lib.hid hfr.vw
  have HB1 := Lib.hid hfr.below
  have HH1 := Lib.hid (HH.out.below hfr.below)
  clear hfr HNM HH hc hpl
  go_wp2_with fail
  go_loopw [12, 3] (fun i v wr => EnRel w1 X i v wr) (fun i v _ => X.length - (intOf i).toNat)
  case atStart => exact ⟨0, [], none0, Nat.zero_le _, rfl, Row.nil _ _ _ _ _, rfl, fun e he => by simp at he, Stp.refl _ _ _⟩
  case round =>
    obtain ⟨k, Y, o1, hk, rfl, hrow, hco, hev, hst⟩ := hrel
    obtain ⟨av, cav, rfl, _⟩ := id hrow.slice
    by_cases hkl : k < X.length
    · obtain ⟨x, hx⟩ : ∃ x, X[k]? = some x := ⟨_, List.getElem?_eq_getElem hkl⟩
      have hB := hst.below0
      have hSk := HAT.out k x hx
      obtain ⟨l, f, r, hv3, hsm, hlook⟩ := look_ev HH1.out hSk
      obtain ⟨b4, o4, e4, hb4, _, hg4⟩ := vw_get HVW.out (by omega)
      have hck := cell_below hB (hg4 k x.key (by rw [List.getElem?_map, hx]; rfl))
      injection e4 with e5
      obtain ⟨l1, m1, rfl, _⟩ := id hv3.list.slice
      obtain ⟨l2, m2, rfl, _⟩ := id hv3.fields.slice
      obtain ⟨l3, m3, rfl, _⟩ := id hv3.ranked.slice
      have hlk := hlook wr hB
      unfold txt EV.hd at hlk
      dsimp only at hlk
      have hpc := (HH1.out.blk.below hB).cell
      have hpl := (HH1.out.blk.below hB).lt
      have hkI : (0 : Int) ≤ k ∧ (k : Int) < X.length := by omega
      obtain ⟨hk0, hk1⟩ := hkI
      have HX := Lib.hid (show (X.take (k + 1)).map EV.core = (X.take k).map EV.core ++ [x.core] by rw [List.take_add_one, hx]; simp)
      have HROW := Lib.hid hrow
      have HCO := Lib.hid hco
      have HEV := Lib.hid hev
      have HST := Lib.hid hst
      have HV3 := Lib.hid (hv3.below hB)
      have HSM := Lib.hid hsm
      clear hrow hco hev hst hB hSk hv3 hsm hlook hg4 HVW HAT
      obtain ⟨key, V, due, ver, xl, xf, xr⟩ := x
      unfold EV.hd at *
      dsimp only at *
      obtain ⟨kind, text, list, fields, ranked⟩ := V
      dsimp only at *
      go_wp2_with fail
      obtain ⟨w8, hw8⟩ : ∃ w8, w8 = wr.alloc (.cells #[.int .i64 kind, .string ⟨text.toArray⟩, .slice l1 list.length m1, .slice l2 fields.length m2, .slice l3 ranked.length m3, .int .i64 due, .int .u64 ver] 95) := ⟨_, rfl⟩
      rw [← hw8]
      have hB8 : Below wr.heap.size wr w8 := by rw [hw8]; exact (Below.refl _ _).alloc (Nat.le_refl _) _
      have hsz8 : w8.heap.size = wr.heap.size + 1 := by rw [hw8]; simp
      have hbk : Blk none0 w8 [] wr.heap.size #[.int .i64 kind, .string ⟨text.toArray⟩, .slice l1 list.length m1, .slice l2 fields.length m2, .slice l3 ranked.length m3, .int .i64 due, .int .u64 ver] 95 := ⟨by rw [hw8]; exact heap_alloc_new wr _, rfl⟩
      have HCL := Lib.hid (show ∀ W, Below w8.heap.size w8 W → ∀ j, W.cell? ⟨wr.heap.size, j, none⟩ = (#[.int .i64 kind, .string ⟨text.toArray⟩, .slice l1 list.length m1, .slice l2 fields.length m2, .slice l3 ranked.length m3, .int .i64 due, .int .u64 ver] : Array Value)[j]? from fun W hB => (hbk.below hB).cell)
      have HCP := Lib.hid (copy_ok (HV3.out.below (hB8.trans ((Below.refl _ w8).drew.mono hB8.size))) HSM.out)
      have HB8 := Lib.hid hB8
      have HSZ8 := Lib.hid hsz8
      clear hw8 hB8 hsz8 hbk hlk hck hpc hpl HV3
      refine region_staged (n := 12) (cs := [4, 10, 11]) (st := [0, 0, 0, 0, 0, 0, 0, 0, 0, 1, 1, 2]) (S := fun W => W = w8.drew) (l := [(some 22, .slice av k cav), (some 23, .string ⟨key.toArray⟩), (some 24, .pointer (some ⟨wr.heap.size, 0, none⟩)), (some 25, valV ⟨kind, text, list, fields, ranked⟩ (.slice l1 list.length m1) (.slice l2 fields.length m2) (.slice l3 ranked.length m3)), (some 26, undef), (some 27, .pointer (some ⟨wr.heap.size, 5, none⟩)), (some 28, .int .i64 due), (some 29, .pointer (some ⟨wr.heap.size, 6, none⟩)), (some 30, .int .u64 ver), (some 31, undef), (some 32, undef), (some 33, undef)])
        (by kernel_rfl) ⟨by kernel_rfl, by kernel_rfl, by kernel_rfl, by decide, by kernel_rfl, by kernel_rfl, by kernel_rfl, rfl, by kernel_rfl⟩ rfl (fun hreg0 => ?_)
      refine ZAt.step (fun u W => Val3U w8 ⟨kind, text, list, fields, ranked⟩ u W ∧ Below w8.heap.size w8 W) 4 (by simp only [zFin, Act.put, List.setIfInBounds_toArray, List.set_cons_zero, List.set_cons_succ]; exact rfl) rfl hreg0 [true, true, true, true, false, true, true, true, true, false, false, false] (by kernel_rfl)
        ⟨ZSee.val (by kernel_rfl) (fun W _ => by kernel_rfl),
          ZSee.val (by kernel_rfl) (fun W _ => by kernel_rfl),
          ZSee.val (by kernel_rfl) (fun W _ => by kernel_rfl),
          ZSee.val (by kernel_rfl) (fun W hW => by subst hW; have hc := HCL.out w8 (Below.refl _ _); go_simp; done),
          ZSee.val (by kernel_rfl) (fun W _ => by kernel_rfl),
          ZSee.val (by kernel_rfl) (fun W hW => by subst hW; have hc := HCL.out w8 (Below.refl _ _); go_simp; done),
          ZSee.val (by kernel_rfl) (fun W _ => by kernel_rfl),
          ZSee.val (by kernel_rfl) (fun W hW => by subst hW; have hc := HCL.out w8 (Below.refl _ _); go_simp; done), trivial⟩
        (fun o ho => by
          obtain rfl := Option.some.inj ho
          exact ZTurn.call (by kernel_rfl) 64 #[valV ⟨kind, text, list, fields, ranked⟩ (.slice l1 list.length m1) (.slice l2 fields.length m2) (.slice l3 ranked.length m3)] (fun _ _ => by kernel_rfl) (fun W hW => by
            subst hW
            refine HCP.out.mono ?_
            rintro e w' ⟨l, f, r, rfl, hv, hB⟩
            exact ⟨_, rfl, ⟨l, f, r, rfl, hv⟩, (Below.refl _ w8).drew.trans hB⟩))
        (fun u W0 hW0 => ?_)
      obtain ⟨⟨l4, f4, r4, rfl, hv4⟩, hB4⟩ := hW0
      obtain ⟨y1, z1, rfl, _⟩ := id hv4.list.slice
      obtain ⟨y2, z2, rfl, _⟩ := id hv4.fields.slice
      obtain ⟨y3, z3, rfl, _⟩ := id hv4.ranked.slice
      clear hv4 hB4
      refine ⟨[(9, .agg #[.string ⟨key.toArray⟩, .int .i64 kind, .string ⟨text.toArray⟩, .slice y1 list.length z1, .slice y2 fields.length z2, .slice y3 ranked.length z3, .int .i64 due, .int .u64 ver])], _, rfl, (by simp only [zUpd, List.getD_cons_succ, List.getD_cons_zero, List.set_cons_succ, List.set_cons_zero]; exact rfl), fun hreg1 => ?_⟩
      refine ZAt.weaken (S' := fun W => Val3 (fun b => w8.heap.size ≤ b) W ⟨kind, text, list, fields, ranked⟩ (.slice y1 list.length z1) (.slice y2 fields.length z2) (.slice y3 ranked.length z3) ∧ Below w8.heap.size w8 W) (fun W hW => by
        obtain ⟨⟨l4, f4, r4, e, hv4⟩, hB4⟩ := hW
        simp only [valV, Value.agg.injEq, Array.mk.injEq, List.cons.injEq, and_true, true_and] at e
        obtain ⟨rfl, rfl, rfl⟩ := e
        exact ⟨hv4, hB4⟩) ?_
      refine ZAt.step (fun u W' => ∃ W, (Val3 (fun b => w8.heap.size ≤ b) W ⟨kind, text, list, fields, ranked⟩ (.slice y1 list.length z1) (.slice y2 fields.length z2) (.slice y3 ranked.length z3) ∧ Below w8.heap.size w8 W) ∧ u = .slice (some ⟨W.heap.size, 0, none⟩) 1 1 ∧ W' = W.alloc (.cells #[.string ⟨key.toArray⟩, .int .i64 kind, .string ⟨text.toArray⟩, .slice y1 list.length z1, .slice y2 fields.length z2, .slice y3 ranked.length z3, .int .i64 due, .int .u64 ver] 133)) 10 (by simp only [zFin, Act.put, List.setIfInBounds_toArray, List.set_cons_zero, List.set_cons_succ]; exact rfl) rfl hreg1 [true, true, false, false, false, true, true, true, true, true, false, false] (by kernel_rfl)
        ⟨ZSee.val (by kernel_rfl) (fun W _ => by kernel_rfl),
          ZSee.val (by kernel_rfl) (fun W _ => by kernel_rfl),
          ZSee.val (by kernel_rfl) (fun W _ => by kernel_rfl),
          ZSee.val (by kernel_rfl) (fun W hW => by have hc := HCL.out W hW.2; go_simp; done),
          ZSee.val (by kernel_rfl) (fun W _ => by kernel_rfl),
          ZSee.val (by kernel_rfl) (fun W hW => by have hc := HCL.out W hW.2; go_simp; done),
          ZSee.val (by kernel_rfl) (fun W _ => by kernel_rfl), trivial⟩
        (fun o ho => by
          obtain rfl := Option.some.inj ho
          exact ZTurn.val (by kernel_rfl) (fun W hW => ⟨_, _, by go_simp, W, hW, rfl, rfl⟩))
        (fun u W0 hW0 => ?_)
      obtain ⟨W1, _, rfl, _⟩ := hW0
      generalize W1.heap.size = bz
      refine ⟨[], _, rfl, (by simp only [zUpd, List.getD_cons_succ, List.getD_cons_zero, List.set_cons_succ, List.set_cons_zero]; exact rfl), fun hreg2 => ?_⟩
      refine ZAt.weaken (S' := fun W' => ∃ W, (Val3 (fun b => w8.heap.size ≤ b) W ⟨kind, text, list, fields, ranked⟩ (.slice y1 list.length z1) (.slice y2 fields.length z2) (.slice y3 ranked.length z3) ∧ Below w8.heap.size w8 W) ∧ W.heap.size = bz ∧ W' = W.alloc (.cells #[.string ⟨key.toArray⟩, .int .i64 kind, .string ⟨text.toArray⟩, .slice y1 list.length z1, .slice y2 fields.length z2, .slice y3 ranked.length z3, .int .i64 due, .int .u64 ver] 133)) (fun W' hW => ?_) ?_
      · obtain ⟨W, h1, h2, h3⟩ := hW
        exact ⟨W, h1, by simp at h2; exact h2.symm, h3⟩
      refine ZAt.step (fun v W' => ∃ o5 W2, Row o5 W' [9, 0] 133 8 v (k + 1) (evC Y ++ (#[.string ⟨key.toArray⟩, .int .i64 kind, .string ⟨text.toArray⟩, .slice y1 list.length z1, .slice y2 fields.length z2, .slice y3 ranked.length z3, .int .i64 due, .int .u64 ver] : Array Value).toList) ∧ Stp [9, 0] (o1.from wr.heap.size [9, 1]) W2 o5 W' ∧ Val3 (fun b => w8.heap.size ≤ b) W2 ⟨kind, text, list, fields, ranked⟩ (.slice y1 list.length z1) (.slice y2 fields.length z2) (.slice y3 ranked.length z3) ∧ Below w8.heap.size w8 W2) 11 (by simp only [zFin, Act.put, List.setIfInBounds_toArray, List.set_cons_zero, List.set_cons_succ]; exact rfl) rfl hreg2 [true, false, false, false, false, false, false, false, false, false, false, false] (by kernel_rfl)
        ⟨ZSee.val (by kernel_rfl) (fun W _ => by kernel_rfl), trivial⟩
        (fun o ho => by
          obtain rfl := Option.some.inj ho
          refine ZTurn.app (by kernel_rfl) (.tmp 22) (.tmp 32) 67 67 rfl 133 i0 _ 8 128 Tryz.underlying67 hi0 hz0 hz1 hz2 rfl rfl rfl ?_
          rintro W' ⟨W, ⟨hv4, hB4⟩, rfl, rfl⟩
          have hBW : Below wr.heap.size wr W := HB8.out.trans (hB4.mono HB8.out.size)
          have hBA : Below W.heap.size W (W.alloc (.cells #[.string ⟨key.toArray⟩, .int .i64 kind, .string ⟨text.toArray⟩, .slice y1 list.length z1, .slice y2 fields.length z2, .slice y3 ranked.length z3, .int .i64 due, .int .u64 ver] 133)) := (Below.refl _ _).alloc (Nat.le_refl _) _
          exact ⟨_, _, _, _, _, _, (HROW.out.from (r := [9, 1])).below' (hBW.trans (hBA.mono hBW.size)), (vw_newE (w := W) #[.string ⟨key.toArray⟩, .int .i64 kind, .string ⟨text.toArray⟩, .slice y1 list.length z1, .slice y2 fields.length z2, .slice y3 ranked.length z3, .int .i64 due, .int .u64 ver] 133 8 rfl).src (P := Tryz.prog) Tryz.underlying67 (by intro u hu; simp at hu; rcases hu with rfl | rfl | rfl | rfl | rfl | rfl | rfl | rfl <;> rfl), by unfold maxLen; omega, by omega,
            fun v' w' ow' h1 h2 => ⟨ow', _, h1, h2, hv4.below hBA, hB4.trans (hBA.mono hB4.size)⟩⟩)
        (fun u W0 hW0 => ⟨[], _, rfl, (by simp only [zUpd, List.getD_cons_succ, List.getD_cons_zero, List.set_cons_succ, List.set_cons_zero]; exact rfl), fun hreg3 => ?_⟩)
      refine ZAt.done (by simp only [zFin, Act.put, List.setIfInBounds_toArray, List.set_cons_zero, List.set_cons_succ]; exact rfl) rfl hreg3 [false, false, false, false, false, false, false, false, false, false, false, false] (by kernel_rfl) trivial ?_
      clear hreg0 hreg1 hreg2 hreg3
      rintro w5 ⟨o5, W2, hrow5, hst5, hv5, hB5⟩
      have HROW5 := Lib.hid hrow5
      have HST5 := Lib.hid hst5
      have HV5 := Lib.hid hv5
      have HBA := Lib.hid (HB8.out.trans (hB5.mono HB8.out.size))
      clear hrow5 hst5 hv5 hB5 hW0 HCL HCP
      simp only [List.drop_succ_cons, List.drop_zero]
      go_wp2_with fail
      go_roundw
      case rel =>
        have hf2 : ∀ b, o1.from wr.heap.size [9, 1] b = [9, 1] ↔ (o1 b = [9, 1] ∧ b < wr.heap.size) ∨ wr.heap.size ≤ b := fun b => by
          rcases Nat.lt_or_ge b wr.heap.size with h | h
          · rw [Roles.from_old h]; constructor
            · exact fun e => .inl ⟨e, h⟩
            · rintro (e | e)
              · exact e.1
              · omega
          · rw [Roles.from_new h]; exact ⟨fun _ => .inr h, fun _ => rfl⟩
        refine ⟨k + 1, Y ++ [⟨key, ⟨kind, text, list, fields, ranked⟩, due, ver, .slice y1 list.length z1, .slice y2 fields.length z2, .slice y3 ranked.length z3⟩], o5, hkl, by go_num, ?_, ?_, ?_, ?_⟩
        · rw [evC_app]; exact HROW5.out
        · rw [HX.out, List.map_append, HCO.out]; rfl
        · intro e he
          rcases List.mem_append.1 he with he | he
          · obtain ⟨h1, h2⟩ := HEV.out e he
            exact ⟨((h1.lim.imp fun b hb => (hf2 b).2 (.inl hb)).below HBA.out).keep HST5.out (by decide), h2⟩
          · simp at he
            subst he
            exact ⟨(HV5.out.imp fun b hb => (hf2 b).2 (.inr (by have := HSZ8.out; omega))).keep HST5.out (by decide), HSM.out⟩
        · exact HST.out.trans ((Stp.from0 [9] o1 wr [9, 1]).trans ((Stp.ofBelow [9] _ HBA.out).trans (HST5.out.wide (by decide))))
      case measure => simp [intOf]; omega
    · obtain rfl : k = X.length := by omega
      have D := Lib.hid (show EntDid w X (.returned (.slice av X.length cav)) wr from by
        have hB := hst.below0
        have hlo : ∀ b, o1 b = [9, 0] ∨ o1 b = [9, 1] → w1.heap.size ≤ b := fun b hb => by
          rcases Nat.lt_or_ge b w1.heap.size with h | h
          · have := hst.old b h
            rw [this] at hb
            unfold none0 at hb
            simp at hb
          · exact h
        have hle := HB1.out.size
        exact ⟨_, Y, rfl, hrow.vw.imp (fun b hb => Nat.le_trans hle (hlo b (.inl hb))), fun e he => ⟨(hev e he).1.imp (fun b hb => Nat.le_trans hle (hlo b (.inr hb))), (hev e he).2⟩, by rw [hco, List.take_length], HB1.out.trans (hB.mono hle)⟩)
      clear hrow hco hev hst HVW HAT HH1 HB1
      go_wp2_with fail
      go_ret
      exact D.out
end
end Go.Proofs.YthojmgjgmbnopaaGreatDoor
