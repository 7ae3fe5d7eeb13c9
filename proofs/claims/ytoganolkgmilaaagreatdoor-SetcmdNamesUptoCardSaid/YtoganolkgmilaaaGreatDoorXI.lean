import Derived.Test.YtoganolkgmilaaaGreatDoorXF
import Derived.Test.YtoganolkgmilaaaGreatDoorXH
import Derived.Sort.OwnSorted
import Derived.Shelf.Slices.CompactS
import Derived.Shelf.Slices.In.SortNone
import Derived.Deep.QuietTactic
import Derived.BigQuiet
namespace Go.Proofs.YtoganolkgmilaaaGreatDoor
open Go Go.RowKit Go.Sort
/-! members: the set of a list, and two sets gone through. -/
def MDid (w : World) (l : List Tx) (e : Ending) (w' : World) : Prop :=
  ∃ a c, e = .returned (.slice a l.length c) ∧ Vw (fun b => w.heap.size ≤ b) w' (.slice a l.length c) 1 l.length (l.map txt) ∧ Below w.heap.size w w'
theorem own_vw {w' : World} {base g n cap : Nat} {e : TypeId} {xs : List Value} (h : w'.ownsRow base e 1 (.slice (some ⟨g, 0, none⟩) n cap) n xs) : Vw (fun b => base ≤ b) w' (.slice (some ⟨g, 0, none⟩) n cap) 1 n xs := by
  rcases h.2 with ⟨h1, _⟩ | ⟨g2, cap2, cur, h1, h2, h3, h4, h5, h6, h7⟩
  · cases h1
  · injection h1 with e1 _ e3
    injection e1 with e1
    injection e1 with e1 _ _
    subst e1 e3
    refine ⟨⟨_, _, rfl, h4, h5, .inr ⟨g, 0, rfl, (Array.getElem?_eq_some_iff.1 h3).1, h2, fun k u hk => ?_⟩⟩, h.1⟩
    have hl := (List.getElem?_eq_some_iff.1 hk).1
    rw [h.1] at hl
    rw [Nat.zero_add]
    unfold World.cell?
    simp only [h3]
    rw [← hk, ← h7, List.getElem?_take, if_pos hl]
    simp
theorem grown_below {w w1 w2 : World} {g : Nat} (hB : Below w.heap.size w w1) (hg : w.heap.size ≤ g) (hgr : w1.grownBy w2 (some g)) : Below w.heap.size w w2 :=
  hB.trans ⟨hgr.os, hgr.tape, hgr.output, hgr.size, fun b hb => hgr.block b (Nat.lt_of_lt_of_le hb hB.size) (by simp; omega)⟩
set_option maxRecDepth 10000 in
set_option maxHeartbeats 2000000 in
theorem mof_ok {A : Nat → Prop} {w : World} {v : Value} {l : List Tx} (h : Vw A w v 1 l.length (l.map txt)) (hn : l.length ≤ 1099511627776) : Calls Tryz.prog 97 #[v] w (MDid w (ofL l)) := by
  have HC := Lib.hid (cloneS_ok h (one_list l) hn)
  obtain ⟨a, cap, rfl, _⟩ := id h.slice
  clear h
  go_enter Tryz.func97, Tryz.ntmps97
  go_wp2_with fail
  refine HC.out.mono ?_; rintro e w1 ⟨v1, rfl, hF⟩
  rcases id hF.own.2 with ⟨rfl, h0⟩ | ⟨g, cap1, cur, rfl, hg, hb, h4, h5, h6, h7⟩
  · have hl : l = [] := List.eq_nil_of_length_eq_zero h0
    subst hl
    have HB := Lib.hid hF.below
    clear hF HC
    go_wp2_with fail
    refine (show Calls Tryz.prog 127 #[.slice none 0 0] w1 fun e w' => e = .returned (.tuple #[]) ∧ w' = w1 from Tryz.slices_Sort_string_none none 0 w1).mono ?_; rintro e w2 ⟨rfl, rfl⟩
    go_wp2_with fail
    refine (show Calls Tryz.prog 128 #[.slice none 0 0] w2 fun e w' => e = .returned (.slice none 0 0) ∧ w' = w2 from Tryz.slices_Compact_string_empty none 0 w2).mono ?_; rintro e w3 ⟨rfl, rfl⟩
    go_wp2_with fail
    refine (clipS_ok (Vw.nil (fun b => w.heap.size ≤ b) w3 1)).mono ?_; rintro e w4 ⟨v4, rfl, rfl, hv⟩
    obtain ⟨a4, c4, rfl, _⟩ := id hv.slice
    have HV := Lib.hid hv
    clear hv
    go_wp2_with fail
    go_ret
    exact ⟨a4, c4, rfl, HV.out, HB.out⟩
  · have hB1 := hF.below
    have hgl : g < w1.heap.size := (Array.getElem?_eq_some_iff.1 hb).1
    rw [Nat.mul_one] at h7
    have HSO := Lib.hid (show Calls Tryz.prog 127 #[.slice (some ⟨g, 0, none⟩) l.length cap1] w1 _ from Tryz.slices_Sort_string g 0 cap1 l w1 (holds_of_block hb h7) hgl (by omega))
    have HP := Lib.hid (show w.heap.size ≤ g ∧ w1.heap[g]? = some (.cells cur 9 (0, 0)) ∧ l.length ≤ cap1 ∧ cap1 ≤ maxLen ∧ cur.size = cap1 * 1 ∧ Below w.heap.size w w1 from ⟨hg, hb, h4, h5, h6, hB1⟩)
    clear hF hg hb h4 h5 h6 h7 hB1 hgl HC
    go_wp2_with fail
    refine HSO.out.mono ?_; rintro e w2 ⟨rfl, n, os, rfl⟩
    obtain ⟨hg, hb, h4, h5, h6, hB1⟩ := HP.out
    have hml : (l.mergeSort fun x y => decide (x ≤ y)).length = l.length := List.length_mergeSort _
    have hb2 := heap_sorted (n := n) (os := os) (l.mergeSort fun x y => decide (x ≤ y)).toArray hb
    have ht2 := take_putCells cur (l.mergeSort fun x y => decide (x ≤ y)) (by omega)
    have hB2 := grown_below hB1 hg (grownBy_sorted (w := w1) (g := g) (n := n) (os := os) (l.mergeSort fun x y => decide (x ≤ y)).toArray)
    have hs2 : (putCells encStr 0 (l.mergeSort fun x y => decide (x ≤ y)).toArray cur).size = cap1 * 1 := by simp [putCells, h6]
    have hce := compact_ofL l
    have hmem := hml
    generalize (l.mergeSort fun x y => decide (x ≤ y)) = zs at *
    generalize Sort.grow (Sort.putRow encStr (Sort.ahead w1 n) g 0 zs.toArray) os = w2 at *
    generalize putCells encStr 0 zs.toArray cur = cur2 at *
    have hcl : (ofL l).length ≤ l.length := ofL_len l
    have hco : Calls Tryz.prog 128 #[.slice (some ⟨g, 0, none⟩) zs.length cap1] w2 _ := Tryz.slices_Compact_string g 0 cap1 zs w2 (holds_of_block hb2 ht2) (by omega) (by omega)
    rw [hce, hml] at hco
    have HCO := Lib.hid hco
    have HP2 := Lib.hid (show w.heap.size ≤ g ∧ w2.heap[g]? = some (.cells cur2 9 (0, 0)) ∧ cur2.size = cap1 * 1 ∧ Below w.heap.size w w2 ∧ l.length ≤ cap1 ∧ cap1 ≤ maxLen from ⟨hg, hb2, hs2, hB2, h4, h5⟩)
    clear hg hb h4 h5 h6 hB1 hb2 ht2 hB2 hs2 hco HP HSO hce hmem
    go_wp2_with fail
    refine HCO.out.mono ?_; rintro e w3 ⟨rfl, q, rfl⟩
    obtain ⟨hg, hb2, hs2, hB2, h4, h5⟩ := HP2.out
    have hown := ownsRow_sorted (os := #[]) (n := q) (ts := ofL l ++ List.replicate (l.length - (ofL l).length) []) (ss := l) (by simp; omega) hg hb2 h4 h5 hs2
    have hgr := grownBy_sorted (w := w2) (g := g) (n := q) (os := #[]) (ofL l ++ List.replicate (l.length - (ofL l).length) []).toArray
    rw [Sort.grow_empty] at hown hgr
    have hB3 := grown_below hB2 hg hgr
    have hv3 := vw_head (own_vw hown) (ofL l).length hcl
    rw [List.map_append, List.take_left' (by simp)] at hv3
    have HB3 := Lib.hid hB3
    have HV3 := Lib.hid hv3
    clear hg hb2 hs2 hB2 h4 h5 hown hgr hB3 hv3 HP2 HCO
    generalize Sort.putRow encStr (Sort.ahead w2 q) g 0 _ = w3 at *
    go_wp2_with fail
    refine (clipS_ok (xs := (ofL l).map txt) HV3.out).mono ?_; rintro e w4 ⟨v4, rfl, rfl, hv⟩
    obtain ⟨a4, c4, rfl, _⟩ := id hv.slice
    have HV := Lib.hid hv
    clear hv
    go_wp2_with fail
    go_ret
    exact ⟨a4, c4, rfl, HV.out, HB3.out⟩
section
variable {f b s : Bool} {x y : Tx} {xs ys : List Tx}
theorem mergeL_na : mergeL f b s (x :: xs) [] = if f = true then x :: mergeL f b s xs [] else mergeL f b s xs [] := by rw [mergeL]
theorem mergeL_nb : mergeL f b s [] (y :: ys) = if s = true then y :: mergeL f b s [] ys else mergeL f b s [] ys := by rw [mergeL]
theorem mergeL_a (h : Op.bytesLess x y = true) : mergeL f b s (x :: xs) (y :: ys) = if f = true then x :: mergeL f b s xs (y :: ys) else mergeL f b s xs (y :: ys) := by rw [mergeL, if_pos h]
theorem mergeL_b (h : Op.bytesLess x y = false) (k : Op.bytesLess y x = true) : mergeL f b s (x :: xs) (y :: ys) = if s = true then y :: mergeL f b s (x :: xs) ys else mergeL f b s (x :: xs) ys := by rw [mergeL, if_neg (by rw [show ltB x y = false from h]; decide), if_pos k]
theorem mergeL_ab (h : Op.bytesLess x y = false) (k : Op.bytesLess y x = false) : mergeL f b s (x :: xs) (y :: ys) = if b = true then x :: mergeL f b s xs ys else mergeL f b s xs ys := by rw [mergeL, if_neg (by rw [show ltB x y = false from h]; decide), if_neg (by rw [show ltB y x = false from k]; decide)]
end
def lenV : Value → Nat
  | .slice _ n _ => n
  | _ => 0
theorem vw_rest {A : Nat → Prop} {w : World} {v : Value} {x : Tx} {xs : List Tx} (h : Vw A w v 1 (xs.length + 1) ((x :: xs).map txt)) :
    ∃ b off c a' c', v = .slice (some ⟨b, off, none⟩) (xs.length + 1) c ∧ w.cell? ⟨b, off, none⟩ = some (.string ⟨x.toArray⟩) ∧ A b ∧ Vw A w (.slice a' xs.length c') 1 xs.length (xs.map txt) ∧
      (∀ W, (Instr.slice 22 v (some (.int .i64 1)) none none).run Tryz.prog W = .ok (.slice a' xs.length c') W) := by
  obtain ⟨b, off, c, rfl, _, hA, hc⟩ := vw_head1 h
  obtain ⟨a', c', _, h2, _, hv⟩ := vw_cut h 1 (xs.length + 1) (by omega) (Nat.le_refl _)
  refine ⟨b, off, c, a', c', rfl, hc, hA, ?_, fun W => h2 rfl W⟩
  have e : (((x :: xs).map txt).drop 1).take (xs.length + 1 - 1) = xs.map txt := by simp; exact List.take_of_length_le (by simp)
  rw [e] at hv
  exact hv
/-- Two rising lists gone through: what is left of both, what is out. -/
def MgRel (w0 : World) (f s b : Bool) (R : List Tx) (va vb vo : Value) (wr : World) : Prop :=
  ∃ xs ys rs o', Vw (Old w0) w0 va 1 xs.length (xs.map txt) ∧ Vw (Old w0) w0 vb 1 ys.length (ys.map txt) ∧ Row o' wr [9, 0] 9 1 vo rs.length (rs.map txt) ∧ Stp [9] none0 w0 o' wr ∧ rs ++ mergeL f b s xs ys = R ∧ rs.length + xs.length + ys.length ≤ 4398046511104
theorem MgRel.step {w0 : World} {f s b : Bool} {R rs : List Tx} {va vb vo : Value} {wr : World} {o' : Roles} {xs ys : List Tx} (h1 : Vw (Old w0) w0 va 1 xs.length (xs.map txt)) (h2 : Vw (Old w0) w0 vb 1 ys.length (ys.map txt)) (h3 : Row o' wr [9, 0] 9 1 vo rs.length (rs.map txt)) (h4 : Stp [9] none0 w0 o' wr)
    (h5 : rs ++ mergeL f b s xs ys = R) (h6 : rs.length + xs.length + ys.length ≤ 4398046511104) : MgRel w0 f s b R va vb vo wr := ⟨xs, ys, rs, o', h1, h2, h3, h4, h5, h6⟩
theorem MgRel.drewN {w0 : World} {f s b : Bool} {R : List Tx} {va vb vo : Value} {wr : World} (h : MgRel w0 f s b R va vb vo wr) (q : Nat) : MgRel w0 f s b R va vb vo (wr.drewN q) := by
  obtain ⟨xs, ys, rs, o', h1, h2, h3, h4, h5, h6⟩ := h
  exact ⟨xs, ys, rs, o', h1, h2, h3.drewN q, h4.drewN q, h5, h6⟩
set_option maxRecDepth 10000 in
set_option maxHeartbeats 20000000 in
theorem mmerge_ok {w : World} {va vb : Value} {A B : Nat → Prop} (f b s : Bool) {xs ys : List Tx} (ha0 : Vw A w va 1 xs.length (xs.map txt)) (hb0 : Vw B w vb 1 ys.length (ys.map txt)) (hl : xs.length + ys.length ≤ 2199023255552) :
    Calls Tryz.prog 98 #[va, vb, .bool f, .bool b, .bool s] w fun e w' => ∃ v', e = .returned v' ∧ Fresh w w' 9 1 v' (mergeL f b s xs ys).length ((mergeL f b s xs ys).map txt) := by
  have ha := ha0.old
  have hb := hb0.old
  clear ha0 hb0
  have hat : MgRel w f s b (mergeL f b s xs ys) va vb (.slice none 0 0) w := ⟨xs, ys, [], none0, ha, hb, Row.nil _ _ _ _ _, Stp.refl _ _ _, rfl, by simp; omega⟩
  generalize mergeL f b s xs ys = R at *
  obtain ⟨i0, hi0, hz0, hz1, hz2⟩ := info_parts infoS
  have HAT := Lib.hid hat
  obtain ⟨a1, c1, rfl, _⟩ := id ha.slice
  obtain ⟨a2, c2, rfl, _⟩ := id hb.slice
  clear ha hb hat
  go_enter Tryz.func98, Tryz.ntmps98
  go_wp2_with fail
  go_loopw [0, 1, 11] (fun va vb vo wr => MgRel w f s b R va vb vo wr) (fun va vb _ _ => lenV va + lenV vb)
  case atStart => exact HAT.out
  case round =>
    clear HAT
    obtain ⟨xs, ys, rs, o1, hva, hvb, hrow, hst, hR, hlen⟩ := hrel
    obtain ⟨ao, co, rfl, _⟩ := id hrow.slice
    have hm1 : rs.length + 1 ≤ maxLen := by unfold maxLen; omega
    have hm2 : (rs.length + 1) * 16 ≤ 140737488355328 := by omega
    cases xs with
    | nil =>
      cases ys with
      | nil =>
        obtain ⟨a1, c1, rfl, _⟩ := id hva.slice
        obtain ⟨a2, c2, rfl, _⟩ := id hvb.slice
        have hRr : rs = R := by rw [← hR]; simp [mergeL]
        have D := Lib.hid (show Fresh w wr 9 1 (.slice ao rs.length co) R.length (R.map txt) by subst hRr; exact hrow.fresh2 (by decide) hst)
        clear hva hvb hrow hst hR
        go_wp2_with fail
        go_ret
        exact ⟨_, rfl, D.out⟩
      | cons y ys =>
        obtain ⟨a1, c1, rfl, _⟩ := id hva.slice
        obtain ⟨bb, offb, cb, b', cb', rfl, hcb0, hbb, hvbt, hsb⟩ := vw_rest hvb
        have hcb : wr.cell? ⟨bb, offb, none⟩ = some (.string ⟨y.toArray⟩) := by rw [(bcell hst.below0).1 _ _ hbb]; exact hcb0
        clear hcb0
        have hnb : (0 : Int) < ((ys.length + 1 : Nat) : Int) := by omega
        have heb : (((ys.length + 1 : Nat) : Int) == 0) = false := beq_eq_false_iff_ne.2 (by omega)
        have heb2 : ((ys.length : Int) + 1 == 0) = false := beq_eq_false_iff_ne.2 (by omega)
        have hlb : (y :: ys).length = ys.length + 1 := rfl
        cases s with
        | true =>
          have HD := Lib.hid (fun (vo : Value) (w5 : World) (o5 : Roles) (h3 : Row o5 w5 [9, 0] 9 1 vo (rs ++ [y]).length ((rs ++ [y]).map txt)) (h4 : Stp [9] none0 w o5 w5) => MgRel.step (R := R) hva hvbt h3 h4 (by rw [← hR, mergeL_nb, if_pos rfl, List.append_assoc]; rfl) (by simp at hlen ⊢; omega))
          have HRW0 := Lib.hid (fun (W1 : World) (hW1 : Below wr.heap.size wr W1) => show Row o1 (W1.alloc (.cells #[txt y] 9)) [9, 0] 9 1 (.slice ao rs.length co) rs.length (rs.map txt) ∧ Stp [9] none0 w o1 (W1.alloc (.cells #[txt y] 9)) from ⟨hrow.below (hW1.alloc hW1.size _), hst.trans (Stp.ofBelow [9] o1 (hW1.alloc hW1.size _))⟩)
          have HRW := Lib.hid (fun (q1 : Nat) => HRW0.out (wr.drewN q1) (below_drewN (Below.refl _ wr) q1))
          clear HRW0
          have HSRC := Lib.hid (fun (q1 : Nat) => (vw_new1 (wr.drewN q1) y 9).src (P := Tryz.prog) Tryz.underlying22 (one_list [y]))
          clear hva hvb hrow hst hR hlen
          try clear hvat
          try clear hvbt
          unfold txt at HRW HSRC
          go_wp2_with fail
          go_quiet (fail)
          go_wp2_with (first | (
            at_builtin
            have hmine := HSRC
            clear hmine
            refine wpList_app _ rfl _ _ 22 22 rfl 9 i0 _ 1 16 Tryz.underlying22 hi0 hz0 hz1 hz2 rfl rfl (HRW.out _).1 rfl (HSRC.out _) hm1 hm2 ?_
            intro v' w5 o5 hrow5 hst5
            obtain ⟨a5, c5, rfl, _⟩ := id hrow5.slice
            have e1 : (rs ++ [y]).length = rs.length + 1 := by simp
            have D := Lib.hid (HD.out (.slice a5 (rs.length + 1) c5) w5 o5 (by rw [e1, List.map_append]; exact hrow5) ((HRW.out _).2.trans (hst5.wide (by decide))))
            clear hrow5 hst5 HD HRW HSRC e1))
          go_quiet (fail)
          go_wp2_with (first | (
            at_builtin
            have hmine := HSRC
            clear hmine
            refine wpList_app _ rfl _ _ 22 22 rfl 9 i0 _ 1 16 Tryz.underlying22 hi0 hz0 hz1 hz2 rfl rfl (HRW.out _).1 rfl (HSRC.out _) hm1 hm2 ?_
            intro v' w5 o5 hrow5 hst5
            obtain ⟨a5, c5, rfl, _⟩ := id hrow5.slice
            have e1 : (rs ++ [y]).length = rs.length + 1 := by simp
            have D := Lib.hid (HD.out (.slice a5 (rs.length + 1) c5) w5 o5 (by rw [e1, List.map_append]; exact hrow5) ((HRW.out _).2.trans (hst5.wide (by decide))))
            clear hrow5 hst5 HD HRW HSRC e1))
          go_roundw
          case rel => first | exact D.out | exact D.out.drewN _
          case measure => simp [lenV]; try omega
        | false =>
          have HD := Lib.hid (fun (W1 : World) (hW1 : Below wr.heap.size wr W1) => MgRel.step (R := R) hva hvbt (hrow.below hW1) (hst.trans (Stp.ofBelow [9] o1 hW1)) (by rw [← hR, mergeL_nb, if_neg (by decide)]) (by simp at hlen ⊢; omega))
          clear hva hvb hrow hst hR hlen
          try clear hvat
          try clear hvbt
          go_wp2_with fail
          go_quiet (fail)
          go_wp2_with fail
          go_quiet (fail)
          go_wp2_with fail
          go_roundw
          case rel => first | exact HD.out _ (below_drewN (Below.refl _ wr) _) | exact (HD.out _ (below_drewN (Below.refl _ wr) _)).drewN _ | exact ((HD.out _ (below_drewN (Below.refl _ wr) _)).drewN _).drewN _
          case measure => simp [lenV]; try omega
    | cons x xs =>
      cases ys with
      | nil =>
        obtain ⟨a2, c2, rfl, _⟩ := id hvb.slice
        obtain ⟨ba, offa, ca, a', ca', rfl, hca0, hba, hvat, hsa⟩ := vw_rest hva
        have hca : wr.cell? ⟨ba, offa, none⟩ = some (.string ⟨x.toArray⟩) := by rw [(bcell hst.below0).1 _ _ hba]; exact hca0
        clear hca0
        have hna : (0 : Int) < ((xs.length + 1 : Nat) : Int) := by omega
        have hea : (((xs.length + 1 : Nat) : Int) == 0) = false := beq_eq_false_iff_ne.2 (by omega)
        have hea2 : ((xs.length : Int) + 1 == 0) = false := beq_eq_false_iff_ne.2 (by omega)
        have hla : (x :: xs).length = xs.length + 1 := rfl
        cases f with
        | true =>
          have HD := Lib.hid (fun (vo : Value) (w5 : World) (o5 : Roles) (h3 : Row o5 w5 [9, 0] 9 1 vo (rs ++ [x]).length ((rs ++ [x]).map txt)) (h4 : Stp [9] none0 w o5 w5) => MgRel.step (R := R) hvat hvb h3 h4 (by rw [← hR, mergeL_na, if_pos rfl, List.append_assoc]; rfl) (by simp at hlen ⊢; omega))
          have HRW0 := Lib.hid (fun (W1 : World) (hW1 : Below wr.heap.size wr W1) => show Row o1 (W1.alloc (.cells #[txt x] 9)) [9, 0] 9 1 (.slice ao rs.length co) rs.length (rs.map txt) ∧ Stp [9] none0 w o1 (W1.alloc (.cells #[txt x] 9)) from ⟨hrow.below (hW1.alloc hW1.size _), hst.trans (Stp.ofBelow [9] o1 (hW1.alloc hW1.size _))⟩)
          have HRW := Lib.hid (fun (q1 : Nat) => HRW0.out (wr.drewN q1) (below_drewN (Below.refl _ wr) q1))
          clear HRW0
          have HSRC := Lib.hid (fun (q1 : Nat) => (vw_new1 (wr.drewN q1) x 9).src (P := Tryz.prog) Tryz.underlying22 (one_list [x]))
          clear hva hvb hrow hst hR hlen
          try clear hvat
          try clear hvbt
          unfold txt at HRW HSRC
          go_wp2_with fail
          go_quiet (fail)
          go_wp2_with (first | (
            at_builtin
            have hmine := HSRC
            clear hmine
            refine wpList_app _ rfl _ _ 22 22 rfl 9 i0 _ 1 16 Tryz.underlying22 hi0 hz0 hz1 hz2 rfl rfl (HRW.out _).1 rfl (HSRC.out _) hm1 hm2 ?_
            intro v' w5 o5 hrow5 hst5
            obtain ⟨a5, c5, rfl, _⟩ := id hrow5.slice
            have e1 : (rs ++ [x]).length = rs.length + 1 := by simp
            have D := Lib.hid (HD.out (.slice a5 (rs.length + 1) c5) w5 o5 (by rw [e1, List.map_append]; exact hrow5) ((HRW.out _).2.trans (hst5.wide (by decide))))
            clear hrow5 hst5 HD HRW HSRC e1))
          go_roundw
          case rel => first | exact D.out | exact D.out.drewN _
          case measure => simp [lenV]; try omega
        | false =>
          have HD := Lib.hid (fun (W1 : World) (hW1 : Below wr.heap.size wr W1) => MgRel.step (R := R) hvat hvb (hrow.below hW1) (hst.trans (Stp.ofBelow [9] o1 hW1)) (by rw [← hR, mergeL_na, if_neg (by decide)]) (by simp at hlen ⊢; omega))
          clear hva hvb hrow hst hR hlen
          try clear hvat
          try clear hvbt
          go_wp2_with fail
          go_quiet (fail)
          go_wp2_with fail
          go_roundw
          case rel => first | exact HD.out _ (below_drewN (Below.refl _ wr) _) | exact (HD.out _ (below_drewN (Below.refl _ wr) _)).drewN _ | exact ((HD.out _ (below_drewN (Below.refl _ wr) _)).drewN _).drewN _
          case measure => simp [lenV]; try omega
      | cons y ys =>
        obtain ⟨ba, offa, ca, a', ca', rfl, hca0, hba, hvat, hsa⟩ := vw_rest hva
        have hca : wr.cell? ⟨ba, offa, none⟩ = some (.string ⟨x.toArray⟩) := by rw [(bcell hst.below0).1 _ _ hba]; exact hca0
        clear hca0
        have hna : (0 : Int) < ((xs.length + 1 : Nat) : Int) := by omega
        have hea : (((xs.length + 1 : Nat) : Int) == 0) = false := beq_eq_false_iff_ne.2 (by omega)
        have hea2 : ((xs.length : Int) + 1 == 0) = false := beq_eq_false_iff_ne.2 (by omega)
        have hla : (x :: xs).length = xs.length + 1 := rfl
        obtain ⟨bb, offb, cb, b', cb', rfl, hcb0, hbb, hvbt, hsb⟩ := vw_rest hvb
        have hcb : wr.cell? ⟨bb, offb, none⟩ = some (.string ⟨y.toArray⟩) := by rw [(bcell hst.below0).1 _ _ hbb]; exact hcb0
        clear hcb0
        have hnb : (0 : Int) < ((ys.length + 1 : Nat) : Int) := by omega
        have heb : (((ys.length + 1 : Nat) : Int) == 0) = false := beq_eq_false_iff_ne.2 (by omega)
        have heb2 : ((ys.length : Int) + 1 == 0) = false := beq_eq_false_iff_ne.2 (by omega)
        have hlb : (y :: ys).length = ys.length + 1 := rfl
        rcases hxy : Op.bytesLess x y with _ | _
        · rcases hyx : Op.bytesLess y x with _ | _
          · skip
            cases b with
            | true =>
              have HD := Lib.hid (fun (vo : Value) (w5 : World) (o5 : Roles) (h3 : Row o5 w5 [9, 0] 9 1 vo (rs ++ [x]).length ((rs ++ [x]).map txt)) (h4 : Stp [9] none0 w o5 w5) => MgRel.step (R := R) hvat hvbt h3 h4 (by rw [← hR, mergeL_ab hxy hyx, if_pos rfl, List.append_assoc]; rfl) (by simp at hlen ⊢; omega))
              have HRW0 := Lib.hid (fun (W1 : World) (hW1 : Below wr.heap.size wr W1) => show Row o1 (W1.alloc (.cells #[txt x] 9)) [9, 0] 9 1 (.slice ao rs.length co) rs.length (rs.map txt) ∧ Stp [9] none0 w o1 (W1.alloc (.cells #[txt x] 9)) from ⟨hrow.below (hW1.alloc hW1.size _), hst.trans (Stp.ofBelow [9] o1 (hW1.alloc hW1.size _))⟩)
              have HRW := Lib.hid (fun (q1 : Nat) => HRW0.out (wr.drewN q1) (below_drewN (Below.refl _ wr) q1))
              clear HRW0
              have HSRC := Lib.hid (fun (q1 : Nat) => (vw_new1 (wr.drewN q1) x 9).src (P := Tryz.prog) Tryz.underlying22 (one_list [x]))
              clear hva hvb hrow hst hR hlen
              try clear hvat
              try clear hvbt
              unfold txt at HRW HSRC
              go_wp2_with fail
              go_quiet (fail)
              go_wp2_with (first | (
                at_builtin
                have hmine := HSRC
                clear hmine
                refine wpList_app _ rfl _ _ 22 22 rfl 9 i0 _ 1 16 Tryz.underlying22 hi0 hz0 hz1 hz2 rfl rfl (HRW.out _).1 rfl (HSRC.out _) hm1 hm2 ?_
                intro v' w5 o5 hrow5 hst5
                obtain ⟨a5, c5, rfl, _⟩ := id hrow5.slice
                have e1 : (rs ++ [x]).length = rs.length + 1 := by simp
                have D := Lib.hid (HD.out (.slice a5 (rs.length + 1) c5) w5 o5 (by rw [e1, List.map_append]; exact hrow5) ((HRW.out _).2.trans (hst5.wide (by decide))))
                clear hrow5 hst5 HD HRW HSRC e1))
              go_quiet (fail)
              go_wp2_with (first | (
                at_builtin
                have hmine := HSRC
                clear hmine
                refine wpList_app _ rfl _ _ 22 22 rfl 9 i0 _ 1 16 Tryz.underlying22 hi0 hz0 hz1 hz2 rfl rfl (HRW.out _).1 rfl (HSRC.out _) hm1 hm2 ?_
                intro v' w5 o5 hrow5 hst5
                obtain ⟨a5, c5, rfl, _⟩ := id hrow5.slice
                have e1 : (rs ++ [x]).length = rs.length + 1 := by simp
                have D := Lib.hid (HD.out (.slice a5 (rs.length + 1) c5) w5 o5 (by rw [e1, List.map_append]; exact hrow5) ((HRW.out _).2.trans (hst5.wide (by decide))))
                clear hrow5 hst5 HD HRW HSRC e1))
              go_quiet (fail)
              go_wp2_with (first | (
                at_builtin
                have hmine := HSRC
                clear hmine
                refine wpList_app _ rfl _ _ 22 22 rfl 9 i0 _ 1 16 Tryz.underlying22 hi0 hz0 hz1 hz2 rfl rfl (HRW.out _).1 rfl (HSRC.out _) hm1 hm2 ?_
                intro v' w5 o5 hrow5 hst5
                obtain ⟨a5, c5, rfl, _⟩ := id hrow5.slice
                have e1 : (rs ++ [x]).length = rs.length + 1 := by simp
                have D := Lib.hid (HD.out (.slice a5 (rs.length + 1) c5) w5 o5 (by rw [e1, List.map_append]; exact hrow5) ((HRW.out _).2.trans (hst5.wide (by decide))))
                clear hrow5 hst5 HD HRW HSRC e1))
              go_roundw
              case rel => first | exact D.out | exact D.out.drewN _
              case measure => simp [lenV]; try omega
            | false =>
              have HD := Lib.hid (fun (W1 : World) (hW1 : Below wr.heap.size wr W1) => MgRel.step (R := R) hvat hvbt (hrow.below hW1) (hst.trans (Stp.ofBelow [9] o1 hW1)) (by rw [← hR, mergeL_ab hxy hyx, if_neg (by decide)]) (by simp at hlen ⊢; omega))
              clear hva hvb hrow hst hR hlen
              try clear hvat
              try clear hvbt
              go_wp2_with fail
              go_quiet (fail)
              go_wp2_with fail
              go_quiet (fail)
              go_wp2_with fail
              go_quiet (fail)
              go_wp2_with fail
              go_roundw
              case rel => first | exact HD.out _ (below_drewN (Below.refl _ wr) _) | exact (HD.out _ (below_drewN (Below.refl _ wr) _)).drewN _ | exact ((HD.out _ (below_drewN (Below.refl _ wr) _)).drewN _).drewN _
              case measure => simp [lenV]; try omega
          · skip
            cases s with
            | true =>
              have HD := Lib.hid (fun (vo : Value) (w5 : World) (o5 : Roles) (h3 : Row o5 w5 [9, 0] 9 1 vo (rs ++ [y]).length ((rs ++ [y]).map txt)) (h4 : Stp [9] none0 w o5 w5) => MgRel.step (R := R) hva hvbt h3 h4 (by rw [← hR, mergeL_b hxy hyx, if_pos rfl, List.append_assoc]; rfl) (by simp at hlen ⊢; omega))
              have HRW0 := Lib.hid (fun (W1 : World) (hW1 : Below wr.heap.size wr W1) => show Row o1 (W1.alloc (.cells #[txt y] 9)) [9, 0] 9 1 (.slice ao rs.length co) rs.length (rs.map txt) ∧ Stp [9] none0 w o1 (W1.alloc (.cells #[txt y] 9)) from ⟨hrow.below (hW1.alloc hW1.size _), hst.trans (Stp.ofBelow [9] o1 (hW1.alloc hW1.size _))⟩)
              have HRW := Lib.hid (fun (q1 : Nat) => HRW0.out (wr.drewN q1) (below_drewN (Below.refl _ wr) q1))
              clear HRW0
              have HSRC := Lib.hid (fun (q1 : Nat) => (vw_new1 (wr.drewN q1) y 9).src (P := Tryz.prog) Tryz.underlying22 (one_list [y]))
              clear hva hvb hrow hst hR hlen
              try clear hvat
              try clear hvbt
              unfold txt at HRW HSRC
              go_wp2_with fail
              go_quiet (fail)
              go_wp2_with (first | (
                at_builtin
                have hmine := HSRC
                clear hmine
                refine wpList_app _ rfl _ _ 22 22 rfl 9 i0 _ 1 16 Tryz.underlying22 hi0 hz0 hz1 hz2 rfl rfl (HRW.out _).1 rfl (HSRC.out _) hm1 hm2 ?_
                intro v' w5 o5 hrow5 hst5
                obtain ⟨a5, c5, rfl, _⟩ := id hrow5.slice
                have e1 : (rs ++ [y]).length = rs.length + 1 := by simp
                have D := Lib.hid (HD.out (.slice a5 (rs.length + 1) c5) w5 o5 (by rw [e1, List.map_append]; exact hrow5) ((HRW.out _).2.trans (hst5.wide (by decide))))
                clear hrow5 hst5 HD HRW HSRC e1))
              go_quiet (fail)
              go_wp2_with (first | (
                at_builtin
                have hmine := HSRC
                clear hmine
                refine wpList_app _ rfl _ _ 22 22 rfl 9 i0 _ 1 16 Tryz.underlying22 hi0 hz0 hz1 hz2 rfl rfl (HRW.out _).1 rfl (HSRC.out _) hm1 hm2 ?_
                intro v' w5 o5 hrow5 hst5
                obtain ⟨a5, c5, rfl, _⟩ := id hrow5.slice
                have e1 : (rs ++ [y]).length = rs.length + 1 := by simp
                have D := Lib.hid (HD.out (.slice a5 (rs.length + 1) c5) w5 o5 (by rw [e1, List.map_append]; exact hrow5) ((HRW.out _).2.trans (hst5.wide (by decide))))
                clear hrow5 hst5 HD HRW HSRC e1))
              go_roundw
              case rel => first | exact D.out | exact D.out.drewN _
              case measure => simp [lenV]; try omega
            | false =>
              have HD := Lib.hid (fun (W1 : World) (hW1 : Below wr.heap.size wr W1) => MgRel.step (R := R) hva hvbt (hrow.below hW1) (hst.trans (Stp.ofBelow [9] o1 hW1)) (by rw [← hR, mergeL_b hxy hyx, if_neg (by decide)]) (by simp at hlen ⊢; omega))
              clear hva hvb hrow hst hR hlen
              try clear hvat
              try clear hvbt
              go_wp2_with fail
              go_quiet (fail)
              go_wp2_with fail
              go_quiet (fail)
              go_wp2_with fail
              go_roundw
              case rel => first | exact HD.out _ (below_drewN (Below.refl _ wr) _) | exact (HD.out _ (below_drewN (Below.refl _ wr) _)).drewN _ | exact ((HD.out _ (below_drewN (Below.refl _ wr) _)).drewN _).drewN _
              case measure => simp [lenV]; try omega
        · skip
          cases f with
          | true =>
            have HD := Lib.hid (fun (vo : Value) (w5 : World) (o5 : Roles) (h3 : Row o5 w5 [9, 0] 9 1 vo (rs ++ [x]).length ((rs ++ [x]).map txt)) (h4 : Stp [9] none0 w o5 w5) => MgRel.step (R := R) hvat hvb h3 h4 (by rw [← hR, mergeL_a hxy, if_pos rfl, List.append_assoc]; rfl) (by simp at hlen ⊢; omega))
            have HRW0 := Lib.hid (fun (W1 : World) (hW1 : Below wr.heap.size wr W1) => show Row o1 (W1.alloc (.cells #[txt x] 9)) [9, 0] 9 1 (.slice ao rs.length co) rs.length (rs.map txt) ∧ Stp [9] none0 w o1 (W1.alloc (.cells #[txt x] 9)) from ⟨hrow.below (hW1.alloc hW1.size _), hst.trans (Stp.ofBelow [9] o1 (hW1.alloc hW1.size _))⟩)
            have HRW := Lib.hid (fun (q1 : Nat) => HRW0.out (wr.drewN q1) (below_drewN (Below.refl _ wr) q1))
            clear HRW0
            have HSRC := Lib.hid (fun (q1 : Nat) => (vw_new1 (wr.drewN q1) x 9).src (P := Tryz.prog) Tryz.underlying22 (one_list [x]))
            clear hva hvb hrow hst hR hlen
            try clear hvat
            try clear hvbt
            unfold txt at HRW HSRC
            go_wp2_with fail
            go_quiet (fail)
            go_wp2_with (first | (
              at_builtin
              have hmine := HSRC
              clear hmine
              refine wpList_app _ rfl _ _ 22 22 rfl 9 i0 _ 1 16 Tryz.underlying22 hi0 hz0 hz1 hz2 rfl rfl (HRW.out _).1 rfl (HSRC.out _) hm1 hm2 ?_
              intro v' w5 o5 hrow5 hst5
              obtain ⟨a5, c5, rfl, _⟩ := id hrow5.slice
              have e1 : (rs ++ [x]).length = rs.length + 1 := by simp
              have D := Lib.hid (HD.out (.slice a5 (rs.length + 1) c5) w5 o5 (by rw [e1, List.map_append]; exact hrow5) ((HRW.out _).2.trans (hst5.wide (by decide))))
              clear hrow5 hst5 HD HRW HSRC e1))
            go_roundw
            case rel => first | exact D.out | exact D.out.drewN _
            case measure => simp [lenV]; try omega
          | false =>
            have HD := Lib.hid (fun (W1 : World) (hW1 : Below wr.heap.size wr W1) => MgRel.step (R := R) hvat hvb (hrow.below hW1) (hst.trans (Stp.ofBelow [9] o1 hW1)) (by rw [← hR, mergeL_a hxy, if_neg (by decide)]) (by simp at hlen ⊢; omega))
            clear hva hvb hrow hst hR hlen
            try clear hvat
            try clear hvbt
            go_wp2_with fail
            go_quiet (fail)
            go_wp2_with fail
            go_roundw
            case rel => first | exact HD.out _ (below_drewN (Below.refl _ wr) _) | exact (HD.out _ (below_drewN (Below.refl _ wr) _)).drewN _ | exact ((HD.out _ (below_drewN (Below.refl _ wr) _)).drewN _).drewN _
            case measure => simp [lenV]; try omega
end Go.Proofs.YtoganolkgmilaaaGreatDoor
