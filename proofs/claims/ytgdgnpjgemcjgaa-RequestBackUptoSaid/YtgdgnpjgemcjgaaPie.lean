import Derived.Test.YtgdgnpjgemcjgaaBeg
import Derived.Deep.LoopGhost
namespace Go.Proofs.Ytgdgnpjgemcjgaa
open Go Go.RowKit
theorem wholeR_nil (l : Lim) : wholeR (start l []) = ([], start l []) := by
  have h : (start l []).next = (.more, start l []) := by
    rw [next_reqR (by rfl)]
    have : reqR l [] = (.more, []) := by rw [reqR, reqF]; simp [thingR, lineR]
    show (match reqR l [] with | (.ok ws _, rest) => _ | (.more, rest) => _ | (.fault w, rest) => _) = _
    rw [this]; rfl
  exact wholeR_end h (fun _ h => by cases h)
theorem whole_piece {l : Lim} {S p : List UInt8} {acc : List (List (List UInt8))} {R : RI} (h : wholeR (start l S) = (acc, R)) : WholeI (start l (S ++ p)) acc (R.feed p) := by
  have := wholeR_app p (S.length + 1) (start l S) (by show S.length < _; omega)
  unfold WholeI
  rw [← start_feed, this, h]
theorem wholeI_len {l : Lim} {S : List UInt8} {acc : List (List (List UInt8))} {R : RI} (h : WholeI (start l S) acc R) : acc.length ≤ S.length := by
  have h2 := wholeF_len ((start l S).held.length + 1) (start l S)
  change (wholeR (start l S)).1.length ≤ S.length at h2
  rw [h, List.length_append] at h2
  omega
theorem flat_take {α : Type} {ps : List (List α)} {k : Nat} {x : List α} (h : ps[k]? = some x) : (ps.take (k + 1)).flatten = (ps.take k).flatten ++ x := by
  rw [List.take_add_one, h]; simp
theorem flat_bulk (ps : List (List UInt8)) (k : Nat) : (ps.take k).flatten.length ≤ bulkS ps := by
  unfold bulkS
  induction ps generalizing k with
  | nil => simp
  | cons y t ih =>
    cases k with
    | zero => simp
    | succ k => have := ih k; simp only [List.take_succ_cons, List.flatten_cons, List.length_append, List.map_cons, List.sum_cons]; omega
def PieRel (w : World) (p : Nat) (l : Lim) (lb : Array Value) (ps : List (List UInt8)) (sv g i : Value) (wr : World) : Prop :=
  ∃ (k : Nat) (R : RI) (acc : List (List (List UInt8))) (o' : Roles), k ≤ ps.length ∧ i = .int .i64 (k : Int) ∧ sv = .string ⟨((ps.take k).flatten).toArray⟩ ∧ Rd o' wr ([7] ++ [0]) p R ∧ LL o' wr ([7] ++ [2]) (reqRole [7]) g acc ∧ wholeR (start l (ps.take k).flatten) = (acc, R) ∧ Blk o' wr ([7] ++ [9]) w.heap.size lb 23 ∧ Stp [7] none0 w o' wr
def PieIn (w : World) (p : Nat) (l : Lim) (lb : Array Value) (S : List UInt8) (g : Nat) (gv : Value) (wr : World) : Prop :=
  ∃ (R : RI) (acc : List (List (List UInt8))) (o' : Roles), g = R.held.length ∧ Rd o' wr ([7] ++ [0]) p R ∧ LL o' wr ([7] ++ [2]) (reqRole [7]) gv acc ∧ WholeI (start l S) acc R ∧ Blk o' wr ([7] ++ [9]) w.heap.size lb 23 ∧ Stp [7] none0 w o' wr
theorem nextDid_stpB {o : Roles} {w w' : World} {r : List Nat} {k p b : Nat} {cs : Array Value} {T : TypeId} {R : RI} {e : Ending} (h : NextDid o w (r ++ [0]) (r ++ [1, k]) p R e w') {v : Value} {acc : List (List (List UInt8))} (hk : acc.length = k) (hL : LL o w (r ++ [2]) (reqRole r) v acc) (hB : Blk o w (r ++ [9]) b cs T) :
    ∃ o', Rd o' w' (r ++ [0]) p R.next.2 ∧ NextAns o' w' (r ++ [1, k]) R.next.1 e ∧ LL o' w' (r ++ [2]) (reqRole r) v acc ∧ Blk o' w' (r ++ [9]) b cs T ∧ Stp r o w o' w' := by
  obtain ⟨o1, w1, o', h1, h2, h3, h4⟩ := h
  refine ⟨o', h3, h4, (hL.keep h1 (np_app (by simp)) (fun i hi => ?_)).keep h2 (np_app (by simp)) (fun i hi => ?_), (hB.keep h1 (np_app (by simp))).keep h2 (np_app (by simp)), (h1.wide (List.prefix_append _ _)).trans (h2.wide (List.prefix_append _ _))⟩
  · simp only [reqRole, List.append_assoc]; exact np_app (by simp; omega)
  · simp only [reqRole, List.append_assoc]; exact np_app (by simp)
theorem Rd.below {o : Roles} {w w' : World} {q : List Nat} {p : Nat} {R : RI} (h : Rd o w q p R) (hB : Below w.heap.size w w') : Rd o w' q p R := ⟨h.blk.below hB, h.lim, h.few⟩
set_option maxRecDepth 10000 in
set_option maxHeartbeats 4000000 in
theorem pieces_law (w : World) (b a n : Int) (ps : List (List UInt8)) (v : Value) (hT : TextsIn w v ps) (hb : bulkS ps ≤ 1048576) : Calls Try.prog 9 #[limV b a n, v] w fun e w' => e = .returned (.bool true) ∧ Below w.heap.size w w' := by
  by_cases hl : LimI b a n
  · obtain ⟨va, cap, rfl, hc1, hc2, hcells⟩ := hT
    have HN := Lib.hid (fun W => new_ok hl (none0.put w.heap.size ([7] ++ [9])) W ([7] ++ [0]))
    have HWX := Lib.hid (fun S W (h : S.length ≤ 1048576) => whole_x b a n S (by omega) W)
    have hwp : ∀ S, wholeX b a n S = _ := fun S => wholeX_pos S hl
    unfold WX at HWX
    simp only [hwp] at HWX
    clear hwp
    have hla := limL_args hl
    have hlen := len_le_bulkS ps
    have hfb := flat_bulk ps
    have hst0 : Stp [7] none0 w (none0.put w.heap.size ([7] ++ [9])) (w.alloc (.cells #[.int .i64 b, .int .i64 a, .int .i64 n] 23)) := (Stp.refl [7] none0 w).alloc (r' := [7] ++ [9]) _ w.heap.size rfl
    have hlb0 : Blk (none0.put w.heap.size ([7] ++ [9])) (w.alloc (.cells #[.int .i64 b, .int .i64 a, .int .i64 n] 23)) ([7] ++ [9]) w.heap.size #[.int .i64 b, .int .i64 a, .int .i64 n] 23 := Blk.new none0 w ([7] ++ [9]) _ 23 _ rfl
    have HST0 := Lib.hid hst0
    have HLB0 := Lib.hid hlb0
    have HFB := Lib.hid hfb
    clear hl hst0 hlb0 hfb
    unfold limV at *
    go_enter Try.func9, Try.ntmps9
    go_wp2_with fail
    refine (HN.out _).mono ?_; rintro e w1 ⟨p, o1, rfl, hR, st1⟩
    generalize limL b a n = l at *
    have hat : PieRel w p l #[.int .i64 b, .int .i64 a, .int .i64 n] ps (.string ⟨#[]⟩) (.slice none 0 0) (.int .i64 0) w1 :=
      ⟨0, _, [], o1, Nat.zero_le _, rfl, rfl, hR, .nil _ _ _ _, wholeR_nil l, HLB0.out.keep st1 (np_app (by simp)), HST0.out.trans (st1.wide (List.prefix_append _ _))⟩
    clear hR st1 HST0 HLB0
    go_wp2_with fail
    go_loopw [7, 8, 9] (fun s g i wr => PieRel w p l #[.int .i64 b, .int .i64 a, .int .i64 n] ps s g i wr) (fun _ _ i _ => ps.length - (intOf i).toNat)
    case atStart => exact hat
    case round =>
      obtain ⟨k, R, acc, o', hk, rfl, rfl, hR, hL, hW, hLB, hst⟩ := hrel
      clear hat
      have hSl := HFB.out k
      by_cases hkl : k < ps.length
      · obtain ⟨x, hxk⟩ : ∃ x, ps[k]? = some x := ⟨_, List.getElem?_eq_getElem hkl⟩
        rcases hcells with hnil | ⟨bb, off, rfl, hbl, hcells⟩
        · subst hnil; exact absurd hkl (by simp)
        have hcell : wr.cell? ⟨bb, off + k, none⟩ = some (.string ⟨x.toArray⟩) := by rw [hst.below0.cell (p := ⟨bb, off + k, none⟩) hbl]; exact hcells k x hxk
        have hft := flat_take hxk
        have hSl2 := HFB.out (k + 1)
        rw [hft, List.length_append] at hSl2
        have hFT := Lib.hid hft
        generalize hS : (ps.take k).flatten = S at *
        have hszS : (⟨S.toArray⟩ : ByteArray).size = S.length := by simp [ByteArray.size]
        have hszx : (⟨x.toArray⟩ : ByteArray).size = x.length := by simp [ByteArray.size]
        have hsum := whole_sum (S.length + 1) (start l S) (by show S.length < _; omega)
        rw [hW] at hsum
        have hsum2 : R.used + R.held.length ≤ 0 + S.length := hsum.2.1
        have HF := feed_ok hR x (by omega)
        have HI := Lib.hid (whole_piece (p := x) hW)
        have HLB := Lib.hid hLB
        have HST := Lib.hid hst
        have HL := Lib.hid hL
        have HC := Lib.hid hcells
        clear hR hxk hft hL hW hLB hst hsum hcells
        go_wp2_with fail
        refine HF.mono ?_; rintro e w2 ⟨rfl, hR2, st2⟩
        have hat2 : PieIn w p l #[.int .i64 b, .int .i64 a, .int .i64 n] (S ++ x) (R.feed x).held.length _ w2 :=
          ⟨_, acc, o', rfl, hR2, HL.out.keep st2 (np_app (by simp)) (fun i hi => by simp only [reqRole, List.append_assoc]; exact np_app (by simp)), HI.out, HLB.out.keep st2 (np_app (by simp)), HST.out.trans (st2.wide (List.prefix_append _ _))⟩
        clear hR2 st2 HF HI HLB HST HL hsum2
        generalize (R.feed x).held.length = g0 at *
        go_wp2_with fail
        go_loopg [8] g0 (fun g v wr => PieIn w p l #[.int .i64 b, .int .i64 a, .int .i64 n] (S ++ x) g v wr)
        case atStart => exact hat2
        case round =>
          obtain ⟨R1, acc1, o3, hg, hR, hL, hI, hLB, hst⟩ := hrel
          clear hat2
          have hlen1 := wholeI_len hI
          rw [List.length_append] at hlen1
          have HX := next_ok (r := [7] ++ [1, acc1.length]) hR (np_app (by simp)) (by simp only [List.append_assoc]; exact np_app (by simp)) (by simp only [List.append_assoc]; exact np_app (by simp))
          have HL := Lib.hid hL
          have HI := Lib.hid hI
          have HS := Lib.hid hst
          have HLB := Lib.hid hLB
          have hgh := Lib.hid hg
          clear hL hI hst hg hLB hR
          go_wp2_with fail
          refine HX.mono ?_; rintro e w3 hd
          obtain ⟨o4, hR3, hA, hL3, hLB3, st3⟩ := nextDid_stpB hd rfl HL.out HLB.out
          have HS3 := Lib.hid (HS.out.trans st3)
          clear hd HL HS HLB st3 HX
          rcases hq : R1.next with ⟨y, R'⟩
          rw [hq] at hR3 hA
          simp only at hR3 hA
          cases y with
          | more =>
            obtain rfl : e = _ := hA
            have hW := HI.out.done hq (by simp)
            have D : PieRel w p l #[.int .i64 b, .int .i64 a, .int .i64 n] ps (.string ⟨(S ++ x).toArray⟩) _ (.int .i64 ((k + 1 : Nat) : Int)) w3 := ⟨k + 1, R', acc1, o4, hkl, rfl, by rw [hFT.out], hR3, hL3, by rw [hFT.out]; exact hW, hLB3, HS3.out⟩
            have HD := Lib.hid D
            clear D hW hq hL3 hR3 hLB3
            go_wp2_with fail
            go_roundw
            case rel => exact HD.out
            case measure => simp [intOf]; omega
          | fault =>
            obtain rfl : e = _ := hA
            have hW := HI.out.done hq (by simp)
            have D : PieRel w p l #[.int .i64 b, .int .i64 a, .int .i64 n] ps (.string ⟨(S ++ x).toArray⟩) _ (.int .i64 ((k + 1 : Nat) : Int)) w3 := ⟨k + 1, R', acc1, o4, hkl, rfl, by rw [hFT.out], hR3, hL3, by rw [hFT.out]; exact hW, hLB3, HS3.out⟩
            have HD := Lib.hid D
            clear D hW hq hL3 hR3 hLB3
            go_wp2_with fail
            go_roundw
            case rel => exact HD.out
            case measure => simp [intOf]; omega
          | one ws =>
            obtain ⟨u, rfl, hne, hT⟩ := hA
            obtain ⟨ua, ucap, rfl, _⟩ := hT.slice
            have hlt := next_len hq
            have hT2 : Texts o4 w3 (reqRole [7] acc1.length) (.slice ua ws.length ucap) ws := hT
            have hacc : acc1.length ≤ 1099511627776 := by omega
            have hN := HI.out.one hq
            have hlen2 := wholeI_len hN
            simp only [List.length_append, List.length_cons, List.length_nil] at hlen2
            have HN := Lib.hid hN
            have HR := Lib.hid hR3
            have HL := Lib.hid hL3
            have HT := Lib.hid hT2
            have HLB := Lib.hid hLB3
            have hrr : ∀ i, i ≤ acc1.length → ¬ [7] ++ [2] <+: reqRole [7] i := fun i _ => by simp only [reqRole, List.append_assoc]; exact np_app (by simp)
            have hrrh := Lib.hid hrr
            have hltg := Lib.hid hlt
            clear hrr hq hR3 hL3 hT hT2 HI hLB3 hN
            go_wp2_with (
              at_builtin
              refine wpList_pushL rfl _ _ rfl rfl HL.out HT.out rfl hacc hrrh.out ?_
              intro v' w4 o5 hrow hst
              obtain ⟨_, hrow1, hrow2, _⟩ := id hrow
              obtain ⟨va', vcap', rfl, _⟩ := hrow1.slice
              have hl1 : (acc1 ++ [ws]).length = acc1.length + 1 := by simp
              rw [hrow2, hl1] at hrow
              have HW := Lib.hid hrow
              have HRR := Lib.hid (HR.out.keep hst (np_app (by simp)))
              have HLL := Lib.hid (HLB.out.keep hst (np_app (by simp)))
              have HSS := Lib.hid (HS3.out.trans (hst.wide (List.prefix_append _ _)))
              clear hrow hst HL)
            go_roundg R'.held.length
            case measure => rw [hgh.out]; exact hltg.out
            case rel => exact ⟨R', _, o5, rfl, HRR.out, HW.out, HN.out, HLL.out, HSS.out⟩
      · have HX := Lib.hid (HWX.out (ps.take k).flatten wr (by omega))
        generalize (ps.take k).flatten = S at *
        rw [hW] at HX
        dsimp only at HX
        have hln := wholeF_len ((start l S).held.length + 1) (start l S)
        change (wholeR (start l S)).1.length ≤ S.length at hln
        have hwa : ∀ ws ∈ acc, ws.length ≤ 1099511627776 := by
          have := wholeF_args ((start l S).held.length + 1) (start l S)
          change ∀ ws ∈ (wholeR (start l S)).1, ws.length ≤ l.args at this
          rw [hW] at this
          exact fun ws hw => Nat.le_trans (this ws hw) (Nat.le_trans hla (by decide))
        rw [hW] at hln
        dsimp only at hln
        have hcl := hLB.cell
        have HR := Lib.hid hR
        have HST := Lib.hid hst
        have hLI := Lib.hid (hL.llIn hwa)
        clear hcells hR hst hLB hL hW
        go_wp2_with fail
        refine HX.out.mono ?_; rintro e w2 ⟨ua, un, uc, rfl, hL2, hB2⟩
        have HB2 := Lib.hid (HST.out.below0.trans (hB2.mono HST.out.size))
        have HR2 := Lib.hid (HR.out.below hB2)
        have HALL := Lib.hid (all_same hL2 (hLI.out.below hB2) (by omega))
        clear hL2 hB2 HX HST HR hLI
        go_wp2_with fail
        refine HALL.out.mono ?_; rintro e w3 ⟨rfl, k3, rfl⟩
        go_wp2_with fail
        refine (fault_ok (HR2.out.drewN k3)).mono ?_; rintro e w4 ⟨rfl, rfl⟩
        go_wp2_with fail
        refine (used_ok (HR2.out.drewN k3)).mono ?_; rintro e w4 ⟨rfl, rfl⟩
        go_wp2_with fail
        refine (sure_ok _).mono ?_; rintro e w4 ⟨rfl, hB⟩
        go_wp2_with fail
        go_ret
        exact ⟨rfl, (below_drewN HB2.out _).trans (hB.mono (by have := HB2.out.size; simpa using this))⟩
  · have HN := Lib.hid (fun W => new_bad hl W)
    have HC := Lib.hid (fun W => rcheck_bad hl W)
    clear hl hT
    unfold limV at *
    go_enter Try.func9, Try.ntmps9
    go_wp2_with fail
    refine (HN.out _).mono ?_; rintro e w1 ⟨rfl, hB1⟩
    obtain ⟨hc1, _⟩ := bcell hB1
    have HB1 := Lib.hid (((Below.refl w.heap.size w).alloc (Nat.le_refl _) _).trans (hB1.mono (by simp)))
    have hx0 : w1.cell? ⟨w.heap.size, 0, none⟩ = some (.int .i64 b) := by rw [hc1 _ _ (by simp)]; simp [go_sem]
    have hx1 : w1.cell? ⟨w.heap.size, 1, none⟩ = some (.int .i64 a) := by rw [hc1 _ _ (by simp)]; simp [go_sem]
    have hx2 : w1.cell? ⟨w.heap.size, 2, none⟩ = some (.int .i64 n) := by rw [hc1 _ _ (by simp)]; simp [go_sem]
    clear hc1 hB1
    go_wp2_with fail
    refine (HC.out _).mono ?_; rintro e w2 ⟨rfl, hB2⟩
    have HB2 := Lib.hid (HB1.out.trans (hB2.mono HB1.out.size))
    clear hx0 hx1 hx2 hB2
    go_wp2_with fail
    refine (sure_ok _).mono ?_; rintro e w4 ⟨rfl, hB⟩
    go_wp2_with fail
    go_ret
    exact ⟨rfl, HB2.out.trans (hB.mono HB2.out.size)⟩
end Go.Proofs.Ytgdgnpjgemcjgaa
