import Derived.Test.YtgdgnpjgemcjgaaSO
import Derived.Test.YtgdgnpjgemcjgaaBak
namespace Go.Proofs.Ytgdgnpjgemcjgaa
open Go Go.RowKit
def wordsOf (x : NX) : List (List UInt8) := match x with | .one ws => ws | _ => []
def codeOf (x : NX) : Int := match x with | .more => 0 | .one _ => 1 | .fault => 2
theorem wordsOf_len (R : RI) : (wordsOf R.next.1).length ≤ R.l.args := by
  rcases hq : R.next with ⟨x, R'⟩
  cases x with
  | more => simp [wordsOf]
  | fault => simp [wordsOf]
  | one ws => exact (next_args hq).1
theorem NextAns.words {o : Roles} {w : World} {r : List Nat} {x : NX} {e : Ending} (h : NextAns o w r x e) : ∃ v, e = .returned (.tuple #[v, .int .i64 (codeOf x)]) ∧ Texts o w (r ++ [0] ++ [1] ++ [0]) v (wordsOf x) := by
  cases x with
  | more => exact ⟨_, h, Row.nil _ _ _ _ _⟩
  | fault => exact ⟨_, h, Row.nil _ _ _ _ _⟩
  | one ws => obtain ⟨v, h1, _, h3⟩ := h; exact ⟨v, h1, h3⟩
theorem RNextAns.words {o : Roles} {w : World} {r : List Nat} {x : NX} {e : Ending} (h : RNextAns o w r x e) : ∃ v, e = .returned (.tuple #[v, .int .i64 (codeOf x)]) ∧ Texts o w (r ++ [0] ++ [0]) v (wordsOf x) := by
  cases x with
  | more => exact ⟨_, h, Row.nil _ _ _ _ _⟩
  | fault => exact ⟨_, h, Row.nil _ _ _ _ _⟩
  | one ws => obtain ⟨v, h1, h3⟩ := h; exact ⟨v, h1, h3⟩
theorem Rd.keepP {A : List Nat → Prop} {o o' : Roles} {w w' : World} {q : List Nat} {p : Nat} {R : RI} (h : Rd o w q p R) (st : StpP A o w o' w') (hn : ¬ A q) : Rd o' w' q p R :=
  ⟨⟨by rw [st.block p h.blk.lt (by rw [h.blk.role]; exact hn)]; exact h.blk.heap, by rw [st.old p h.blk.lt]; exact h.blk.role⟩, h.lim, h.few⟩
theorem RRd.keep {r : List Nat} {o o' : Roles} {w w' : World} {q : List Nat} {p : Nat} {R : RI} {S : List UInt8} {en : Bool} (h : RRd o w q p R S en) (st : Stp r o w o' w') (hn : ¬ r <+: q) : RRd o' w' q p R S en :=
  h.keepP (st.toP (A := fun s => r <+: s) (fun _ h => h)) hn
theorem RRd.drewN {o : Roles} {w : World} {q : List Nat} {p : Nat} {R : RI} {S : List UInt8} {en : Bool} (h : RRd o w q p R S en) (k : Nat) : RRd o (w.drewN k) q p R S en :=
  ⟨h.blk.drewN k, h.lim, h.few, h.le, h.go, h.ended⟩
theorem RRd.both {o : Roles} {w : World} {q : List Nat} {p : Nat} {R : RI} {S : List UInt8} {en : Bool} (h : RRd o w q p R S en) : R.held.length + R.used ≤ S.length := by
  have := h.le
  cases en with
  | true => rw [(h.ended rfl).2]; simpa using this
  | false => rw [(h.go rfl).2]; simp; omega
def StB (w : World) (p pq n : Nat) (R : RI) (o' : Roles) (wr : World) : Prop := ∃ S en, Rd o' wr ([7] ++ [0]) p R ∧ RRd o' wr ([7] ++ [1]) pq R S en ∧ S.length ≤ n ∧ Stp [7] none0 w o' wr
theorem StB.step {w : World} {p pq n : Nat} {R : RI} {o' o2 : Roles} {wr w2 : World} {r : List Nat} (h : StB w p pq n R o' wr) (st : Stp r o' wr o2 w2) (h7 : [7] <+: r) (h0 : ¬ r <+: [7] ++ [0]) (h1 : ¬ r <+: [7] ++ [1]) : StB w p pq n R o2 w2 := by
  obtain ⟨S, en, hR, hQ, hn, hst⟩ := h
  exact ⟨S, en, hR.keep st h0, hQ.keep st h1, hn, hst.trans (st.wide h7)⟩
theorem StB.drewN {w : World} {p pq n : Nat} {R : RI} {o' : Roles} {wr : World} (h : StB w p pq n R o' wr) (k : Nat) : StB w p pq n R o' (wr.drewN k) := by
  obtain ⟨S, en, hR, hQ, hn, hst⟩ := h
  exact ⟨S, en, hR.drewN k, hQ.drewN k, hn, hst.drewN k⟩
abbrev spoilR : List Nat := [7] ++ [2] ++ [0] ++ [1] ++ [0]
def StRel (w : World) (p pq : Nat) (ss : List StepM) (i : Value) (wr : World) : Prop := ∃ k R o', k ≤ ss.length ∧ i = .int .i64 ((k : Nat) : Int) ∧ StB w p pq (bulkSt (ss.take k)) R o' wr
def StIn (w : World) (p pq n : Nat) (i : Value) (wr : World) : Prop := ∃ k R o', k ≤ 100 ∧ i = .int .i64 ((k : Nat) : Int) ∧ StB w p pq n R o' wr
def SpRel (w : World) (p pq n : Nat) (R : RI) (m g : Nat) (i : Value) (wr : World) : Prop := ∃ j o', j ≤ m ∧ i = .int .i64 ((j : Nat) : Int) ∧ StB w p pq n R o' wr ∧ (m = 0 ∨ ∃ cur, Blk o' wr spoilR g cur 9 ∧ m ≤ cur.size)
theorem bulkSt_take {ss : List StepM} {k : Nat} {x : StepM} (h : ss[k]? = some x) : bulkSt (ss.take (k + 1)) = bulkSt (ss.take k) + x.piece.length + 1 := by
  unfold bulkSt
  rw [List.take_add_one, h]
  simp only [Option.toList_some, List.map_append, List.map_cons, List.map_nil, List.sum_append, List.sum_cons, List.sum_nil]
  omega
theorem bulkSt_le (ss : List StepM) (k : Nat) : bulkSt (ss.take k) ≤ bulkSt ss := by
  unfold bulkSt
  induction ss generalizing k with
  | nil => simp
  | cons y t ih =>
    cases k with
    | zero => simp
    | succ k => have := ih k; simp only [List.take_succ_cons, List.map_cons, List.sum_cons]; omega
theorem len_le_bulkSt (ss : List StepM) : ss.length ≤ bulkSt ss := by
  unfold bulkSt
  induction ss with
  | nil => simp
  | cons y t ih => simp only [List.map_cons, List.sum_cons, List.length_cons]; omega
/-- What the slice of words looks like, for writing into it. -/
theorem texts_spoil {o : Roles} {w : World} {r : List Nat} {v : Value} {ws : List (List UInt8)} (h : Texts o w r v ws) :
    ∃ aa cap g, v = .slice aa ws.length cap ∧ (ws.length = 0 ∨ aa = some ⟨g, 0, none⟩) ∧ (ws.length = 0 ∨ ∃ cur, Blk o w r g cur 9 ∧ ws.length ≤ cur.size) := by
  rcases h.form with ⟨h1, h2, _⟩ | ⟨g, cap, cur, h1, h2, h3, _, h5, _⟩
  · exact ⟨none, 0, 0, by rw [h1, h2], .inl h2, .inl h2⟩
  · exact ⟨_, cap, g, h1, .inr rfl, .inr ⟨cur, h2, by omega⟩⟩
set_option maxRecDepth 10000 in
set_option maxHeartbeats 4000000 in
theorem steps_law (w : World) (b a n : Int) (ss : List StepM) (v : Value) (hT : StepsIn w v ss) (hb : bulkSt ss ≤ 1048576) : Calls Try.prog 6 #[limV b a n, v] w fun e w' => e = .returned (.bool true) ∧ Below w.heap.size w w' := by
  by_cases hl : LimI b a n
  · obtain ⟨va, cap, rfl, hc1, hc2, hcells⟩ := hT
    have HN := Lib.hid (fun W => new_ok hl (none0.put w.heap.size ([7] ++ [9])) W ([7] ++ [0]))
    have HC := Lib.hid (fun W => rcheck_ok hl W)
    have hlo := (limV_nat hl).2
    have e1 : ((b.toNat : Nat) : Int) = b := by obtain ⟨⟨h1, h2⟩, _⟩ := hl; omega
    have e2 : ((a.toNat : Nat) : Int) = a := by obtain ⟨_, ⟨h1, h2⟩, _⟩ := hl; omega
    have e3 : ((n.toNat : Nat) : Int) = n := by obtain ⟨_, _, h1, h2⟩ := hl; omega
    have hC : rrC (start (limL b a n) []) [] 0 false = #[.int .i64 b, .int .i64 a, .int .i64 n, .string ⟨#[]⟩, .int .i64 0, .string ⟨#[]⟩, .bool false] := by
      unfold rrC start limL; simp [e1, e2, e3]
    have HCC := Lib.hid hC
    have hlen := len_le_bulkSt ss
    have hst0 : Stp [7] none0 w (none0.put w.heap.size ([7] ++ [9])) (w.alloc (.cells #[.int .i64 b, .int .i64 a, .int .i64 n] 23)) := (Stp.refl [7] none0 w).alloc (r' := [7] ++ [9]) _ w.heap.size rfl
    have hlb0 : Blk (none0.put w.heap.size ([7] ++ [9])) (w.alloc (.cells #[.int .i64 b, .int .i64 a, .int .i64 n] 23)) ([7] ++ [9]) w.heap.size #[.int .i64 b, .int .i64 a, .int .i64 n] 23 := Blk.new none0 w ([7] ++ [9]) _ 23 _ rfl
    have HST0 := Lib.hid hst0
    have HLB0 := Lib.hid hlb0
    have HLO := Lib.hid hlo
    clear hl hst0 hlb0 e1 e2 e3 hC hlo
    unfold limV at *
    go_enter Try.func6, Try.ntmps6
    go_wp2_with fail
    refine (HN.out _).mono ?_; rintro e w1 ⟨p, o1, rfl, hR, st1⟩
    have hLB := HLB0.out.keep st1 (np_app (by simp))
    have hcl := hLB.cell
    have HLB := Lib.hid hLB
    have HS1 := Lib.hid (HST0.out.trans (st1.wide (List.prefix_append _ _)))
    have HR1 := Lib.hid hR
    clear hLB hR st1 HST0 HLB0 HN
    go_wp2_with fail
    refine (HC.out _).mono ?_; rintro e w2 ⟨rfl, hB2⟩
    have hcl2 := (HLB.out.below hB2).cell
    have hst2 := (HS1.out.trans (Stp.ofBelow [7] o1 hB2)).alloc (r' := [7] ++ [1]) (.cells (rrC (start (limL b a n) []) [] 0 false) 46) w2.heap.size rfl
    have hR2 : RRd (o1.put w2.heap.size ([7] ++ [1])) (w2.alloc (.cells (rrC (start (limL b a n) []) [] 0 false) 46)) ([7] ++ [1]) w2.heap.size (start (limL b a n) []) [] false :=
      ⟨Blk.new o1 w2 ([7] ++ [1]) _ 46 _ rfl, HLO.out, by simp, Nat.zero_le _, fun _ => ⟨rfl, rfl⟩, (fun h => by cases h)⟩
    have hR1 : Rd (o1.put w2.heap.size ([7] ++ [1])) (w2.alloc (.cells (rrC (start (limL b a n) []) [] 0 false) 46)) ([7] ++ [0]) p (start (limL b a n) []) :=
      ⟨(HR1.out.blk.below hB2).alloc _ _ _ rfl, HR1.out.lim, HR1.out.few⟩
    have hat : StRel w p w2.heap.size ss (.int .i64 0) (w2.alloc (.cells (rrC (start (limL b a n) []) [] 0 false) 46)) :=
      ⟨0, _, _, Nat.zero_le _, rfl, [], false, hR1, hR2, by simp, hst2⟩
    rw [HCC.out] at hat
    clear hst2 hR2 hR1 hB2 HR1 HS1 HLB HLO HCC HC hcl
    go_wp2_with fail
    generalize w2.heap.size = pq at *
    go_loopw [8] (fun i wr => StRel w p pq ss i wr) (fun i _ => ss.length - (intOf i).toNat)
    case atStart => exact hat
    case round =>
      obtain ⟨k, R, o', hk, rfl, S, en, hR, hQ, hn, hst⟩ := hrel
      clear hat hcl2
      by_cases hkl : k < ss.length
      · obtain ⟨x, hxk⟩ : ∃ x, ss[k]? = some x := ⟨_, List.getElem?_eq_getElem hkl⟩
        rcases hcells with hnil | ⟨bb, off, rfl, hbl, hcells⟩
        · subst hnil; exact absurd hkl (by simp)
        have hB0 := hst.below0
        have hx0 : wr.cell? ⟨bb, off + k * 2, none⟩ = some (.string ⟨x.piece.toArray⟩) := by rw [hB0.cell (p := ⟨bb, off + k * 2, none⟩) hbl]; exact (hcells k x hxk).1
        have hft := bulkSt_take hxk
        have hbt := bulkSt_le ss (k + 1)
        have hboth := hQ.both
        have HF := Lib.hid (feed_ok hR x.piece (by omega))
        have HX1 := Lib.hid (hcells k x hxk).2
        have HFT := Lib.hid hft
        have HQ := Lib.hid hQ
        have HST := Lib.hid hst
        have HC := Lib.hid hcells
        have hk2 : S.length + x.piece.length ≤ 1099511627776 := by omega
        have hn2 : S.length + x.piece.length ≤ bulkSt (ss.take k) + x.piece.length := by omega
        have hSle : ∀ T : List UInt8, T = (if en then S else S ++ x.piece) → T.length ≤ bulkSt (ss.take k) + x.piece.length := by
          intro T hT; subst hT; split
          · omega
          · rw [List.length_append]; exact hn2
        have HSL := Lib.hid hSle
        clear hSle hR hQ hst hcells hxk hB0 hft hbt
        go_wp2_with fail
        refine HF.out.mono ?_; rintro e w3 ⟨rfl, hR3, st3⟩
        have hx3 : w3.cell? ⟨bb, off + k * 2, none⟩ = some (.string ⟨x.piece.toArray⟩) := by rw [((HST.out.trans (st3.wide (List.prefix_append _ _))).below0).cell (p := ⟨bb, off + k * 2, none⟩) hbl, ← hx0, HST.out.below0.cell (p := ⟨bb, off + k * 2, none⟩) hbl]
        have HF4 := Lib.hid (rfeed_ok (HQ.out.keep st3 (np_app (by simp))) x.piece hk2)
        have HS3 := Lib.hid (HST.out.trans (st3.wide (List.prefix_append _ _)))
        have HR3 := Lib.hid hR3
        clear hR3 st3 HF HQ HST hx0
        go_wp2_with fail
        refine HF4.out.mono ?_; rintro e w4 ⟨rfl, hQ4, st4⟩
        have hat2 : StIn w p pq (bulkSt (ss.take k) + x.piece.length) (.int .i64 0) w4 := ⟨0, _, o', Nat.zero_le _, rfl, _, en, HR3.out.keep st4 (np_app (by simp)), hQ4, HSL.out _ rfl, HS3.out.trans (st4.wide (List.prefix_append _ _))⟩
        have hnb : bulkSt (ss.take k) + x.piece.length ≤ 1048576 := by have := HFT.out; have := bulkSt_le ss (k + 1); omega
        have hft := HFT.out
        have hnk : bulkSt (ss.take k) + x.piece.length ≤ bulkSt (ss.take (k + 1)) := by omega
        have HNK := Lib.hid hnk
        clear hx3 HF4 HS3 HR3 hQ4 st4 HSL HFT hft hn hn2 hk2 hboth hnk
        generalize bulkSt (ss.take k) + x.piece.length = N at *
        go_wp2_with fail
        go_loopw [9] (fun i wr => StIn w p pq N i wr) (fun i _ => 100 - (intOf i).toNat)
        case atStart => exact hat2
        case round =>
          obtain ⟨k2, R2, o2, hk2, rfl, S2, en2, hR, hQ, hn, hst⟩ := hrel
          clear hat2
          have hx1 : wr.cell? ⟨bb, off + k * 2 + 1, none⟩ = some (.int .i64 x.next) := by rw [hst.below0.cell (p := ⟨bb, off + k * 2 + 1, none⟩) hbl]; exact HX1.out
          by_cases hgo : (k2 : Int) < x.next ∧ k2 < 100
          · have d1 : decide ((k2 : Int) < x.next) = true := decide_eq_true hgo.1
            have d2 : decide ((k2 : Int) < 100) = true := decide_eq_true (by omega)
            have HX := Lib.hid (next_ok (r := [7] ++ [2]) hR (np_app (by simp)) (by simp only [List.append_assoc]; exact np_app (by simp)) (by simp only [List.append_assoc]; exact np_app (by simp)))
            have HQ := Lib.hid hQ
            have HST := Lib.hid hst
            have hwl := wordsOf_len R2
            have hla := hQ.lim.args.2
            have hk99 := hgo.2
            clear hR hQ hst hgo
            go_wp2_with fail
            refine HX.out.mono ?_; rintro e w5 ⟨o5, w5', o6, st5, st6, hR6, hA⟩
            obtain ⟨vA, rfl, hTA⟩ := hA.words
            have hQ6 := (HQ.out.keep st5 (np_app (by simp))).keep st6 (np_app (by simp))
            have hS6 := (HST.out.trans (st5.wide (List.prefix_append _ _))).trans (st6.wide (List.prefix_append _ _))
            have HY := Lib.hid (rnext_ok (r := [7] ++ [3]) hQ6 (np_app (by simp)) (by simp only [List.append_assoc]; exact np_app (by simp)) (by simp only [List.append_assoc]; exact np_app (by simp)))
            have HTA := Lib.hid hTA
            have HR6 := Lib.hid hR6
            have HS6 := Lib.hid hS6
            clear hTA hQ6 hS6 hR6 hA st5 st6 HX HQ HST hx1
            go_wp2_with fail
            refine HY.out.mono ?_; rintro e w7 ⟨o7, en7, hP, hQ7, hB⟩
            obtain ⟨vB, rfl, hTB⟩ := hB.words
            have hnA : ¬ two ([7] ++ [3]) ([7] ++ [1]) ([7] ++ [2] ++ [0] ++ [1] ++ [0]) := by
              rintro (hs | hs)
              · simp only [List.append_assoc] at hs; exact np_app (by simp) hs
              · simp only [List.append_assoc] at hs; exact np_app (by simp) hs
            have hn0 : ¬ two ([7] ++ [3]) ([7] ++ [1]) ([7] ++ [0]) := by
              rintro (hs | hs)
              · exact np_app (by simp) hs
              · exact np_app (by simp) hs
            have hTA := HTA.out.keepP hP hnA
            have hR7 := HR6.out.keepP hP hn0
            have hS7 := HS6.out.trans (hP.toStp (r := [7]) (fun s hs => by
              rcases hs with hs | hs
              · exact (List.prefix_append _ _).trans hs
              · exact (List.prefix_append _ _).trans hs))
            have HST7 := Lib.hid (show StB w p pq N R2.next.2 o7 w7 from ⟨S2, en7, hR7, hQ7, hn, hS7⟩)
            have HSA := Lib.hid (same_same hTA.textsIn hTB.textsIn (by omega))
            obtain ⟨aa, ca, g, rfl, haa, hbk⟩ := texts_spoil hTA
            have HBK := Lib.hid hbk
            generalize codeOf R2.next.1 = c at *
            generalize R2.next.2 = R' at *
            generalize wordsOf R2.next.1 = ws at *
            have hcc : (c != c) = false := by simp
            have hwl2 : ws.length ≤ 65536 := by omega
            clear hTA hTB hR7 hS7 hQ7 hB hP hnA hn0 HY HTA HR6 HS6 hbk hn hwl hla
            generalize ws.length = m at *
            go_wp2_with fail
            refine HSA.out.mono ?_; rintro e w8 ⟨rfl, q8, rfl⟩
            have hat3 : SpRel w p pq N R' m g (.int .i64 0) (w7.drewN q8) := ⟨0, o7, Nat.zero_le _, rfl, HST7.out.drewN q8, by
              rcases HBK.out with h | ⟨cur, h1, h2⟩
              · exact .inl h
              · exact .inr ⟨cur, h1.drewN q8, h2⟩⟩
            clear HSA HST7 HBK
            go_wp2_with fail
            go_loopw [14] (fun i wr => SpRel w p pq N R' m g i wr) (fun i _ => m - (intOf i).toNat)
            case atStart => exact hat3
            case round =>
              obtain ⟨j, o9, hj, rfl, hSB, hbk⟩ := hrel
              clear hat3
              by_cases hjm : j < m
              · obtain rfl : aa = some ⟨g, 0, none⟩ := haa.resolve_left (by omega)
                obtain ⟨cur, hbk, hsz⟩ : ∃ cur, Blk o9 wr spoilR g cur 9 ∧ m ≤ cur.size := hbk.resolve_left (by omega)
                obtain ⟨u, hcu⟩ : ∃ u, cur[j]? = some u := ⟨_, Array.getElem?_eq_getElem (by omega)⟩
                have hcell : wr.cell? ⟨g, j, none⟩ = some u := by rw [hbk.cell]; exact hcu
                have hfree := hbk.free j
                have HS9 := Lib.hid (hSB.step ((Stp.refl ([7] ++ [2]) o9 wr).setCell (a := ⟨g, j, none⟩) (by rw [show o9 g = spoilR from hbk.role]; simp only [spoilR, List.append_assoc]; exact List.prefix_append_right_inj _ |>.2 (List.prefix_append _ _)) (.string ⟨#[115, 112, 111, 105, 108, 116]⟩)) (List.prefix_append _ _) (np_app (by simp)) (np_app (by simp)))
                have HB9 := Lib.hid (hbk.setCell j (.string ⟨#[115, 112, 111, 105, 108, 116]⟩))
                have hszI := Lib.hid (show m ≤ (cur.setIfInBounds j (.string ⟨#[115, 112, 111, 105, 108, 116]⟩)).size by simpa using hsz)
                clear hSB hbk hcu hsz haa
                go_wp2_with fail
                go_roundw
                case rel => exact ⟨j + 1, o9, hjm, by go_num, HS9.out, .inr ⟨_, HB9.out, hszI.out⟩⟩
                case measure => simp [intOf]; omega
              · have D := Lib.hid (show StIn w p pq N (.int .i64 ((k2 + 1 : Nat) : Int)) wr from ⟨k2 + 1, R', o9, hk99, rfl, hSB⟩)
                clear hSB hbk haa
                go_wp2_with fail
                go_roundw
                case rel => exact D.out
                case measure => simp [intOf]; omega
          · have d1 : decide ((k2 : Int) < x.next) = true → decide ((k2 : Int) < 100) = false := fun h => decide_eq_false (fun h2 => hgo ⟨of_decide_eq_true h, by omega⟩)
            have HF := Lib.hid (fun m => fault_ok (hR.drewN m))
            have HH := Lib.hid (fun m => held_ok (hR.drewN m))
            have HU := Lib.hid (fun m => used_ok (hR.drewN m))
            have HRH := Lib.hid (fun m => rheld_ok (hQ.drewN m))
            have hqc := hQ.blk.cell
            have D := Lib.hid (fun m => show StRel w p pq ss (.int .i64 ((k + 1 : Nat) : Int)) (wr.drewN m) from ⟨k + 1, R2, o2, hkl, rfl, S2, en2, hR.drewN m, hQ.drewN m, Nat.le_trans hn HNK.out, hst.drewN m⟩)
            clear hR hQ hst hgo hn
            rcases hd : decide ((k2 : Int) < x.next) with _ | _
            · clear d1
              go_wp2_with fail
              go_quiet (first
                | (go_at_call 27; refine Calls.quiet_of_same (HF.out _))
                | (go_at_call 28; refine Calls.quiet_of_same (HH.out _))
                | (go_at_call 30; refine Calls.quiet_of_same (HU.out _))
                | (go_at_call 29; refine Calls.quiet_of (HRH.out _)))
              go_wp2_with fail
              go_roundw
              case rel => exact D.out _
              case measure => simp [intOf]; omega
            · have d2 := d1 hd
              clear d1
              go_wp2_with fail
              go_quiet (first
                | (go_at_call 27; refine Calls.quiet_of_same (HF.out _))
                | (go_at_call 28; refine Calls.quiet_of_same (HH.out _))
                | (go_at_call 30; refine Calls.quiet_of_same (HU.out _))
                | (go_at_call 29; refine Calls.quiet_of (HRH.out _)))
              go_wp2_with fail
              go_roundw
              case rel => exact D.out _
              case measure => simp [intOf]; omega
      · have HB := Lib.hid hst.below0
        clear hcells hR hQ hst hn
        go_wp2_with fail
        refine (sure_ok _).mono ?_; rintro e w4 ⟨rfl, hB⟩
        go_wp2_with fail
        go_ret
        exact ⟨rfl, HB.out.trans (hB.mono HB.out.size)⟩
  · have HN := Lib.hid (fun W => new_bad hl W)
    have HC := Lib.hid (fun W => rcheck_bad hl W)
    clear hl hT
    unfold limV at *
    go_enter Try.func6, Try.ntmps6
    go_wp2_with fail
    refine (HN.out _).mono ?_; rintro e w1 ⟨rfl, hB1⟩
    obtain ⟨hc1, _⟩ := bcell hB1
    have HB1 := Lib.hid (((Below.refl w.heap.size w).alloc (Nat.le_refl _) _).trans (hB1.mono (by simp)))
    have hx0 : w1.cell? ⟨w.heap.size, 0, none⟩ = some (.int .i64 b) := by rw [hc1 _ _ (by simp)]; simp [go_sem]
    have hx1 : w1.cell? ⟨w.heap.size, 1, none⟩ = some (.int .i64 a) := by rw [hc1 _ _ (by simp)]; simp [go_sem]
    have hx2 : w1.cell? ⟨w.heap.size, 2, none⟩ = some (.int .i64 n) := by rw [hc1 _ _ (by simp)]; simp [go_sem]
    clear hc1 hB1
    go_wp2_with fail
    refine (HC.out _).mono ?_; rintro e w2 ⟨rfl, hB2⟩
    have HB2 := Lib.hid (HB1.out.trans (hB2.mono HB1.out.size))
    clear hx0 hx1 hx2 hB2
    go_wp2_with fail
    refine (sure_ok _).mono ?_; rintro e w4 ⟨rfl, hB⟩
    go_wp2_with fail
    go_ret
    exact ⟨rfl, HB2.out.trans (hB.mono HB2.out.size)⟩
end Go.Proofs.Ytgdgnpjgemcjgaa
