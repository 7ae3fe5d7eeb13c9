import Derived.Test.YtlgboamedjoidaaBegPlain
namespace Go.Proofs.Ytlgboamedjoidaa
open Go Go.RowKit

set_option maxHeartbeats 400000 in
theorem begins_true (a c : List UInt8) (w : World) : Calls Try.prog 16 #[txt a, txt (a ++ c)] w fun e w' => e = .returned (.bool true) ∧ w' = w := by
  have hcut : ByteArray.extract ⟨(a ++ c).toArray⟩ 0 a.length = ⟨a.toArray⟩ := by
    apply ByteArray.ext; apply Array.ext'
    simp
  have hle : decide (a.length ≤ (a ++ c).length) = true := by simp
  have hle2 : a.length ≤ (a ++ c).length := by simp
  have hq : ((⟨a.toArray⟩ : ByteArray).toList == (⟨a.toArray⟩ : ByteArray).toList) = true := by simp
  generalize a ++ c = b at *
  unfold txt
  go_enter Try.func16, Try.ntmps16
  go_wp2
  go_ret
  exact ⟨rfl, rfl⟩

theorem begins_pre (a b : List UInt8) (h : a <+: b) (w : World) : Calls Try.prog 16 #[.string ⟨a.toArray⟩, .string ⟨b.toArray⟩] w fun e w' => e = .returned (.bool true) ∧ w' = w := by
  obtain ⟨c, rfl⟩ := h
  exact begins_true a c w
theorem quiet_on {P : Program} {f : FuncId} {args : Array Value} {w : World} {a n : Nat} {v : Value} (h : Calls P f args (w.drewN (a + n)) fun e w' => e = .returned v ∧ ∃ m, w' = (w.drewN (a + n)).drewN m) :
    Calls P f args (w.drewN (a + n)) fun e w' => e = .returned v ∧ ∃ m, w' = w.drewN (a + m) := by
  refine h.mono ?_
  rintro e w' ⟨rfl, m, rfl⟩
  exact ⟨rfl, n + m, by rw [World.drewN_drewN, Nat.add_assoc]⟩
theorem Base.write {W w : World} {o : Roles} (h : Base W o w) {a : Addr} (ha : W.heap.size ≤ a.block) (v : Value) : Base W o (w.setCell a v) := ⟨h.below.setCell ha v, h.un⟩

def txts (l : List (List UInt8)) : Array Value := (l.map txt).toArray
theorem txts_get {l : List (List UInt8)} {c : Nat} {a : List UInt8} (h : l[c]? = some a) : (txts l)[c]? = some (txt a) := by simp [txts, h]
theorem txts_set (l : List (List UInt8)) (c : Nat) (a : List UInt8) : (txts l).setIfInBounds c (txt a) = txts (l.set c a) := by simp [txts, List.map_set]

theorem app_text (a b : List UInt8) : ((⟨a.toArray⟩ : ByteArray) ++ (⟨b.toArray⟩ : ByteArray)) = ⟨(a ++ b).toArray⟩ := by
  apply ByteArray.ext; apply Array.ext'
  simp
theorem Beg.short {n : NI} {rl wl : List (List UInt8)} {T : Nat} (h : Beg n rl wl) (hg : Good n T) {c : Nat} (hc : c < 8) {a b : List UInt8} (ha : rl[c]? = some a) (hb : wl[c]? = some b) : a.length ≤ T ∧ b.length ≤ T := by
  cases hx : n.conns[c]? with
  | none =>
    obtain ⟨h1, h2⟩ := (h.2.2 c hc).ofNone hx
    rw [ha] at h1; cases h1; rw [hb] at h2; cases h2; simp
  | some x =>
    obtain ⟨p, q, h1, h2, h3⟩ := (h.2.2 c hc).ofSome hx
    rw [ha] at h1; cases h1; rw [hb] at h2; cases h2
    have hG := hg x (List.mem_of_getElem? hx)
    obtain ⟨rfl, rfl, _, _⟩ := h3
    exact ⟨Nat.le_trans (by rw [List.length_take]; omega) hG.1, hG.2.1⟩
def Begs2 (w0 : World) (iv : Value) (wr : World) : Prop := ∃ c : Nat, c ≤ 8 ∧ iv = .int .i64 c ∧ Below w0.heap.size w0 wr
def BegRel (W : World) (p br bw : Nat) (ops : List OpM) (win : Nat) (iv : Value) (wr : World) : Prop :=
  ∃ (k : Nat) (o : Roles) (ps : List Nat) (n : NI) (rl wl : List (List UInt8)), k ≤ ops.length ∧ iv = .int .i64 k ∧ Base W o wr ∧ Net o wr [0] p ps n ∧ Blk o wr [7] br (txts rl) 42 ∧ Blk o wr [8] bw (txts wl) 42 ∧ n.win = win ∧ Good n (letters (ops.take k)) ∧ Beg n rl wl

set_option maxRecDepth 100000 in
set_option maxHeartbeats 2000000 in
theorem begins_ok (win : Nat) (h1 : 1 ≤ win) (h2 : win ≤ 1048576) (a : Option Addr) (cap : Nat) (ops : List OpM) (W : World) (hat : OpsAt W a ops) (hT : letters ops ≤ 1048576) (hlen : ops.length ≤ 140737488355328) :
    Calls Try.prog 5 #[.int .i64 win, .slice a ops.length cap] W fun e w' => e = .returned (.bool true) ∧ Below W.heap.size W w' := by
  have H1 := New_ok none0 W [0] win h1 h2
  have B0 := Lib.hid (Base.start W)
  have Hat := Lib.hid hat
  clear hat
  go_enter Try.func5, Try.ntmps5
  go_wp2_with fail
  refine H1.mono ?_; rintro e w1 ⟨p, o1, rfl, hN, st⟩
  have B1 := Lib.hid (B0.out.step st)
  have HN1 := Lib.hid hN
  clear st H1 B0 hN
  unfold ptr at *
  go_wp2_with fail
  have hR : BegRel W p w1.heap.size (w1.heap.size + 1) ops win (.int .i64 0) ((w1.alloc (.cells (txts (List.replicate 8 [])) 42)).alloc (.cells (txts (List.replicate 8 [])) 42)) :=
    ⟨0, (o1.put w1.heap.size [7]).put (w1.heap.size + 1) [8], [], _, _, _, Nat.zero_le _, rfl, by have := (B1.out.alloc (.cells (txts (List.replicate 8 [])) 42) [7]).alloc (.cells (txts (List.replicate 8 [])) 42) [8]; simpa using this,
      by have := (HN1.out.alloc (.cells (txts (List.replicate 8 [])) 42) [7]).alloc (.cells (txts (List.replicate 8 [])) 42) [8]; simpa using this,
      (Blk.new o1 w1 [7] _ 42 _ rfl).alloc _ _ _ (by simp), Blk.new _ _ [8] _ 42 _ (by simp), rfl, fun y hy => by simp at hy, Beg.start win⟩
  have hbr : W.heap.size ≤ w1.heap.size := B1.out.below.size
  generalize hbr' : w1.heap.size = br at *
  have HR := Lib.hid hR
  clear hR B1 HN1
  go_loopw [9] (fun i wr => BegRel W p br (br + 1) ops win i wr) (fun i _ => ops.length - (intOf i).toNat)
  case atStart => exact HR.out
  case round =>
    obtain ⟨k, o, ps, n, rl, wl, hk, rfl, hb, hN, hbr, hbw, hwin, hg, hbeg⟩ := hrel
    clear HR hbr'
    by_cases hlt : k < ops.length
    · obtain ⟨op, hop⟩ : ∃ op, ops[k]? = some op := ⟨_, List.getElem?_eq_getElem hlt⟩
      obtain ⟨hok, b, off, ha, hcs⟩ := Hat.out k op hop
      subst ha
      have c0 : wr.cell? ⟨b, off + k * 4, none⟩ = some (.int .i64 op.kind) := hb.cell (hcs 0 _ rfl)
      have c1 := hb.cell (hcs 1 _ rfl)
      have c2 := hb.cell (hcs 2 _ rfl)
      have c3 := hb.cell (hcs 3 _ rfl)
      have hT' := letters_take ops k op hop
      have hTle := letters_take_le ops (k + 1)
      obtain ⟨C, hC8, hC⟩ : ∃ C : Nat, C < 8 ∧ ((op.conn < 0 ∧ C = 0) ∨ op.conn = C ∨ (7 < op.conn ∧ C = 7)) := by
        by_cases h : op.conn < 0
        · exact ⟨0, by omega, .inl ⟨h, rfl⟩⟩
        · by_cases h7 : 7 < op.conn
          · exact ⟨7, by omega, .inr (.inr ⟨h7, rfl⟩)⟩
          · exact ⟨op.conn.toNat, by omega, .inr (.inl (by omega))⟩
      have hrC := hbeg.1
      have hwC := hbeg.2.1
      obtain ⟨ra, hra⟩ : ∃ ra, rl[C]? = some ra := ⟨_, List.getElem?_eq_getElem (by omega)⟩
      obtain ⟨wa, hwa⟩ : ∃ wa, wl[C]? = some wa := ⟨_, List.getElem?_eq_getElem (by omega)⟩
      have hB2 := hbeg.step { op with conn := C } hC8 rfl hra hwa
      have hg2 := doneM_good { op with conn := C } hg
      have hw2 : (doneM n { op with conn := C }).1.win = win := by rw [doneM_win]; exact hwin
      dsimp only at hg2
      rw [← hT'] at hg2
      have hroom := hg.room (d := op.data.length) (by rw [← hT']; omega)
      have F : ∀ ci : Int, ci = C → Calls Try.prog 14 #[.pointer (some ⟨p, 0, none⟩), .agg #[.int .i64 op.kind, .int .i64 ci, .int .i64 op.n, .string ⟨op.data.toArray⟩]] (wr.alloc (.cells #[.int .i64 op.kind, .int .i64 ci, .int .i64 op.n, .string ⟨op.data.toArray⟩] 39)) fun e w2 => ∃ R Wt, e = .returned (.tuple #[txt R, txt Wt]) ∧ ¬ 9223372036854775807 < ra.length + R.length ∧ ¬ 9223372036854775807 < wa.length + Wt.length ∧
          w2.cell? ⟨br, C, none⟩ = some (txt ra) ∧ w2.frozen? ⟨br, C, none⟩ = false ∧ w2.cell? ⟨br + 1, C, none⟩ = some (txt wa) ∧ w2.frozen? ⟨br + 1, C, none⟩ = false ∧ w2.cell? ⟨wr.heap.size, 1, none⟩ = some (.int .i64 ci) ∧
          ∀ q, BegRel W p br (br + 1) ops win (.int .i64 (k + 1)) (((w2.setCell ⟨br, C, none⟩ (txt (ra ++ R))).setCell ⟨br + 1, C, none⟩ (txt (wa ++ Wt))).drewN q) := by
        intro ci hci
        subst hci
        have hBx := Blk.new o wr [9] #[.int .i64 op.kind, .int .i64 (C : Int), .int .i64 op.n, .string ⟨op.data.toArray⟩] 39 _ rfl
        refine (done_ok (hN.alloc (opC { op with conn := C }) [9]) (by simp) { op with conn := C } hok.2.2 hroom hg.wait).mono ?_
        rintro e w2 ⟨rfl, ps', o', hN2, st⟩
        have hr2 := (hbr.alloc (opC { op with conn := C }) _ [9] rfl).keep st (by simp)
        have hw2' := (hbw.alloc (opC { op with conn := C }) _ [9] rfl).keep st (by simp)
        have hb2 := (hb.alloc (opC { op with conn := C }) [9]).step st
        have hx2 := hBx.keep st (by simp)
        have hsh := hB2.short hg2 hC8 (a := ra ++ (doneM n { op with conn := C }).2.1) (b := wa ++ (doneM n { op with conn := C }).2.2) (by simp [hrC, hC8]) (by simp [hwC, hC8])
        simp only [List.length_append] at hsh
        refine ⟨_, _, rfl, by omega, by omega, by rw [hr2.cell, txts_get hra], hr2.free _, by rw [hw2'.cell, txts_get hwa], hw2'.free _, hx2.cell 1, fun q => ?_⟩
        have s1 : Stp [7] o' w2 o' (w2.setCell ⟨br, C, none⟩ (txt (ra ++ (doneM n { op with conn := C }).2.1))) := (Stp.refl [7] o' w2).setCell (show [7] <+: o' br by rw [hr2.role]; exact List.prefix_refl _) _
        have r2 := hr2.setCell C (txt (ra ++ (doneM n { op with conn := C }).2.1))
        rw [txts_set] at r2
        have w3 := hw2'.keep s1 (by simp)
        have s2 := (Stp.refl [8] o' _).setCell (show [8] <+: o' (Addr.mk (br + 1) C none).block by show [8] <+: o' (br + 1); rw [hw2'.role]; exact List.prefix_refl _) (w' := w2.setCell ⟨br, C, none⟩ (txt (ra ++ (doneM n { op with conn := C }).2.1))) (txt (wa ++ (doneM n { op with conn := C }).2.2))
        have r3 := r2.keep s2 (by simp)
        have w4 := w3.setCell C (txt (wa ++ (doneM n { op with conn := C }).2.2))
        rw [txts_set] at w4
        exact ⟨k + 1, o', ps', _, _, _, by omega, by go_num, ((hb2.step s1).step s2).drewN q, ((hN2.keep s1 (Apart.head (by decide) [] [])).keep s2 (Apart.head (by decide) [] [])).drewN q, r3.drewN q, w4.drewN q, hw2, hg2, hB2⟩
      have HF := Lib.hid F
      have hbsz : br < wr.heap.size ∧ br + 1 < wr.heap.size := ⟨hbr.lt, hbw.lt⟩
      clear hB2 hg2 hw2 hroom F hra hwa hrC hwC hbeg hg hwin hbr hbw hN hb hok hcs hop hT' hTle Hat
      obtain ⟨kind, conn, nn, data⟩ := op
      dsimp only at *
      have hs1 := hbsz.1
      have hs2 := hbsz.2
      have n1 : ¬ br = wr.heap.size := by omega
      have n2 : ¬ br + 1 = wr.heap.size := by omega
      have n3 : ¬ wr.heap.size = br := by omega
      have n4 : ¬ wr.heap.size = br + 1 := by omega
      clear hs1 hs2 hbsz
      have hC8i : (C : Int) < 8 := by omega
      rcases hC with ⟨hc, rfl⟩ | rfl | ⟨hc, rfl⟩
      · have HD := HF.out 0 rfl
        clear HF
        go_wp2_with fail
        refine HD.mono ?_; rintro e w2 ⟨R, Wt, rfl, y1, y2, x1, x2, x3, x4, x5, x6⟩
        have eA := app_text ra R
        have eB := app_text wa Wt
        generalize ra ++ R = A at *
        generalize wa ++ Wt = B at *
        have HX := Lib.hid x6
        clear x6 HD c0 c1 c2 c3
        unfold txt at *
        go_wp2_with fail
        go_region
        go_wp2_with fail
        go_region
        go_wp2_with fail
        go_roundw
        case rel => exact HX.out 2
        case measure => simp [intOf]; omega
      · have HD := HF.out _ rfl
        clear HF
        go_wp2_with fail
        refine HD.mono ?_; rintro e w2 ⟨R, Wt, rfl, y1, y2, x1, x2, x3, x4, x5, x6⟩
        have eA := app_text ra R
        have eB := app_text wa Wt
        generalize ra ++ R = A at *
        generalize wa ++ Wt = B at *
        have HX := Lib.hid x6
        clear x6 HD c0 c1 c2 c3
        unfold txt at *
        go_wp2_with fail
        go_region
        go_wp2_with fail
        go_region
        go_wp2_with fail
        go_roundw
        case rel => exact HX.out 2
        case measure => simp [intOf]; omega
      · have HD := HF.out 7 rfl
        clear HF
        go_wp2_with fail
        refine HD.mono ?_; rintro e w2 ⟨R, Wt, rfl, y1, y2, x1, x2, x3, x4, x5, x6⟩
        have eA := app_text ra R
        have eB := app_text wa Wt
        generalize ra ++ R = A at *
        generalize wa ++ Wt = B at *
        have HX := Lib.hid x6
        clear x6 HD c0 c1 c2 c3
        unfold txt at *
        go_wp2_with fail
        go_region
        go_wp2_with fail
        go_region
        go_wp2_with fail
        go_roundw
        case rel => exact HX.out 2
        case measure => simp [intOf]; omega
    · have hlt' : decide ((k : Int) < ops.length) = false := by simpa using hlt
      have Hb := Lib.hid hb
      have HN := Lib.hid hN
      have Hbr := Lib.hid hbr
      have Hbw := Lib.hid hbw
      have Hg := Lib.hid hg
      have Hbeg := Lib.hid hbeg
      have Hwin := Lib.hid hwin
      have hT' := letters_take_le ops k
      clear hb hN hbr hbw hg hbeg hwin Hat
      obtain ⟨w0, hw0⟩ : ∃ w0, w0 = wr := ⟨_, rfl⟩
      have hat0 : Begs2 w0 (.int .i64 0) wr := ⟨0, by decide, rfl, by rw [hw0]; exact Below.refl _ _⟩
      rw [← hw0] at Hb HN Hbr Hbw
      clear hw0
      go_wp2_with fail
      go_loopw [13] (fun i wr => Begs2 w0 i wr) (fun i _ => 8 - (intOf i).toNat)
      case atStart => exact hat0
      case round =>
        obtain ⟨c, hc, rfl, hB⟩ := hrel
        clear hat0
        by_cases hc8 : c < 8
        · have hat := Hbeg.out.2.2 c hc8
          cases hx : n.conns[c]? with
          | none =>
            obtain ⟨hr, hw⟩ := hat.ofNone hx
            have hout : outR ps c := by
              right
              obtain ⟨_, h⟩ := HN.out
              rw [h.len]
              rcases Nat.lt_or_ge c n.conns.length with h | h
              · rw [List.getElem?_eq_getElem h] at hx; cases hx
              · omega
            have hcl2 : decide (n.conns.length ≤ c) = true := by
              unfold outR at hout
              obtain ⟨_, h⟩ := HN.out
              rw [h.len] at hout
              simp; omega
            have hcl : decide ((n.conns.length : Int) ≤ c) = true := by
              unfold outR at hout
              obtain ⟨_, h⟩ := HN.out
              rw [h.len] at hout
              simp; omega
            have HL := fun w2 (hb2 : Below w0.heap.size w0 w2) => Line_out (HN.out.below hb2) c hout
            have HS := fun w2 (hb2 : Below w0.heap.size w0 w2) => Sent_out (HN.out.below hb2) c hout
            have HTk := fun w2 (hb2 : Below w0.heap.size w0 w2) => Taken_out (HN.out.below hb2) c hout
            have HC := fun w2 (hb2 : Below w0.heap.size w0 w2) => Conns_ok (HN.out.below hb2)
            have cr := Hbr.out.cell c
            rw [txts_get hr] at cr
            have cw := Hbw.out.cell c
            rw [txts_get hw] at cw
            have lr := Hbr.out.lt
            have lw := Hbw.out.lt
            have hlenC : n.conns.length ≤ 1024 := by obtain ⟨_, h⟩ := HN.out; rw [← h.len]; exact h.few
            clear hat hx hout
            unfold ptr txt lineV at *
            have hp := List.prefix_refl ([] : List UInt8)
            go_wp2_with fail
            refine (HL _ hB).mono ?_; rintro e w2 ⟨rfl, hw2⟩
            have hX := fun A => ((hB.trans (hw2.mono hB.size)).alloc (by have := hB.size; have := hw2.size; omega) A)
            have cr2 : w2.cell? ⟨br, c, none⟩ = some (.string ⟨#[]⟩) := by rw [(hB.trans (hw2.mono hB.size)).cell (p := ⟨br, c, none⟩) lr]; exact cr
            have cw2 : w2.cell? ⟨br + 1, c, none⟩ = some (.string ⟨#[]⟩) := by rw [(hB.trans (hw2.mono hB.size)).cell (p := ⟨br + 1, c, none⟩) lw]; exact cw
            have lr2 : br < w2.heap.size := by have := hB.size; have := hw2.size; omega
            have lw2 : br + 1 < w2.heap.size := by have := hB.size; have := hw2.size; omega
            have HX := Lib.hid hX
            have HHS := Lib.hid HS
            have HHT := Lib.hid HTk
            have HHC := Lib.hid HC
            have hci : (c : Int) < 8 := by omega
            clear hX hw2 hB HS HTk HC HL cr cw
            go_wp2_with fail
            go_quiet (first
              | (go_at_call 17; exact Calls.quiet_of (HHS.out _ (below_drewN (HX.out _) _)))
              | (go_at_call 18; exact Calls.quiet_of (HHT.out _ (below_drewN (HX.out _) _)))
              | (go_at_call 9; exact Calls.quiet_of (HHC.out _ (below_drewN (HX.out _) _)))
              | (go_at_call 16; exact Calls.quiet_of_same (begins_pre _ _ hp _)))
            go_wp2_with fail
            go_quiet (fail)
            go_wp2_with fail
            go_roundw
            case rel => exact ⟨c + 1, by omega, by go_num, below_drewN (HX.out _) _⟩
            case measure => simp [intOf]; omega
          | some x =>
            obtain ⟨rd, wr', hr, hw, hbc⟩ := hat.ofSome hx
            have hcn : c < n.conns.length := (List.getElem?_eq_some_iff.1 hx).1
            have hcl : decide ((n.conns.length : Int) ≤ c) = false := by simp; omega
            have hcl2 : decide (n.conns.length ≤ c) = false := by simp; omega
            obtain ⟨b, x', hbp, hx'⟩ := HN.out.at (i := c) (by obtain ⟨_, h⟩ := HN.out; rw [h.len]; exact hcn)
            obtain rfl : x' = x := by rw [hx] at hx'; cases hx'; rfl
            have hgx := Hg.out x' (List.mem_of_getElem? hx)
            rw [Hwin.out] at hgx
            obtain ⟨hrd, hwr, hb1, hb2⟩ := hbc
            have p1 : rd <+: x'.up := by rw [hrd]; exact List.take_prefix _ _
            have p2 : x'.dn.take x'.tk <+: wr' := by rw [hwr]; exact List.take_prefix _ _
            have hsum : (x'.dn.take x'.tk).length + (x'.dn.length - x'.tk) = wr'.length := by rw [hwr, List.length_take]; omega
            have HL := fun w2 (hb2 : Below w0.heap.size w0 w2) => Line_in (HN.out.below hb2) hbp hx
            have HS := fun w2 (hb2 : Below w0.heap.size w0 w2) => Sent_in (HN.out.below hb2) hbp hx
            have HTk := fun w2 (hb2 : Below w0.heap.size w0 w2) => Taken_in (HN.out.below hb2) hbp hx
            have HC := fun w2 (hb2 : Below w0.heap.size w0 w2) => Conns_ok (HN.out.below hb2)
            have cr := Hbr.out.cell c
            rw [txts_get hr] at cr
            have cw := Hbw.out.cell c
            rw [txts_get hw] at cw
            have lr := Hbr.out.lt
            have lw := Hbw.out.lt
            have hlenC : n.conns.length ≤ 1024 := by obtain ⟨_, h⟩ := HN.out; rw [← h.len]; exact h.few
            have hgl : x'.dn.length - x'.tk ≤ win := hgx.2.2
            have hwl : wr'.length ≤ 1048576 := by rw [hwr]; exact Nat.le_trans hgx.2.1 (by omega)
            generalize x'.dn.take x'.tk = TK at *
            generalize (if x'.cl || x'.cu then 0 else ((x'.up.length - x'.rd : Nat) : Int)) = UN at *
            generalize x'.dn.length - x'.tk = WT at *
            generalize x'.up = SN at *
            generalize x'.cl = CL at *
            generalize x'.en = EN at *
            clear hat hx hx' hr hw hbp hgx hrd hwr hb1 hb2 hcn
            unfold ptr txt lineV at *
            have P1 := Lib.hid p1
            have P2 := Lib.hid p2
            have hpre : ∀ a b, (a = rd ∧ b = SN ∨ a = TK ∧ b = wr') → a <+: b := by rintro a b (⟨rfl, rfl⟩ | ⟨rfl, rfl⟩) <;> assumption
            have Hpre := Lib.hid hpre
            have HS1 := Lib.hid hsum
            clear p1 p2 hpre hsum
            cases hcu : x'.cu
            all_goals
              simp only [hcu, Bool.false_eq_true, if_false, if_true] at HL
              clear hcu
              go_wp2_with fail
              refine (HL _ hB).mono ?_; rintro e w2 ⟨rfl, hw2⟩
              have hX := fun A => ((hB.trans (hw2.mono hB.size)).alloc (by have := hB.size; have := hw2.size; omega) A)
              have cr2 : w2.cell? ⟨br, c, none⟩ = some (.string ⟨rd.toArray⟩) := by rw [(hB.trans (hw2.mono hB.size)).cell (p := ⟨br, c, none⟩) lr]; exact cr
              have cw2 : w2.cell? ⟨br + 1, c, none⟩ = some (.string ⟨wr'.toArray⟩) := by rw [(hB.trans (hw2.mono hB.size)).cell (p := ⟨br + 1, c, none⟩) lw]; exact cw
              have lr2 : br < w2.heap.size := by have := hB.size; have := hw2.size; omega
              have lw2 : br + 1 < w2.heap.size := by have := hB.size; have := hw2.size; omega
              have HX := Lib.hid hX
              have HHS := Lib.hid HS
              have HHT := Lib.hid HTk
              have HHC := Lib.hid HC
              have hci : (c : Int) < 8 := by omega
              clear hX hw2 hB HS HTk HC HL cr cw
              go_wp2_with fail
              go_quiet (first
                | (go_at_call 17; exact Calls.quiet_of (HHS.out _ (below_drewN (HX.out _) _)))
                | (go_at_call 18; exact Calls.quiet_of (HHT.out _ (below_drewN (HX.out _) _)))
                | (go_at_call 9; exact Calls.quiet_of (HHC.out _ (below_drewN (HX.out _) _)))
                | (go_at_call 16; exact Calls.quiet_of_same (begins_pre _ _ (Hpre.out _ _ (by simp)) _)))
              go_wp2_with fail
              have hw5 : IntKind.i64.wrap ((TK.length : Int) + WT) = TK.length + WT := IntWalk.i64_in _ (by have := HS1.out; omega)
              have hq5 : (((TK.length : Int) + WT) != (wr'.length : Int)) = false := by have := HS1.out; simp; omega
              have hq6 : (((TK.length : Int) + WT) == (wr'.length : Int)) = true := by have := HS1.out; simp; omega
              go_quiet ((go_at_call 18; exact quiet_on (HHT.out _ (below_drewN (HX.out _) _))))
              clear hw5 hq5 hq6
              go_wp2_with fail
              go_roundw
              case rel => exact ⟨c + 1, by omega, by go_num, below_drewN (HX.out _) _⟩
              case measure => simp [intOf]; omega
        · have HS := sure_ok
          have hci : decide ((c : Int) < 8) = false := by simp; omega
          have hF := fun w2 (h : Below wr.heap.size wr w2) => (Hb.out.below.trans (hB.mono Hb.out.below.size)).trans (h.mono (by have := hB.size; have := Hb.out.below.size; omega))
          have HF := Lib.hid hF
          clear hF hB
          go_wp2_with fail
          refine (HS _).mono ?_; rintro e w2 ⟨rfl, hw2⟩
          have HE := Lib.hid (HF.out w2 hw2)
          clear hw2
          go_wp2_with fail
          go_ret
          exact ⟨rfl, HE.out⟩
end Go.Proofs.Ytlgboamedjoidaa
