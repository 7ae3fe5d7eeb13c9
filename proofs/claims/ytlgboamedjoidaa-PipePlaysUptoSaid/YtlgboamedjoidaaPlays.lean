import Derived.Test.YtlgboamedjoidaaStep3
namespace Go.Proofs.Ytlgboamedjoidaa
open Go Go.RowKit
set_option maxRecDepth 100000 in
set_option maxHeartbeats 1000000 in
theorem plays_bad (win : Int) (v : Value) (w : World) (h : fitE win ≠ 0) : Calls Try.prog 4 #[.int .i64 win, v] w fun e w' => e = .returned (.bool true) ∧ Below w.heap.size w w' := by
  have hw : win < 1 ∨ 1048576 < win := by unfold fitE at h; split at h; assumption; exact absurd rfl h
  have hf : fitE win = 1 := by unfold fitE; rw [if_pos hw]
  have HN := fun w => New_bad w win hw
  have HF := fun w => Fit_ok w win
  rw [hf] at HF
  have HS := sure_ok
  clear h hw hf
  go_enter Try.func4, Try.ntmps4
  go_wp2_with fail
  refine (HN _).mono ?_; rintro e w' ⟨rfl, rfl⟩
  go_wp2_with fail
  refine (HF _).mono ?_; rintro e w' ⟨rfl, rfl⟩
  go_wp2_with fail
  refine (HS _).mono ?_; rintro e w2 ⟨rfl, hB⟩
  go_wp2_with fail
  go_ret
  exact ⟨rfl, hB⟩

def PlayRel (W : World) (p q : Nat) (ops : List OpM) (iv : Value) (wr : World) : Prop :=
  ∃ (k : Nat) (o : Roles) (ps : List Nat) (n : NI), k ≤ ops.length ∧ iv = .int .i64 k ∧ Pair W o wr p q ps n (letters (ops.take k))
def PlayRel2 (w0 : World) (len : Nat) (iv : Value) (wr : World) : Prop := ∃ c : Int, -1 ≤ c ∧ c ≤ len + 1 ∧ iv = .int .i64 c ∧ Below w0.heap.size w0 wr

set_option maxRecDepth 100000 in
set_option maxHeartbeats 2000000 in
theorem plays_ok (win : Nat) (h1 : 1 ≤ win) (h2 : win ≤ 1048576) (a : Option Addr) (cap : Nat) (ops : List OpM) (W : World) (hat : OpsAt W a ops) (hT : letters ops ≤ 1048576) (hlen : ops.length ≤ 140737488355328) :
    Calls Try.prog 4 #[.int .i64 win, .slice a ops.length cap] W fun e w' => e = .returned (.bool true) ∧ Below W.heap.size W w' := by
  have H1 := New_ok none0 W [0] win h1 h2
  have B0 := Lib.hid (Base.start W)
  have Hat := Lib.hid hat
  have HF := fun w => Fit_ok w win
  rw [show fitE win = 0 from by unfold fitE; rw [if_neg (by omega)]] at HF
  clear hat
  go_enter Try.func4, Try.ntmps4
  go_wp2_with fail
  refine H1.mono ?_; rintro e w1 ⟨p, o1, rfl, hN, st⟩
  have B1 := Lib.hid (B0.out.step st)
  have HN1 := Lib.hid hN
  clear st H1 B0 hN
  unfold ptr at *
  go_wp2_with fail
  refine (HF _).mono ?_; rintro e w' ⟨rfl, rfl⟩
  go_wp2_with fail
  have hR : PlayRel W p w'.heap.size ops (.int .i64 0) (w'.alloc (.cells #[.int .i64 win, .slice none 0 0] 36)) := by
    have hq : ([1] ++ [0] : List Nat) = [1, 0] := rfl
    refine ⟨0, o1.put w'.heap.size [1, 0], [], _, Nat.zero_le _, rfl, B1.out.alloc _ _, HN1.out.alloc _ _, ?_, fun j c hc => by simp at hc, fun x hx => by simp at hx⟩
    exact ⟨.slice none 0 0, by rw [hq]; exact Blk.new o1 w' [1, 0] _ 36 _ rfl, Row.nil _ _ _ _ _, by simp, fun c hc => by simp at hc, h2⟩
  generalize hq' : w'.heap.size = q at *
  have HR := Lib.hid hR
  clear hR B1 HN1 hq' HF
  go_loopw [8] (fun i wr => PlayRel W p q ops i wr) (fun i _ => ops.length - (intOf i).toNat)
  case atStart => exact HR.out
  case round =>
    obtain ⟨k, o, ps, n, hk, rfl, hP⟩ := hrel
    clear HR
    by_cases hlt : k < ops.length
    · obtain ⟨op, hop⟩ : ∃ op, ops[k]? = some op := ⟨_, List.getElem?_eq_getElem hlt⟩
      obtain ⟨hok, b, off, ha, hcs⟩ := Hat.out k op hop
      subst ha
      have hb := hP.base
      have c0 : wr.cell? ⟨b, off + k * 4, none⟩ = some (.int .i64 op.kind) := hb.cell (hcs 0 _ rfl)
      have c1 := hb.cell (hcs 1 _ rfl)
      have c2 := hb.cell (hcs 2 _ rfl)
      have c3 := hb.cell (hcs 3 _ rfl)
      have hT' := letters_take ops k op hop
      have hTle := letters_take_le ops (k + 1)
      have HS := step_ok hP op hok.2.2 (by rw [← hT']; omega)
      rw [← hT'] at HS
      have hF : ∀ w2, (∃ o' ps', Pair W o' w2 p q ps' (doneM n op).1 (letters (ops.take (k + 1)))) → PlayRel W p q ops (.int .i64 (k + 1)) w2 := fun w2 ⟨o', ps', h⟩ => ⟨k + 1, o', ps', _, by omega, by go_num, h⟩
      have HF := Lib.hid hF
      clear hP hb hcs hok hop hT' hTle Hat hF
      obtain ⟨kind, conn, nn, data⟩ := op
      unfold ptr opV at *
      dsimp only at *
      go_wp2_with fail
      refine HS.mono ?_; rintro e w2 ⟨rfl, hx⟩
      have HE := Lib.hid (HF.out w2 hx)
      clear HS hx HF c0 c1 c2 c3
      go_wp2_with fail
      go_roundw
      case rel => exact HE.out
      case measure => simp [intOf]; omega
    · obtain ⟨w0, hw0⟩ : ∃ w0, w0 = wr := ⟨_, rfl⟩
      rw [← hw0] at hP
      have hlenC : n.conns.length ≤ 1024 := by obtain ⟨_, h⟩ := hP.ref; exact h.few
      have hat0 : PlayRel2 w0 n.conns.length (.int .i64 (-1)) wr := ⟨-1, by omega, by omega, rfl, by rw [hw0]; exact Below.refl _ _⟩
      clear hw0 Hat
      have HP := Lib.hid hP
      clear hP
      go_wp2_with fail
      go_loopw [9] (fun i wr => PlayRel2 w0 n.conns.length i wr) (fun i _ => (n.conns.length + 2 - (intOf i)).toNat)
      case atStart => exact hat0
      case round =>
        obtain ⟨c, hc1, hc2, rfl, hB⟩ := hrel
        clear hat0
        obtain ⟨lv, hRV⟩ := HP.out.ref
        obtain ⟨a', cap', hv, _⟩ := hRV.row.slice
        have hq : wr.cell? ⟨q, 1, none⟩ = some (.slice a' n.conns.length cap') := by
          rw [hB.cell (p := ⟨q, 1, none⟩) hRV.blk.lt, hRV.blk.cell, hv]; rfl
        clear hRV hv
        have hP2 : Pair W o wr p q ps n (letters (ops.take k)) := ⟨HP.out.base.later hB, HP.out.net.below hB, HP.out.ref.below hB, HP.out.acc, HP.out.good⟩
        by_cases hle : c ≤ n.conns.length
        · have HL := look_ok hP2 c
          unfold ptr at HL
          have hB' := Lib.hid hB
          clear hP2 hB
          go_wp2_with fail
          refine HL.mono ?_; rintro e w2 ⟨rfl, hb2⟩
          have HE := Lib.hid (hB'.out.trans (hb2.mono hB'.out.size))
          clear HL hb2 hB'
          go_wp2_with fail
          go_roundw
          case rel => exact ⟨c + 1, by omega, by omega, rfl, HE.out⟩
          case measure => simp [intOf]; omega
        · have HS := sure_ok wr
          have hF : ∀ w2, Below wr.heap.size wr w2 → Below W.heap.size W w2 := fun w2 h => (hP2.base.later h).below
          have HF := Lib.hid hF
          clear hP2 hB hF
          go_wp2_with fail
          refine HS.mono ?_; rintro e w2 ⟨rfl, hb2⟩
          have HE := Lib.hid (HF.out w2 hb2)
          clear HS hb2 HF
          go_wp2_with fail
          go_ret
          exact ⟨rfl, HE.out⟩
end Go.Proofs.Ytlgboamedjoidaa
