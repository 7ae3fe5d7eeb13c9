/- PipeApart: what is done to the other connections plays no part; where the arguments hold together at most 1048576 values and letters. -/
import Derived.Test.YtlgboamedjoidaaApart
namespace Go.Proofs.Ytlgboamedjoidaa
open Go Go.RowKit

set_option maxRecDepth 100000 in
set_option maxHeartbeats 2000000 in
theorem apart_ok (win : Nat) (h1 : 1 ≤ win) (h2 : win ≤ 1048576) (a : Option Addr) (cap : Nat) (ops : List OpM) (W : World) (hat : OpsAt W a ops) (hT : letters ops ≤ 1048576) (hlen : ops.length ≤ 140737488355328) :
    Calls Try.prog 6 #[.int .i64 win, .slice a ops.length cap] W fun e w' => e = .returned (.bool true) ∧ Below W.heap.size W w' := by
  have H1 := New_ok none0 W [0] win h1 h2
  have B0 := Lib.hid (Base.start W)
  have Hat := Lib.hid hat
  clear hat
  go_enter Try.func6, Try.ntmps6
  go_wp2_with fail
  refine H1.mono ?_; rintro e w1 ⟨pa, o1, rfl, hA, st⟩
  have B1 := Lib.hid (B0.out.step st)
  have H2 := New_ok o1 w1 [1] win h1 h2
  have HA1 := Lib.hid hA
  clear st H1 B0 hA
  unfold ptr at *
  go_wp2_with fail
  refine H2.mono ?_; rintro e w2 ⟨pb, o2, rfl, hB, st⟩
  have B2 := Lib.hid (B1.out.step st)
  have H3 := Connect_ok (HA1.out.keep st (Apart.head (by decide) [] [])) (by simp)
  have HB2 := Lib.hid hB
  clear st H2 B1 HA1 hB
  unfold ptr at *
  go_wp2_with fail
  refine H3.mono ?_; rintro e w3 ⟨b1, o3, rfl, hA, st⟩
  have B3 := Lib.hid (B2.out.step st)
  have H4 := Connect_ok (HB2.out.keep st (Apart.head (by decide) [] [])) (by simp)
  have HA3 := Lib.hid hA
  clear st H3 B2 HB2 hA
  unfold ptr at *
  go_wp2_with fail
  refine H4.mono ?_; rintro e w4 ⟨b2, o4, rfl, hB, st⟩
  have B4 := Lib.hid (B3.out.step st)
  have H5 := Accept_some (HA3.out.keep st (Apart.head (by decide) [] [])) (b := b1) (c := freshC) rfl rfl
  have HB4 := Lib.hid hB
  clear st H4 B3 HA3 hB
  unfold ptr at *
  go_wp2_with fail
  refine H5.mono ?_; rintro e w5 ⟨rfl, o5, hA, st⟩
  have B5 := Lib.hid (B4.out.step st)
  have H6 := Accept_some (HB4.out.keep st (Apart.head (by decide) [] [])) (b := b2) (c := freshC) rfl rfl
  have HA5 := Lib.hid hA
  clear st H5 B4 HB4 hA
  unfold ptr at *
  go_wp2_with fail
  refine H6.mono ?_; rintro e w6 ⟨rfl, o6, hB, st⟩
  have hR : ApartRel W pa pb ops win (.int .i64 0) w6 :=
    ⟨0, o6, [b1], [b2], _, _, freshC.accept_, Nat.zero_le _, rfl, B5.out.step st, HA5.out.keep st (Apart.head (by decide) [] []), hB,
      ⟨rfl, rfl, Nat.le_refl 1, rfl, rfl, fun y hy => by simp [NI.put] at hy; subst hy; exact ⟨by simp [freshC, CI.accept_], by simp [freshC, CI.accept_], by simp [freshC, CI.accept_]⟩, fun y hy => by simp [NI.put] at hy; subst hy; exact ⟨by simp [freshC, CI.accept_], by simp [freshC, CI.accept_], by simp [freshC, CI.accept_]⟩⟩⟩
  clear st H6 B5 HA5 hB
  go_wp2_with fail
  go_loopw [9] (fun i wr => ApartRel W pa pb ops win i wr) (fun i _ => ops.length - (intOf i).toNat)
  case atStart => exact hR
  case round =>
    obtain ⟨k, o, psA, psB, nA, nB, x, hk, rfl, hb, hA, hB, tw⟩ := hrel
    clear hR
    by_cases hlt : k < ops.length
    · obtain ⟨op, hop⟩ : ∃ op, ops[k]? = some op := ⟨_, List.getElem?_eq_getElem hlt⟩
      obtain ⟨hok, b, off, ha, hcs⟩ := Hat.out k op hop
      subst ha
      have c0 : wr.cell? ⟨b, off + k * 4, none⟩ = some (.int .i64 op.kind) := hb.cell (hcs 0 _ rfl)
      have c1 := hb.cell (hcs 1 _ rfl)
      have c2 := hb.cell (hcs 2 _ rfl)
      have c3 := hb.cell (hcs 3 _ rfl)
      have hT' := letters_take ops k op hop
      have hTle := letters_take_le ops (k + 1)
      have Hok := Lib.hid hok
      have HTw := Lib.hid tw
      have HT' := Lib.hid hT'
      have HTle := Lib.hid hTle
      have HA := Lib.hid hA
      have HB := Lib.hid hB
      have Hb := Lib.hid hb
      have hlt' : decide ((k : Int) < ops.length) = true := by simpa using hlt
      clear tw hA hB hb hcs hok hop hT' hTle
      have HBk := Lib.hid (Blk.new o wr [] #[.int .i64 op.kind, .int .i64 op.conn, .int .i64 op.n, .string ⟨op.data.toArray⟩] 39 _ rfl)
      have hroom := HTw.out.ga.room (d := op.data.length) (by rw [← HT'.out]; have := HTle.out; omega)
      have hroomB := HTw.out.gb.room (d := op.data.length) (by rw [← HT'.out]; have := HTle.out; omega)
      have HDA := done_ok (HA.out.alloc (opC op) []) (by simp) op Hok.out.2.2 hroom HTw.out.ga.wait
      have HbA := Lib.hid (Hb.out.alloc (opC op) [])
      have HBA := Lib.hid (HB.out.alloc (opC op) [])
      clear hroom HA HB Hb Hat
      by_cases h05 : op.kind = 0 ∨ op.kind = 5
      · have HX := Lib.hid (HTw.out.alone op h05)
        clear HTw hroomB Hok HBk
        have hE : ∀ w2, (∃ ps' o', Net o' w2 [0] pa ps' (doneM nA op).1 ∧ Stp [0] (o.put wr.heap.size []) (wr.alloc (opC op)) o' w2) → ApartRel W pa pb ops win (.int .i64 (k + 1)) w2 := fun w2 ⟨ps', o', hN, st⟩ =>
          ⟨k + 1, o', ps', psB, _, nB, x, by omega, by go_num, HbA.out.step st, hN, HBA.out.keep st (Apart.head (by decide) [] []), by rw [HT'.out]; exact HX.out⟩
        have HE := Lib.hid hE
        clear hE HX HT' HTle HbA HBA
        obtain ⟨kind, conn, nn, data⟩ := op
        unfold ptr opV opC at *
        dsimp only at *
        rcases h05 with rfl | rfl
        all_goals
          go_wp2_with fail
          refine HDA.mono ?_; rintro e w2 ⟨rfl, hN⟩
          have HR := Lib.hid (HE.out w2 hN)
          clear hN HE HDA
          go_wp2_with fail
          go_roundw
          case rel => exact HR.out
          case measure => simp [intOf]; omega
      · have hk : op.kind ≠ 0 ∧ op.kind ≠ 5 := by omega
        have k0 : (op.kind == 0) = false := by simp; omega
        have k5 : (op.kind == 5) = false := by simp; omega
        clear h05
        by_cases hc : op.conn = 0
        · obtain ⟨e1, e2, htw⟩ := HTw.out.both op hk hc
          have HX := Lib.hid htw
          have HDB := fun w2 o' (st : Stp [0] (o.put wr.heap.size []) (wr.alloc (opC op)) o' w2) => done_ok (HBA.out.keep st (Apart.head (by decide) [] [])) (by simp) op Hok.out.2.2 hroomB HTw.out.gb.wait
          obtain ⟨R, Wt, hRW⟩ : ∃ R Wt, (doneC win x op).2 = (R, Wt) := ⟨_, _, rfl⟩
          have eA : doneM nA op = ((doneM nA op).1, R, Wt) := by rw [← hRW, ← e1]
          have eB : doneM nB op = ((doneM nB op).1, R, Wt) := by rw [← hRW, ← e2]
          rw [eA] at HDA
          rw [eB] at HDB
          clear htw e1 e2 hRW eA eB HTw hroomB Hok hk
          have hcells : ∀ w2 o' (st : Stp [0] (o.put wr.heap.size []) (wr.alloc (opC op)) o' w2), ∀ j, w2.cell? ⟨wr.heap.size, j, none⟩ = #[.int .i64 op.kind, .int .i64 op.conn, .int .i64 op.n, .string ⟨op.data.toArray⟩][j]? := fun w2 o' st j => (HBk.out.keep st (by simp)).cell j
          have hE : ∀ w2 o2 ps2, Net o2 w2 [0] pa ps2 (doneM nA op).1 → Stp [0] (o.put wr.heap.size []) (wr.alloc (opC op)) o2 w2 → ∀ w3, (∃ ps3 o3, Net o3 w3 [1] pb ps3 (doneM nB op).1 ∧ Stp [1] o2 w2 o3 w3) → ApartRel W pa pb ops win (.int .i64 (k + 1)) w3 := fun w2 o2 ps2 hN st w3 ⟨ps3, o3, hN3, st3⟩ =>
            ⟨k + 1, o3, ps2, ps3, _, _, _, by omega, by go_num, (HbA.out.step st).step st3, hN.keep st3 (Apart.head (by decide) [] []), hN3, by rw [HT'.out]; exact HX.out⟩
          have HE := Lib.hid hE
          have HC := Lib.hid hcells
          have HDB' := Lib.hid HDB
          clear hE hcells HDB HX HT' HTle HbA HBA HBk
          obtain ⟨kind, conn, nn, data⟩ := op
          unfold ptr opV opC at *
          dsimp only at *
          subst hc
          have hqR : ((⟨R.toArray⟩ : ByteArray).toList == (⟨R.toArray⟩ : ByteArray).toList) = true := by simp
          have hqW : ((⟨Wt.toArray⟩ : ByteArray).toList == (⟨Wt.toArray⟩ : ByteArray).toList) = true := by simp
          unfold txt at *
          go_wp2_with fail
          refine HDA.mono ?_; rintro e w2 ⟨rfl, ps2, o2, hN, st⟩
          dsimp only [txt] at *
          have hc2 := HC.out w2 o2 st
          have HE2 := Lib.hid (HE.out w2 o2 ps2 hN st)
          have HD2 := HDB'.out w2 o2 st
          clear hN st HE HC HDB' HDA c0 c1 c2 c3
          go_wp2_with fail
          refine HD2.mono ?_; rintro e w3 ⟨rfl, hN3⟩
          dsimp only [txt]
          have HR := Lib.hid (HE2.out w3 hN3)
          clear hN3 HE2 HD2
          go_wp2_with fail
          go_roundw
          case rel => exact HR.out
          case measure => simp [intOf]; omega
        · have hc0 : (op.conn == 0) = false := by simp; omega
          have HX := Lib.hid (HTw.out.other op hk hc)
          have hcells : ∀ w2 o' (st : Stp [0] (o.put wr.heap.size []) (wr.alloc (opC op)) o' w2), ∀ j, w2.cell? ⟨wr.heap.size, j, none⟩ = #[.int .i64 op.kind, .int .i64 op.conn, .int .i64 op.n, .string ⟨op.data.toArray⟩][j]? := fun w2 o' st j => (HBk.out.keep st (by simp)).cell j
          have hE : ∀ w2 o' ps', Net o' w2 [0] pa ps' (doneM nA op).1 → Stp [0] (o.put wr.heap.size []) (wr.alloc (opC op)) o' w2 → ApartRel W pa pb ops win (.int .i64 (k + 1)) w2 := fun w2 o' ps' hN st =>
            ⟨k + 1, o', ps', psB, _, nB, x, by omega, by go_num, HbA.out.step st, hN, HBA.out.keep st (Apart.head (by decide) [] []), by rw [HT'.out]; exact HX.out⟩
          have HE := Lib.hid hE
          have HC := Lib.hid hcells
          clear hE hcells HX HT' HTle HbA HBA HBk HTw hroomB Hok hk hc
          obtain ⟨kind, conn, nn, data⟩ := op
          unfold ptr opV opC at *
          dsimp only at *
          go_wp2_with fail
          refine HDA.mono ?_; rintro e w2 ⟨rfl, ps2, o2, hN, st⟩
          dsimp only [txt] at *
          have hc2 := HC.out w2 o2 st
          have HR := Lib.hid (HE.out w2 o2 ps2 hN st)
          clear hN st HE HC HDA c0 c1 c2 c3
          go_wp2_with fail
          go_roundw
          case rel => exact HR.out
          case measure => simp [intOf]; omega
    · have hlt' : decide ((k : Int) < ops.length) = false := by simpa using hlt
      have hpA : 0 < psA.length := by
        obtain ⟨_, h⟩ := hA
        rw [h.len]; exact (List.getElem?_eq_some_iff.1 tw.fst).1
      have hpB : 0 < psB.length := by
        obtain ⟨_, h⟩ := hB
        rw [h.len, tw.snd]; simp
      obtain ⟨bA, xA, hbA, hxA⟩ := hA.at hpA
      obtain ⟨bB, xB, hbB, hxB⟩ := hB.at hpB
      obtain rfl : xA = x := by rw [tw.fst] at hxA; cases hxA; rfl
      obtain rfl : xB = xA := by rw [tw.snd] at hxB; simp at hxB; exact hxB.symm
      have HLA := Line_in hA hbA hxA
      change Calls Try.prog 15 #[ptr pa, .int .i64 0] wr _ at HLA
      have HLB := fun w2 (hb2 : Below wr.heap.size wr w2) => Line_in (hB.below hb2) hbB hxB
      change ∀ w2, Below wr.heap.size wr w2 → Calls Try.prog 15 #[ptr pb, .int .i64 0] w2 _ at HLB
      have HSA := fun w2 (hb2 : Below wr.heap.size wr w2) => Sent_in (hA.below hb2) hbA hxA
      change ∀ w2, Below wr.heap.size wr w2 → Calls Try.prog 17 #[ptr pa, .int .i64 0] w2 _ at HSA
      have HSB := fun w2 (hb2 : Below wr.heap.size wr w2) => Sent_in (hB.below hb2) hbB hxB
      change ∀ w2, Below wr.heap.size wr w2 → Calls Try.prog 17 #[ptr pb, .int .i64 0] w2 _ at HSB
      have HTA := fun w2 (hb2 : Below wr.heap.size wr w2) => Taken_in (hA.below hb2) hbA hxA
      change ∀ w2, Below wr.heap.size wr w2 → Calls Try.prog 18 #[ptr pa, .int .i64 0] w2 _ at HTA
      have HTB := fun w2 (hb2 : Below wr.heap.size wr w2) => Taken_in (hB.below hb2) hbB hxB
      change ∀ w2, Below wr.heap.size wr w2 → Calls Try.prog 18 #[ptr pb, .int .i64 0] w2 _ at HTB
      have HRA := fun w2 (hb2 : Below wr.heap.size wr w2) => Room_q (hA.below hb2) hbA hxA
      change ∀ w2, Below wr.heap.size wr w2 → Calls Try.prog 20 #[ptr pa, .int .i64 0] w2 _ at HRA
      have HRB := fun w2 (hb2 : Below wr.heap.size wr w2) => Room_q (hB.below hb2) hbB hxB
      change ∀ w2, Below wr.heap.size wr w2 → Calls Try.prog 20 #[ptr pb, .int .i64 0] w2 _ at HRB
      rw [tw.wa] at HRA
      rw [tw.wb] at HRB
      generalize roomV win xB = RV at *
      generalize (if xB.cl || xB.cu then 0 else ((xB.up.length - xB.rd : Nat) : Int)) = UN at *
      generalize (if xB.cu then 0 else ((xB.dn.length - xB.tk : Nat) : Int)) = WA at *
      generalize xB.dn.take xB.tk = TK at *
      generalize xB.up = SN at *
      generalize xB.cl = CL at *
      generalize xB.en = EN at *
      generalize xB.cu = CU at *
      have Hb := Lib.hid hb
      have HS := sure_ok
      have hq1 : ((⟨SN.toArray⟩ : ByteArray).toList == (⟨SN.toArray⟩ : ByteArray).toList) = true := by simp
      have hq2 : ((⟨TK.toArray⟩ : ByteArray).toList == (⟨TK.toArray⟩ : ByteArray).toList) = true := by simp
      clear hA hB tw hpA hpB hbA hxA hbB hxB hb Hat hT h1 h2
      unfold ptr txt lineV at *
      go_wp2_with fail
      refine HLA.mono ?_; rintro e w1 ⟨rfl, hw1⟩
      go_wp2_with fail
      refine (HLB _ ((hw1.alloc hw1.size _))).mono ?_; rintro e w2 ⟨rfl, hw2⟩
      have hcl := fun j => hw2.cell (p := ⟨w1.heap.size, j, none⟩) (by simp)
      simp only [World.cell?_alloc_new] at hcl
      have hsz : w1.heap.size < w2.heap.size := by have := hw2.size; simp at this; omega
      go_wp2_with fail
      have hX := fun A => ((((hw1.alloc hw1.size _).trans (hw2.mono (by have := hw1.size; simp; omega))).alloc (by have := hw1.size; omega) A))
      have HX := Lib.hid hX
      have HW := Lib.hid (fun A => Hb.out.below.trans ((hX A).mono Hb.out.below.size))
      clear hX hw1 hw2 hcl hsz
      refine (HSA _ (HX.out _)).mono ?_; rintro e w' ⟨rfl, q, rfl⟩
      go_wp2_with fail
      refine (HSB _ (below_drewN (HX.out _) _)).mono ?_; rintro e w' ⟨rfl, q, rfl⟩
      try rw [World.drewN_drewN]
      go_wp2_with fail
      refine (HTA _ (below_drewN (HX.out _) _)).mono ?_; rintro e w' ⟨rfl, q, rfl⟩
      try rw [World.drewN_drewN]
      go_wp2_with fail
      refine (HTB _ (below_drewN (HX.out _) _)).mono ?_; rintro e w' ⟨rfl, q, rfl⟩
      try rw [World.drewN_drewN]
      go_wp2_with fail
      refine (HRA _ (below_drewN (HX.out _) _)).mono ?_; rintro e w' ⟨rfl, q, rfl⟩
      try rw [World.drewN_drewN]
      go_wp2_with fail
      refine (HRB _ (below_drewN (HX.out _) _)).mono ?_; rintro e w' ⟨rfl, q, rfl⟩
      try rw [World.drewN_drewN]
      go_wp2_with fail
      refine (HS _).mono ?_; rintro e w4 ⟨rfl, hw4⟩
      have HF := Lib.hid ((HW.out _).trans ((Below.fromN hw4).mono (HW.out _).size))
      clear hw4
      go_wp2_with fail
      go_ret
      exact ⟨rfl, HF.out⟩
end Go.Proofs.Ytlgboamedjoidaa

namespace Go.Proofs.Ytlgboamedjoidaa
open Go Go.RowKit Go.ChangeShapes Go.WideShapes Go.ChangeAt
theorem own' : ownKnob Try.prog.godebug = none := by kernel_rfl
theorem laidOut' : laidOutB Try.prog = true := by kernel_rfl
theorem read_3 : Try.prog.readableRec 3 = true ∧ 3 < Try.prog.types.size := ⟨by kernel_rfl, of_decide_eq_true (by kernel_rfl)⟩
theorem read_31 : Try.prog.readableRec 31 = true ∧ 31 < Try.prog.types.size := ⟨by kernel_rfl, of_decide_eq_true (by kernel_rfl)⟩

theorem ops_bulk {H : Type} (ops : List OpM) : ops.length ≤ Rows.uptoBulkAll (ops.map (opD (H := H))) := by
  induction ops with
  | nil => simp
  | cons o ops ih => simp only [List.map_cons, List.length_cons, Rows.uptoBulkAll, opD, Rows.uptoBulk]; omega

theorem apart_contract (H : Type) (enc : TypeId × Value → H) (W : World) (base : Nat) (args : Array Value) (ds gs : List (DataW H)) (before : List MemPlace)
    (hval : ∀ (j : Nat) t v, Try.f6.params[j]? = some t → args[j]? = some v → Value.okWide Try.prog W .any base t v)
    (hW : DataW.Whole enc Try.prog Try.f6.params.toList Rows.pipeApartSpec.vars false W args.toList ds gs before) (hk : Rows.uptoSmall H (ds ++ gs) = true) :
    Calls Try.prog 6 args W fun e W' => ∃ v, e = .returned v ∧ Rows.pipeApartSpec.post enc Try.prog Try.f6 false true false false W args v W' := by
  have hW' := hW
  obtain ⟨p, q, hA0, hV, rfl, hfz, hnd⟩ := hW
  have hA : DataW.TrodAll enc Try.prog W 0 (fun _ => true) true Try.f6.params.toList args.toList ds p := hA0
  rw [Try.params6] at hA hval
  obtain ⟨v0, vs0, d0, ds0, p0, q0, hargs, rfl, rfl, h0, r0⟩ := trodAll_cons hA
  obtain ⟨v1, vs1, d1, ds1, p1, q1, rfl, rfl, rfl, h1, r1⟩ := trodAll_cons r0
  obtain ⟨rfl, rfl, rfl⟩ := trodAll_nil r1
  obtain rfl : args = #[v0, v1] := by cases args; simp_all
  obtain ⟨rfl, rfl⟩ := trodVars_none hV
  obtain ⟨a0, rfl, rfl, rfl, w0⟩ := open_int Try.underlying3 (hval 0 3 v0 rfl rfl) h0
  obtain ⟨aa, ll, cc, rfl⟩ := okWide_slice Try.underlying31 (hval 1 31 v1 rfl rfl)
  obtain ⟨fuel, hf⟩ := h1
  obtain ⟨a, cap, ops, sp, hv, hlen, hd, hat⟩ := open_ops (v := .slice aa ll cc) (by simpa [Value.cells] using hf)
  rw [hv]
  rw [hv] at hW'
  have hT := small_letters hd (by simpa using hk)
  have hlen' : ops.length ≤ 140737488355328 := by
    have h := of_decide_eq_true hk
    simp only [List.append_nil, Rows.uptoBulkAll] at h
    rcases hd with ⟨_, rfl⟩ | hd
    · simp
    · dsimp only at hd
      rw [hd] at h
      simp only [Rows.uptoBulk] at h
      have := ops_bulk (H := H) ops
      omega
  have hpost : ∀ W', Below W.heap.size W W' → Rows.pipeApartSpec.post enc Try.prog Try.f6 false true false false W #[.int .i64 a0, .slice a ops.length cap] (.bool true) W' := fun W' hg =>
    law_post laidOut' rfl rfl Try.underlying4 (by rw [Try.params6]; intro t ht; simp at ht; rcases ht with rfl | rfl; exact read_3; exact read_31) hW' rfl hg
  by_cases hb : fitE a0 = 0
  · have hr : 1 ≤ a0 ∧ a0 ≤ 1048576 := by unfold fitE at hb; split at hb <;> omega
    obtain ⟨win, rfl⟩ : ∃ n : Nat, a0 = n := ⟨a0.toNat, by omega⟩
    exact (apart_ok win (by omega) (by omega) a cap ops W hat hT hlen').mono fun e W' ⟨he, hg⟩ => ⟨_, he, hpost W' hg⟩
  · exact (apart_bad a0 _ W hb).mono fun e W' ⟨he, hg⟩ => ⟨_, he, hpost W' hg⟩

set_option maxRecDepth 100000 in
theorem apart_lifted (os : Os) (started : os.Started) (H : Type) (enc : TypeId × Value → H) (F : Stop.Interp) :
    ReturnsInHanded {} Try.checked os 6 .any ((Rows.OpenSpec.upto Rows.pipeApartSpec).pre6 enc Try.prog Try.f6 Rows.pipeApartUptoRow.domain false) (((Rows.OpenSpec.upto Rows.pipeApartSpec).at F).post enc Try.prog Try.f6 false true false false) := by
  refine returnsInHanded_of_cond (C := Try.checked) (s := Rows.OpenSpec.upto Rows.pipeApartSpec) (k := Rows.uptoSmall) rfl own' started (by kernel_rfl) Try.func6
    (OpenSpec.witness (enc := enc) (C := Try.checked) (s := Rows.OpenSpec.upto Rows.pipeApartSpec) (k := Rows.uptoSmall) rfl false ⟨#[], #[.int .i64 0, .slice none 0 0], []⟩ 8 (by kernel_rfl) (by kernel_rfl) (by kernel_rfl)
      (x := ([.lit (.int .i64 0), .nil], [], [])) (by kernel_rfl) rfl (by kernel_rfl)) ?_
  intro W base args ds gs before hval hW _ hk _
  exact apart_contract H enc W base args ds gs before hval hW hk

theorem apart_over : Rows.pipeApartUptoRow.holds Try.pinned (Rows.OpenSpec.upto Rows.pipeApartSpec) :=
  OpenClaim.holds_of_cond 6 Try.f6 rfl rfl rfl rfl rfl rfl rfl ⟨rfl, rfl, rfl, rfl, rfl⟩ rfl rfl rfl rfl rfl (by kernel_rfl) Try.func6 (by kernel_rfl)
    (of_decide_eq_true (by kernel_rfl)) (by unfold Func.isWrapper; first | (rw [if_pos (by decide +kernel)]; kernel_rfl) | (rw [if_neg (by decide +kernel)]; exact ⟨rfl, rfl⟩))
    (fun os started H enc _ F => apart_lifted os started H enc F)

/-- PipeApart, up to the bound. -/
theorem PipeApart_holds : Rows.PipeApartUptoSaid := apart_over
#print axioms PipeApart_holds
end Go.Proofs.Ytlgboamedjoidaa
