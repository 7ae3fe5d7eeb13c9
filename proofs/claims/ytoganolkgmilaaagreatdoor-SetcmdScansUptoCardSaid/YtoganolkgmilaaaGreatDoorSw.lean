import Derived.Test.YtoganolkgmilaaaGreatDoorXQ
import Derived.Test.YtoganolkgmilaaaGreatDoorXN
import Derived.Test.YtoganolkgmilaaaGreatDoorXP
import Derived.Test.YtoganolkgmilaaaGreatDoorXH
import Derived.Deep.DeepCutAuto
namespace Go.Proofs.YtoganolkgmilaaaGreatDoor
open Go Go.RowKit
/-! SSCAN without a pattern. -/
abbrev COUNTB : Tx := [67, 79, 85, 78, 84]
abbrev countB : Tx := [99, 111, 117, 110, 116]
theorem str_rest (c : UInt8) (m : Tx) (w : World) : (Instr.slice 9 (.string ⟨(c :: m).toArray⟩) (some (.int .i64 1)) none none).run Tryz.prog w = .ok (.string ⟨m.toArray⟩) w := by
  have hsz : (⟨(c :: m).toArray⟩ : ByteArray).size = m.length + 1 := by simp [ByteArray.size]
  have hex : (⟨(c :: m).toArray⟩ : ByteArray).extract 1 (m.length + 1) = ⟨m.toArray⟩ := by rw [ByteArray.extract_mk]; simp
  simp [Instr.slice, run_underlying Tryz.underlying9, Instr.sliceBounds, Instr.sliceBound, asIntOf, hsz]
  first
  | exact hex
  | (rw [if_pos (by omega)]; simp [hex])
def OptRel (w : World) (n : Int) (s6 s7 s8 s9 s10 : Value) (wr : World) : Prop :=
  s6 = .string ⟨#[]⟩ ∧ s7 = .bool false ∧ ((s8 = .int .i64 10 ∧ s9 = .bool false ∧ s10 = .int .i64 0) ∨ (s8 = .int .i64 n ∧ s9 = .bool true ∧ s10 = .int .i64 2)) ∧ Below w.heap.size w wr
set_option maxRecDepth 10000 in
set_option maxHeartbeats 4000000 in
theorem scanopt_ok {A : Nat → Prop} {w : World} (hT : Tbl w) {v : Value} {nm y : Tx} (hv : Vw A w v 1 2 ([nm, y].map txt)) (hlow : lowL nm = countB) (hnm : nm.length ≤ 1099511627776) {n : Int} (hy : parseN y = some n) (hyl : y.length ≤ 1099511627776) (hn : 1 ≤ n) :
    Calls Tryz.prog 82 #[v] w fun e w' => e = .returned (.tuple #[.string ⟨#[]⟩, .bool false, .int .i64 n, .string ⟨#[]⟩]) ∧ Below w.heap.size w w' := by
  obtain ⟨a0, cap, rfl, hcap, _, _⟩ := id hv.slice
  obtain ⟨b, off, rfl, hbl, hcap, hg⟩ := vw_get hv (by omega)
  have hc0 := hg 0 nm rfl
  have hc1 := hg 1 y rfl
  rw [Nat.add_zero] at hc0
  have HC := Lib.hid (And.intro hc0 hc1)
  have HLO := Lib.hid (fun W => lower_ok nm W hnm)
  rw [hlow] at HLO
  have hpa : ∀ W, Below w.heap.size w W → Calls Tryz.prog 75 #[txt y] W (ParseDid W (some n)) := fun W hW => by rw [← hy]; exact parse_ok (hT.below hW) y hyl
  unfold ParseDid at hpa
  simp only [Option.getD_some, Option.isSome_some, if_true] at hpa
  have HPA := Lib.hid hpa
  have hn0 : decide (n < 1) = false := decide_eq_false (by omega)
  unfold txt at HPA HLO
  clear hv hT hlow hy hg hpa hc0 hc1
  go_enter Tryz.func82, Tryz.ntmps82
  go_wp2_with fail
  go_loopw [6, 7, 8, 9, 10] (fun s6 s7 s8 s9 s10 wr => OptRel w n s6 s7 s8 s9 s10 wr) (fun _ _ _ _ i _ => 2 - (intOf i).toNat)
  case atStart => exact ⟨rfl, rfl, .inl ⟨rfl, rfl, rfl⟩, Below.refl _ _⟩
  case round =>
    obtain ⟨rfl, rfl, ⟨rfl, rfl, rfl⟩ | ⟨rfl, rfl, rfl⟩, hB⟩ := hrel
    · have hc0 := cell_below hB HC.out.1
      have HB := Lib.hid hB
      clear hB
      go_wp2_with fail
      refine (HLO.out _).mono ?_; rintro e w2 ⟨rfl, hB2⟩
      have hB02 := HB.out.trans (hB2.mono HB.out.size)
      have hc1 := cell_below hB02 HC.out.2
      have HB2 := Lib.hid hB02
      clear hB2 hB02 hc0 HB
      go_wp2_with fail
      refine (HPA.out _ HB2.out).mono ?_; rintro e w3 ⟨rfl, hB3⟩
      have HB3 := Lib.hid (HB2.out.trans (hB3.mono HB2.out.size))
      clear hB3 hc1 HB2
      go_wp2_with fail
      go_roundw
      case rel => exact ⟨rfl, rfl, .inr ⟨rfl, rfl, rfl⟩, HB3.out⟩
      case measure => simp [intOf]
    · have HB := Lib.hid hB
      clear hB HPA HLO
      go_wp2_with fail
      exact bodyPost_ret (v := .tuple #[.string ⟨#[]⟩, .bool false, .int .i64 n, .string ⟨#[]⟩]) (by simp [results, Tryz.results82, go_sem]) rfl ⟨rfl, HB.out⟩
/-- A cursor's text; what is left behind it; the next one. -/
def curT : Option Tx → Tx
  | none => [48]
  | some m => 62 :: m
def restL (L : List Tx) : Option Tx → List Tx
  | none => L
  | some m => afterP L m
def nextC (R : List Tx) (j : Nat) : Option Tx := if j < R.length then R[j - 1]? else none
abbrev scanC (next : Tx) (a : Option Addr) (n c : Nat) : List Value := [.int .i64 4, .string ⟨next.toArray⟩, .int .i64 0, .slice none 0 0, .int .i64 6, .string ⟨#[]⟩, .int .i64 0, .slice a n c]
def ScanDid (w : World) (next : Tx) (told : List Tx) (e : Ending) (w' : World) : Prop :=
  ∃ v a c, e = .returned (repV 6 [] 0 v) ∧ Vw (fun b => w.heap.size ≤ b) w' v 4 2 (scanC next a told.length c) ∧ Vw (fun b => w.heap.size ≤ b) w' (.slice a told.length c) 4 told.length (rfsC (told.map bulkF)) ∧ Below w.heap.size w w'
def TellRel (w : World) (R : List Tx) (j : Nat) (out i : Value) (wr : World) : Prop :=
  ∃ k o', k ≤ j ∧ i = .int .i64 ((k : Nat) : Int) ∧ Row o' wr [9, 0] 9 1 out k ((R.take k).map txt) ∧ Stp [9] none0 w o' wr
section
variable {o : Roles} {w : World} {q : List Nat} {p : Nat} {c : Cnt} {S : SP} {cb : Nat} {ρ : List Nat} {now : Int} {sv : Value}
set_option maxRecDepth 10000 in
set_option maxHeartbeats 20000000 in
theorem sscan_ok (h : SpJ o w q p S c) (hq : q ≠ []) (hT : Tbl w) (hcb : Blk o w ρ cb (callC p now sscanB sv) 93)
    {k nm y : Tx} {cu : Option Tx} (hv : Vw (Old w) w sv 1 4 ([k, curT cu, nm, y].map txt)) {V : VV} (hV : V = ((S.at now k).getD hd0).v) {ok : Bool} (hok : ok = (S.at now k).isSome) (hwr : (ok && V.kind != 4) = false) (has : Asc V.list) (hl : V.list.length ≤ 1099511627776)
    (hlow : lowL nm = countB) (hnm : nm.length ≤ 1099511627776) {n : Int} (hy : parseN y = some n) (hyl : y.length ≤ 1099511627776) (hn : 1 ≤ n) {R : List Tx} (hR : restL V.list cu = R) {j : Nat} (hj0 : (j : Int) = min n (R.length : Int)) (hsm : ∀ x ∈ V.list, x.length ≤ 1048576) :
    Calls Tryz.prog 52 #[.pointer (some ⟨cb, 0, none⟩)] w (ScanDid w (curT (nextC R j)) (R.take j)) := by
  obtain ⟨o1, m, hbg, hj⟩ := begin_roles h hq
  have hfr0 := Fr.begin hbg hj hcb
  have hcc := hcb.cell
  have hcl := hcb.lt
  obtain ⟨a0, cap, rfl, hcap, _, _⟩ := id hv.slice
  obtain ⟨a9, c9, _, hcut9, _, hv9⟩ := vw_cut hv 2 4 (by omega) (Nat.le_refl _)
  have hcut9 := hcut9 rfl
  replace hv9 : Vw (Old w) w (.slice a9 2 c9) 1 2 ([nm, y].map txt) := hv9
  replace hcut9 : ∀ W, (Instr.slice 22 (.slice a0 4 cap) (some (.int .i64 2)) none none).run Tryz.prog W = .ok (.slice a9 2 c9) W := hcut9
  obtain ⟨b, off, rfl, hbl, hcap, hg⟩ := vw_get hv (by omega)
  replace hbl : b < w.heap.size := hbl
  have hk0 := hg 0 k rfl
  have hk1 := hg 1 (curT cu) rfl
  rw [Nat.add_zero] at hk0
  have hcapI : (4 : Int) ≤ (cap : Int) := by omega
  have HOP := Lib.hid (scanopt_ok (hT.below hbg.res.2) (hv9.below hbg.res.2) hlow hnm hy hyl hn)
  have HSET := Lib.hid (fun (W : World) (hW : Below w.heap.size w W) => show Calls Tryz.prog 69 #[.pointer (some ⟨cb, 0, none⟩), txt k] W (SetDid W V ok) from by rw [hV, hok]; exact cset_ok (h.below hW) (hcb.below hW) k)
  have hRl : R.length ≤ V.list.length := by
    rw [← hR]
    cases cu with
    | none => exact Nat.le_refl _
    | some m => exact List.length_filter_le _ _
  have hRm : ∀ x ∈ R, x.length ≤ 1048576 := fun x hx => by
    rw [← hR] at hx
    cases cu with
    | none => exact hsm x hx
    | some m => exact hsm x (List.mem_filter.1 hx).1
  have HFR := Lib.hid hfr0
  have HB1 := Lib.hid hbg.res.2
  have HWR := Lib.hid hwr
  have HK := Lib.hid hk0
  have HAS := Lib.hid has
  have HR := Lib.hid hR
  have HRM := Lib.hid hRm
  obtain ⟨i0, hi0, hz0, hz1, hz2⟩ := info_parts infoS
  clear h hcb hv hbg hj hV hok hwr hfr0 hg hy hT has hR hRm hsm hv9 hk0 hlow
  unfold txt at HSET
  go_enter Tryz.func52, Tryz.ntmps52
  go_upto_region 2 with fail
  go_cut [31] (fun s31 wx => s31 = .bool false ∧ wx = w.alloc (.cells zRepC 29))
  case first =>
    clear HOP HSET HFR HB1 HWR HK HAS HR HRM
    cases cu with
    | none =>
      simp only [curT] at hk1 ⊢
      go_wp2_with fail
      go_meet
      exact ⟨rfl, rfl⟩
    | some m0 =>
      simp only [curT] at hk1 ⊢
      go_wp2_with fail
      go_meet
      exact ⟨rfl, rfl⟩
  case rest =>
    obtain ⟨rfl, rfl⟩ := hcut
    have hcc1 := HFR.out.call.cell
    go_wp2_with fail
    refine HOP.out.mono ?_; rintro e w2 ⟨rfl, hB2⟩
    have hf2 := HFR.out.below hB2
    have hcc2 := hf2.call.cell
    have hB02 := HB1.out.trans (hB2.mono HB1.out.size)
    have hk2 := cell_below hB02 HK.out
    have HF2 := Lib.hid hf2
    have HB2 := Lib.hid hB02
    clear hB2 hf2 hB02 HFR HOP hcc1 hcc hk1 hcut9
    go_wp2_with fail
    refine (HSET.out _ HB2.out).mono ?_; rintro e w5 ⟨a5, c5, rfl, hv5, hB5⟩
    rw [HWR.out]
    have HF5 := Lib.hid (HF2.out.below hB5)
    have HV5 := Lib.hid (hv5.since HB2.out)
    have HB5 := Lib.hid (HB2.out.trans (hB5.mono HB2.out.size))
    clear hv5 hB5 HF2 HB2 HSET hcc2 hk2 HK
    go_upto_if 62 with fail
    go_cut [8] (fun s8 wx => ∃ a c, s8 = .slice a R.length c ∧ Vw (fun b => w.heap.size ≤ b) wx (.slice a R.length c) 1 R.length (R.map txt) ∧ Below w5.heap.size w5 wx)
    case first =>
      have hR := HR.out
      clear HF5 HWR HRM HR
      cases cu with
      | none =>
        obtain rfl : V.list = R := hR
        have HV := HV5
        clear HV5 HAS
        simp only [curT]
        go_wp2_with fail
        go_meet
        exact ⟨a5, c5, rfl, HV.out, Below.refl _ _⟩
      | some m0 =>
        simp only [curT]
        have hsl := str_rest 62 m0
        have haf := mafter_ok HV5.out hl m0 V.list.length (ofL_len _)
        rw [ofL_self HAS.out, show afterP V.list m0 = R from hR] at haf
        have HAF := Lib.hid haf
        unfold txt at HAF
        clear haf hR HV5 HAS
        go_wp2_with fail
        refine HAF.out.mono ?_; rintro e w6 ⟨a6, c6, rfl, hv6, hB6⟩
        have HV6 := Lib.hid (hv6.since HB5.out)
        have HB6 := Lib.hid hB6
        clear hv6 hB6 HAF
        go_wp2_with fail
        go_meet
        exact ⟨a6, c6, rfl, HV6.out, HB6.out⟩
    case rest =>
      obtain ⟨a6, c6, rfl, hv6, hB6⟩ := hcut
      have hf6 := HF5.out.below hB6
      have hB06 := HB5.out.trans (hB6.mono HB5.out.size)
      have hjl : j ≤ R.length := by omega
      have hmin : min n (R.length : Int) = (j : Int) := hj0.symm
      have HJ0 := Lib.hid (show R.length ≠ 0 → 1 ≤ j from fun h => by omega)
      clear hj0
      obtain ⟨_, _, e6, hcap6, _⟩ := id hv6.slice
      injection e6 with e61 _ e63
      subst e61 e63
      obtain ⟨a7, c7, _, _, hcut7, hv7⟩ := vw_cut hv6 0 j (Nat.zero_le _) hjl
      have hcut7 := hcut7 rfl
      rw [Nat.sub_zero] at hcut7
      replace hv7 : Vw (fun b => w.heap.size ≤ b) wc (.slice a7 j c7) 1 j ((R.take j).map txt) := by simpa [List.map_take] using hv7
      have HF6 := Lib.hid hf6
      have HV6 := Lib.hid hv6
      have HV7 := Lib.hid hv7
      have HB6 := Lib.hid hB06
      clear hB6 hf6 hB06 hv6 hv7 HF5 HV5 HB5 HAS HR
      go_upto_if 76 with fail
      go_cut [11] (fun s11 wx => s11 = .string ⟨(curT (nextC R j)).toArray⟩ ∧ wx = wc)
      case first =>
        by_cases hjr : j < R.length
        · obtain ⟨j', rfl⟩ : ∃ j', j = j' + 1 := ⟨j - 1, by have := HJ0.out (by omega); omega⟩
          obtain ⟨x, hx⟩ : ∃ x, R[j']? = some x := ⟨_, List.getElem?_eq_getElem (by omega)⟩
          obtain ⟨bv, ov, rfl, hbv, _, hcv⟩ := vw_get HV6.out (by omega)
          have hcell := hcv j' x hx
          have hjI : ((j' + 1 : Nat) : Int) < (R.length : Int) := by omega
          have hj2 : ((j' + 1 : Nat) : Int) = (j' : Int) + 1 := by omega
          have hj3 : (0 : Int) ≤ j' ∧ (j' : Int) < R.length := by omega
          have hxl := HRM.out x (List.mem_of_getElem? hx)
          have hnx : curT (nextC R (j' + 1)) = 62 :: x := by unfold nextC; rw [if_pos hjr]; simp [hx, curT]
          have hba : (⟨[62].toArray⟩ : ByteArray) ++ ⟨x.toArray⟩ = ⟨(62 :: x).toArray⟩ := rfl
          have hbs : (⟨x.toArray⟩ : ByteArray).size = x.length := by simp [ByteArray.size]
          have HNX := Lib.hid hnx
          rw [hj2] at hmin hjI
          clear HV6 HV7 HF6 HB6 HRM hcv hx hnx hcut7 HJ0 HB1 HWR
          go_wp2_with fail
          go_meet
          exact ⟨by rw [HNX.out], rfl⟩
        · have hjI : ¬ ((j : Nat) : Int) < (R.length : Int) := by omega
          have hnx : curT (nextC R j) = [48] := by unfold nextC; rw [if_neg hjr]; rfl
          have HNX := Lib.hid hnx
          clear HV6 HV7 HF6 HB6 HRM hnx hcut7 HJ0 HB1 HWR
          go_wp2_with fail
          go_meet
          exact ⟨by rw [HNX.out], rfl⟩
      case rest =>
        obtain ⟨rfl, rfl⟩ := hcut
        obtain ⟨NX, hNX⟩ : ∃ NX, NX = curT (nextC R j) := ⟨_, rfl⟩
        rw [← hNX]
        have hat : TellRel wc R j (.slice none 0 0) (.int .i64 0) wc := ⟨0, none0, Nat.zero_le _, rfl, Row.nil _ _ _ _ _, Stp.refl _ _ _⟩
        have HNXX := Lib.hid hNX
        clear hNX
        go_wp2_with fail
        go_loopw [12, 87] (fun out i wr => TellRel wc R j out i wr) (fun _ i _ => j - (intOf i).toNat)
        case atStart => exact hat
        case round =>
          clear hat
          obtain ⟨k1, o4, hk1, rfl, hrow, hst⟩ := hrel
          obtain ⟨ao, co, rfl, _⟩ := id hrow.slice
          by_cases hkj : k1 < j
          · obtain ⟨x, hx⟩ : ∃ x, (R.take j)[k1]? = some x := ⟨_, List.getElem?_eq_getElem (by simp; omega)⟩
            obtain ⟨bv, ov, rfl, hbv, _, hcv⟩ := vw_get (HV7.out.below hst.below0) (by omega)
            have hcell := hcv k1 x hx
            have hkI : (0 : Int) ≤ k1 ∧ (k1 : Int) < j := by omega
            have HR3 := Lib.hid (hrow.below ((Below.refl _ wr).alloc (Nat.le_refl _) (.cells #[txt x] 9)))
            have HST3 := Lib.hid (hst.trans (Stp.ofBelow [9] o4 ((Below.refl _ wr).alloc (Nat.le_refl _) (.cells #[txt x] 9))))
            have HSRC := Lib.hid ((vw_new1 wr x 9).src (P := Tryz.prog) Tryz.underlying22 (one_list [x]))
            have HX := Lib.hid (show (R.take (k1 + 1)).map txt = (R.take k1).map txt ++ [txt x] from by
              rw [List.getElem?_take, if_pos hkj] at hx
              rw [List.take_add_one, hx]; simp)
            unfold txt at HR3 HST3 HSRC
            clear hrow hst hcv hx
            have hm1 : k1 + 1 ≤ maxLen := by unfold maxLen; omega
            have hm2 : (k1 + 1) * 16 ≤ 140737488355328 := by omega
            go_wp2_with (
              at_builtin
              refine wpList_app _ rfl _ _ 22 22 rfl 9 i0 _ 1 16 Tryz.underlying22 hi0 hz0 hz1 hz2 rfl rfl HR3.out rfl HSRC.out hm1 hm2 ?_
              intro v' w10 o10 hrow10 hst10
              obtain ⟨a10, c10, rfl, _⟩ := id hrow10.slice
              have e2 : Row o10 w10 [9, 0] 9 1 (.slice a10 (k1 + 1) c10) (k1 + 1) ((R.take (k1 + 1)).map txt) := by rw [HX.out]; exact hrow10
              have D := Lib.hid (show TellRel wc R j (.slice a10 (k1 + 1) c10) (.int .i64 ((k1 + 1 : Nat) : Int)) w10 from ⟨k1 + 1, o10, hkj, rfl, e2, HST3.out.trans (hst10.wide (by decide))⟩)
              clear hrow10 hst10 HR3 HST3 HSRC e2 hm1 hm2)
            go_roundw
            case rel => exact D.out
            case measure => simp [intOf]; omega
          · obtain rfl : k1 = j := by omega
            have htl : (R.take k1).length = k1 := by simp; omega
            have hf7 := HF6.out.below hst.below0
            have hB07 := HB6.out.trans (hst.below0.mono HB6.out.size)
            have HRV := Lib.hid (hrow.fresh2 (by decide) hst).vw
            have HF7 := Lib.hid hf7
            have HB7 := Lib.hid hB07
            have HZ := Lib.hid (show w.heap.size < wr.heap.size from hf7.res.lt)
            clear hrow hst hf7 hB07 HV6 HV7 HF6 HB6 hcut7
            go_wp2_with fail
            refine (lbulk_ok _ NX).mono ?_; rintro e w8 ⟨rfl, hB8⟩
            have HBU := Lib.hid (lbulks_ok (l := R.take k1) (by rw [htl]; exact HRV.out.below hB8) (by rw [htl]; omega))
            have HF8 := Lib.hid (HF7.out.below hB8)
            have HB8 := Lib.hid (HB7.out.trans (hB8.mono HB7.out.size))
            clear hB8 HF7 HB7 HRV
            go_wp2_with fail
            refine HBU.out.mono ?_; rintro e w9 ⟨v9, rfl, hF9⟩
            rw [htl] at hF9
            obtain ⟨a9, c9, rfl, _⟩ := id hF9.vw.slice
            have hB10 := lit_below w9 (.cells (scanC NX a9 k1 c9).toArray 29)
            have hf10 := (HF8.out.below hF9.below).below hB10
            have hrc := hf10.res.cell
            have hrf := hf10.res.free
            have hB09 := HB8.out.trans (hF9.below.mono HB8.out.size)
            have HV9 := Lib.hid (hF9.vw.below hB10)
            have HB9 := Lib.hid hB09
            have HZ9 := Lib.hid hF9.below.size
            have HLT := Lib.hid HF8.out.res.lt
            clear hf10 hB10 hF9 hB09 HBU HF8 HB8
            go_wp2_with fail
            refine bodyPost_ret (v := repV 6 [] 0 (.slice (some ⟨w9.heap.size, 0, none⟩) 2 2)) (by simp [results, Tryz.results52, go_sem, hrc]) rfl ?_
            rw [← HNXX.out]
            unfold ScanDid
            rw [htl]
            refine ⟨_, a9, c9, rfl, ?_, ?_, ?_⟩
            · refine vw_four (w5 := w9) (w6 := w9.alloc (.cells (scanC NX a9 k1 c9).toArray 29)) ?_ (Nat.lt_of_lt_of_le HLT.out HZ9.out)
              refine ⟨⟨_, 2, rfl, Nat.le_refl _, by unfold maxLen; omega, .inr ⟨w9.heap.size, 0, rfl, by simp, Nat.le_refl _, fun k u hk => ?_⟩⟩, rfl⟩
              unfold World.cell?
              rw [show (w9.alloc (.cells (scanC NX a9 k1 c9).toArray 29)).heap[w9.heap.size]? = some (.cells (scanC NX a9 k1 c9).toArray 29 (0, 0)) from heap_alloc_new w9 _]
              simpa using hk
            · exact vw_four (w5 := w8) (w6 := w9.alloc (.cells (scanC NX a9 k1 c9).toArray 29)) HV9.out HLT.out
            · exact below_four (HB9.out.alloc HB9.out.size _)
end
end Go.Proofs.YtoganolkgmilaaaGreatDoor
