import Derived.Test.YtgmmeeikjofefaaGreatDoorGG
import Derived.Test.YtgmmeeikjofefaaGreatDoorGF
namespace Go.Proofs.YtgmmeeikjofefaaGreatDoor
open Go Go.RowKit
/-! move. -/
abbrev leftB : List UInt8 := [108, 101, 102, 116]
abbrev rightB : List UInt8 := [114, 105, 103, 104, 116]
def sideB (left : Bool) : List UInt8 := if left then leftB else rightB
abbrev lmoveB : List UInt8 := [108, 109, 111, 118, 101]
def wayC (f t : Bool) (k : Nat) : Array Value := #[.bool (decide (1 ≤ k) && f), .bool (decide (2 ≤ k) && t)]
def WayRel (o1 : Roles) (w : World) (m : Nat) (f t : Bool) (i : Value) (wr : World) : Prop :=
  ∃ k, k ≤ 2 ∧ i = .int .i64 ((k : Nat) : Int) ∧ Below (w.heap.size + 1) (w.alloc (.cells zRepC 29)) wr ∧ Blk o1 wr [m + 2] (w.heap.size + 1) (wayC f t k) 121
theorem wayC_step0 (f t : Bool) : wayC f t 1 = if f then (wayC f t 0).setIfInBounds 0 (.bool true) else wayC f t 0 := by cases f <;> cases t <;> rfl
theorem wayC_step1 (f t : Bool) : wayC f t 2 = if t then (wayC f t 1).setIfInBounds 1 (.bool true) else wayC f t 1 := by cases f <;> cases t <;> rfl
theorem WayRel.next {o1 : Roles} {w wr : World} {m k : Nat} {f t : Bool} {s : Bool} (hk : k < 2) (hs : s = if k = 0 then f else t) (hB : Below (w.heap.size + 1) (w.alloc (.cells zRepC 29)) wr) (hb : Blk o1 wr [m + 2] (w.heap.size + 1) (wayC f t k) 121) :
    WayRel o1 w m f t (.int .i64 ((k : Nat) + 1 : Int)) (if s then wr.setCell ⟨w.heap.size + 1, k, none⟩ (.bool true) else wr) := by
  refine ⟨k + 1, hk, by simp, ?_, ?_⟩
  · cases s with
    | true => exact hB.setCell (Nat.le_refl _) _
    | false => exact hB
  · obtain rfl | rfl : k = 0 ∨ k = 1 := by omega
    · rw [wayC_step0]
      rw [if_pos rfl] at hs
      subst hs
      cases s with
      | true => exact hb.setCell 0 _
      | false => exact hb
    · rw [wayC_step1]
      rw [if_neg (by decide)] at hs
      subst hs
      cases s with
      | true => exact hb.setCell 1 _
      | false => exact hb
section
variable {o : Roles} {w : World} {q : List Nat} {p : Nat} {c : Cnt} {S : SP}
/-- The sides of a move. -/
def Sides (nm : List UInt8) (rest : List (List UInt8)) (f t : Bool) : Prop := (nm = lmoveB ∧ ∃ x y, rest = [x, y] ∧ lowL x = sideB f ∧ lowL y = sideB t ∧ x.length ≤ 1099511627776 ∧ y.length ≤ 1099511627776) ∨ (nm ≠ lmoveB ∧ f = false ∧ t = true)
theorem vw_get {A : Nat → Prop} {w : World} {a : Option Addr} {n cap : Nat} {l : List (List UInt8)} (h : Vw A w (.slice a n cap) 1 n (l.map txt)) (hn : 0 < n) : ∃ b off, a = some ⟨b, off, none⟩ ∧ A b ∧ n ≤ cap ∧ ∀ (k : Nat) x, l[k]? = some x → w.cell? ⟨b, off + k, none⟩ = some (.string ⟨x.toArray⟩) := by
  obtain ⟨⟨a', c', e, g1, g2, g3⟩, g4⟩ := h
  injection e with e1 e2 e3
  subst e1 e3
  rcases g3 with g3 | ⟨b, off, rfl, g5, g6, g7⟩
  · omega
  · exact ⟨b, off, rfl, g6, g1, fun k x hx => g7 k (txt x) (by rw [List.getElem?_map, hx]; rfl)⟩
/-- What a move does to a space. -/
def SP.moveL (S : SP) (now : Int) (k l : List UInt8) (t : Bool) (x : List UInt8) (tl : List (List UInt8)) (n : Nat) : SP :=
  if k = l then S.setL now k (endL t x tl) n else (S.setL now k tl n).setL now l (endL t x ((S.at now l).getD hd0).v.list) (n + 1)
def Cnt.moveL (c : Cnt) (k l : List UInt8) : Cnt := if k = l then c.next else c.next.next
def MoveR (o1 : Roles) (w : World) (m : Nat) (f t : Bool) (s3 s4 : Value) (wx : World) : Prop :=
  s3 = .bool f ∧ s4 = .bool t ∧ Below w.heap.size w wx ∧ Blk o1 wx [m + 2] w.heap.size zRepC 29
set_option maxRecDepth 10000 in
set_option maxHeartbeats 4000000 in
theorem lcmove_ok (h : SpJ o w q p S c) (hq : q ≠ []) {cb : Nat} {ρ : List Nat} (hρ : ¬ q <+: ρ) {now : Int} {nm : List UInt8} {sv : Value} (hcb : Blk o w ρ cb (callC p now nm sv) 79)
    {k l : List UInt8} {rest : List (List UInt8)} (hv : Vw (Old w) w sv 1 (rest.length + 2) ((k :: l :: rest).map txt)) {f t : Bool} (hsd : Sides nm rest f t)
    {H : Hd} (hS : S.at now k = some H) (hk : H.v.kind = 2) {x : List UInt8} {tl : List (List UInt8)} (hl : H.v.list = endL f x tl)
    {E : VV} (hE : E = ((S.at now l).getD hd0).v) {eok : Bool} (heok : eok = (S.at now l).isSome) (hwr : (eok && E.kind != 2) = false)
    (hs : ∀ y ∈ endL t x tl, y.length ≤ 1048576) (hs2 : ∀ y ∈ E.list, y.length ≤ 1048576) (hB : tl.length ≤ 274877906944) (hB2 : E.list.length ≤ 274877906944) (hc : c.num ≤ 1099511627775) :
    Calls Tryz.prog 38 #[.pointer (some ⟨cb, 0, none⟩)] w (RepJ o w q p (S.moveL now k l t x tl (c.num + 1)) (c.moveL k l) (bulkF x)) := by
  obtain ⟨o1, m, hbg, hj⟩ := begin_roles h hq
  have hcb1 := hbg.blk hcb
  have hcc := hcb.cell
  obtain ⟨a0, cap, rfl, hcap, _, _⟩ := id hv.slice
  obtain ⟨b, off, rfl, hbl, hcap, hg⟩ := vw_get hv (by omega)
  have hcl := hcb.lt
  have hbl : b < w.heap.size := hbl
  have hk0 := hg 0 k rfl
  have hk1 := hg 1 l rfl
  rw [Nat.add_zero] at hk0
  obtain ⟨hR1, hB1⟩ := hbg.res
  have HBG := Lib.hid hbg
  have HJ := Lib.hid hj
  have HCB := Lib.hid hcb1
  have HR1 := Lib.hid hR1
  have HB1 := Lib.hid hB1
  have HSD := Lib.hid hsd
  have HG := Lib.hid hg
  have HS := Lib.hid hS
  have HK := Lib.hid hk
  have HL := Lib.hid hl
  have HSM := Lib.hid hs
  have HSM2 := Lib.hid hs2
  have HE := Lib.hid hE
  have HEO := Lib.hid heok
  have HWR := Lib.hid hwr
  clear h hcb hbg hj hcb1 hsd hg hS hk hl hs hv hR1 hB1 hE heok hwr hs2
  obtain ⟨isl, hnm⟩ : ∃ isl : Bool, (nm == [108, 109, 111, 118, 101]) = isl := ⟨_, rfl⟩
  go_enter Tryz.func38, Tryz.ntmps38
  go_upto_if 22 with fail
  go_cut [3, 4] (fun s3 s4 wx => MoveR o1 w m f t s3 s4 wx)
  case first =>
    rcases HSD.out with ⟨rfl, y1, y2, rfl, hy1, hy2, hy3, hy4⟩ | ⟨hn, rfl, rfl⟩
    · have hk2 := HG.out 2 y1 rfl
      have hk3 := HG.out 3 y2 rfl
      obtain rfl : isl = true := by rw [← hnm]; rfl
      clear hnm
      have hcap4 : 4 ≤ cap := hcap
      have hcap4I : (4 : Int) ≤ (cap : Int) := by omega
      have HY1 := Lib.hid hy1
      have HY2 := Lib.hid hy2
      clear hcap hy1 hy2 HJ HS HK HL HSM HSM2 HE HEO HWR HG HSD hk0 hk1
      have hat : WayRel o1 w m f t (.int .i64 0) ((w.alloc (.cells zRepC 29)).alloc (.cells #[.bool false, .bool false] 121)) := by
        refine ⟨0, Nat.zero_le _, rfl, (Below.refl _ _).alloc (by simp) _, ⟨?_, HBG.out.new _ (Nat.le_succ _)⟩⟩
        have := heap_alloc_new (w.alloc (.cells zRepC 29)) (.cells #[.bool false, .bool false] 121)
        simpa [wayC] using this
      go_wp2_with fail
      go_loopw [29] (fun i wr => WayRel o1 w m f t i wr) (fun i _ => 2 - (intOf i).toNat)
      case atStart => exact hat
      case round =>
        obtain ⟨kk, hkk, rfl, hB, hblk⟩ := hrel
        clear hat
        have hsz := hB.size
        rw [World.size_alloc] at hsz
        by_cases hkl : kk < 2
        · have hB0 : Below w.heap.size w wr := HB1.out.trans (hB.mono (by omega))
          obtain ⟨y, hy, hyl, s, hs, hys⟩ : ∃ y, wr.cell? ⟨b, off + 2 + kk, none⟩ = some (.string ⟨(y : List UInt8).toArray⟩) ∧ y.length ≤ 1099511627776 ∧ ∃ s : Bool, (s = if kk = 0 then f else t) ∧ lowL y = sideB s := by
            have hq2 := (bcell hB0).1
            obtain rfl | rfl : kk = 0 ∨ kk = 1 := by omega
            · exact ⟨y1, by rw [hq2 _ _ hbl]; exact hk2, hy3, f, rfl, HY1.out⟩
            · exact ⟨y2, by rw [hq2 _ _ hbl]; exact hk3, hy4, t, rfl, HY2.out⟩
          have hkI : (0 : Int) ≤ kk ∧ (kk : Int) < 2 := by omega
          have HLO := Lib.hid (lower_ok y wr hyl)
          have HYS := Lib.hid hys
          have HNX := Lib.hid (fun (W : World) (hW : Below wr.heap.size wr W) => WayRel.next (s := s) hkl hs (hB.trans (hW.mono (by omega))) (hblk.below hW))
          have HBK := Lib.hid hblk
          clear hB hblk hB0 hs hys hyl hk2 hk3 hcc HB1 HR1
          unfold txt at HLO
          go_wp2_with fail
          refine HLO.out.mono ?_; rintro e w2 ⟨rfl, hW⟩
          rw [HYS.out]
          have D := Lib.hid (HNX.out w2 hW)
          have hb2 := (HBK.out.below hW).cell
          have hf2 := (HBK.out.below hW).free
          clear hW HNX HLO HBK hy HYS
          cases s with
          | true =>
            unfold sideB wayC at *
            go_wp2_with fail
            exact ⟨D.out, by simp [intOf]; omega⟩
          | false =>
            unfold sideB wayC at *
            go_wp2_with fail
            exact ⟨D.out, by simp [intOf]; omega⟩
        · obtain rfl : kk = 2 := by omega
          have D := Lib.hid (show ∀ n, MoveR o1 w m f t (.bool f) (.bool t) (wr.drewN n) from fun n => ⟨rfl, rfl, below_drewN (HB1.out.trans (hB.mono (by omega))) n, (HR1.out.below (by rw [World.size_alloc]; exact hB)).drewN n⟩)
          have hb2 := hblk.cell
          clear hB hblk HB1 HR1 HY1 HY2 hk2 hk3
          unfold wayC at *
          go_wp2_with fail
          go_quiet (fail)
          go_wp2_with fail
          go_meet
          exact D.out _
    · obtain rfl : isl = false := by rw [← hnm]; exact beq_eq_false_iff_ne.2 hn
      clear hn hnm
      have D := Lib.hid (show MoveR o1 w m false true (.bool false) (.bool true) (w.alloc (.cells zRepC 29)) from ⟨rfl, rfl, HB1.out, HR1.out⟩)
      clear HJ HS HK HL HSM HSM2 HE HEO HWR HG HSD hk0 hk1 HCB HB1 HR1
      go_wp2_with fail
      go_meet
      exact D.out
  case rest =>
    obtain ⟨rfl, rfl, hB3, hR3⟩ := hcut
    have hcc3 := (HCB.out.below hB3).cell
    have hq3 := (bcell hB3).1
    have hk03 : wc.cell? ⟨b, off, none⟩ = some (.string ⟨k.toArray⟩) := by rw [hq3 _ _ hbl]; exact hk0
    have hk13 : wc.cell? ⟨b, off + 1, none⟩ = some (.string ⟨l.toArray⟩) := by rw [hq3 _ _ hbl]; exact hk1
    have hcapI : (1 : Int) < ((rest.length + 2 : Nat) : Int) := by omega
    have HFR := Lib.hid (show ∀ n, Fr o w q p m ρ cb _ S c o1 (wc.drewN n) from fun n =>
      ⟨HJ.out.below (below_drewN hB3 n), (HCB.out.below hB3).drewN n, hR3.drewN n, (HBG.out.st q).trans (Stp.ofBelow q o1 (below_drewN hB3 n)), fun j => by rw [← HCB.out.role]; exact HBG.out.no2 j cb hcl⟩)
    clear hB3 hR3 hq3 hcc hk0 hk1 HB1 HR1 HG HSD HJ HCB
    go_wp2_with fail
    go_quiet (fail)
    go_wp2_with fail
    have hfr := HFR.out nq
    have hl1 := clist_ok hfr.sp hfr.call k [m]
    rw [HS.out] at hl1
    refine hl1.mono ?_; rintro e w2 ⟨d, o2, rfl, hd, hs2⟩
    simp only [Option.getD_some] at hd
    rw [HL.out] at hd
    have hfr2 := hfr.step HBG.out (j := 0) (by decide) (hs2 [m])
    have e1 : ((some H).isSome && ((some H).getD hd0).v.kind != 2) = false := by
      simp only [Option.getD_some, HK.out]; rfl
    rw [e1]
    have hl2 := clist_ok hfr2.sp hfr2.call l [m + 1]
    rw [← HE.out, ← HEO.out] at hl2
    have HL2 := Lib.hid hl2
    have HD2 := Lib.hid hd
    have HF2 := Lib.hid hfr2
    clear hl1 hl2 hfr hfr2 hd hs2 HFR hcc3 hk03 hk13 e1
    unfold txt at HL2
    go_wp2_with fail
    refine HL2.out.mono ?_; rintro e w3 ⟨d2, o3, rfl, hd2, hs3⟩
    rw [HWR.out]
    have HF3 := Lib.hid (HF2.out.step HBG.out (j := 1) (by decide) (hs3 [m + 1]))
    have HD3 := Lib.hid (HD2.out.keep (hs3 [m + 1]) (Apart.head (by omega) [] []))
    have HE3 := Lib.hid hd2
    clear hd2 hs3 HF2 HD2 HL2
    have HT3 := Lib.hid (take_ok (HD3.out) (by rw [endL_len]; omega))
    unfold txt at HT3
    have hxs : x.length ≤ 1048576 := HSM.out x (by unfold endL; cases t <;> simp)
    have htl : ∀ y ∈ tl, y.length ≤ 1048576 := fun y hy => HSM.out y (by unfold endL; cases t <;> simp [hy])
    have HTL := Lib.hid htl
    have HXS := Lib.hid hxs
    clear hxs htl
    by_cases hkl : k = l
    · subst hkl
      have hkk : (k == k) = true := by simp
      have HRS := Lib.hid (show S.moveL now k k t x tl (c.num + 1) = S.setL now k (endL t x tl) (c.num + 1) ∧ c.moveL k k = c.next from ⟨if_pos rfl, if_pos rfl⟩)
      go_wp2_with fail
      refine HT3.out.mono ?_; rintro e w4 ⟨rfl, o4, hd4, hs4⟩
      have HF4 := Lib.hid (HF3.out.step HBG.out (j := 0) (by decide) hs4)
      have HY4 := Lib.hid (lay_ok' (left := t) hd4 (by simp) x (by rw [endL_len]; omega))
      unfold txt at HY4
      clear hd4 hs4 HF3 HD3 HE3 HT3
      go_wp2_with fail
      refine HY4.out.mono ?_; rintro e w5 ⟨rfl, o5, hd5, hs5⟩
      have hf5 := HF4.out.step HBG.out (j := 0) (by decide) hs5
      have HP5 := Lib.hid (lcput_any hf5.sp hf5.call k hd5 (fun e => absurd e (by unfold endL; cases t <;> simp)) HSM.out (by rw [endL_len]; omega) (by omega))
      have HF5 := Lib.hid hf5
      unfold txt at HP5
      clear hd5 hs5 hf5 HF4 HY4
      go_wp2_with fail
      refine HP5.out.mono ?_; rintro e w6 ⟨rfl, o6, hj6, hs6⟩
      have HF6 := Lib.hid (HF5.out.put HBG.out hρ hj6 hs6)
      clear hj6 hs6 HF5 HP5
      go_wp2_with fail
      refine (lbulk_ok _ _).mono ?_; rintro e w7 ⟨rfl, hB7⟩
      have hf7 := HF6.out.below hB7
      have HF7 := Lib.hid hf7
      have hrc := hf7.res.cell
      have hrf := hf7.res.free
      clear hB7 hf7 HF6
      go_wp2_with fail
      obtain ⟨hj8, hs8⟩ := HF7.out.fin HBG.out (.int .i64 4) (.string ⟨x.toArray⟩) (.int .i64 0) (.slice none 0 0)
      rw [HRS.out.1, HRS.out.2]
      exact bodyPost_ret (v := repV 4 x 0 (.slice none 0 0)) (by simp [results, Tryz.results38, go_sem, hrc]) rfl ⟨rfl, o6, hj8, hs8⟩
    · have hkk : (k == l) = false := beq_eq_false_iff_ne.2 hkl
      have HRS := Lib.hid (show S.moveL now k l t x tl (c.num + 1) = (S.setL now k tl (c.num + 1)).setL now l (endL t x ((S.at now l).getD hd0).v.list) (c.num + 1 + 1) ∧ c.moveL k l = c.next.next from ⟨if_neg hkl, if_neg hkl⟩)
      have HKS := Lib.hid (SP.at_some HS.out).1
      go_wp2_with fail
      refine HT3.out.mono ?_; rintro e w4 ⟨rfl, o4, hd4, hs4⟩
      have HF4 := Lib.hid (HF3.out.step HBG.out (j := 0) (by decide) hs4)
      have HY4 := Lib.hid (lay_ok' (left := t) (HE3.out.keep hs4 (Apart.head (by omega) [] [])) (by simp) x (by omega))
      have HD4 := Lib.hid hd4
      unfold txt at HY4
      clear hd4 hs4 HF3 HD3 HE3 HT3
      go_wp2_with fail
      refine HY4.out.mono ?_; rintro e w5 ⟨rfl, o5, hd5, hs5⟩
      have hf5 := HF4.out.step HBG.out (j := 1) (by decide) hs5
      have HP5 := Lib.hid (lcput_any hf5.sp hf5.call k (HD4.out.keep hs5 (Apart.head (by omega) [] [])) (fun _ => by rw [HKS.out]; rfl) HTL.out (by rw [endL_len]; omega) (by omega))
      have HF5 := Lib.hid hf5
      have HE5 := Lib.hid hd5
      unfold txt at HP5
      clear hd5 hs5 hf5 HF4 HY4 HD4
      go_wp2_with fail
      refine HP5.out.mono ?_; rintro e w6 ⟨rfl, o6, hj6, hs6⟩
      have hf6 := HF5.out.put HBG.out hρ hj6 hs6
      have HP6 := Lib.hid (lcput_any hf6.sp hf6.call l (HE5.out.keep hs6 (HBG.out.aq 1)) (fun e => absurd e (by unfold endL; cases t <;> simp)) (fun y hy => by
        unfold endL at hy
        cases t <;> simp at hy <;> rcases hy with hy | hy <;> first | exact HSM2.out y hy | (subst hy; exact HXS.out)) (by omega) (by show c.num + 1 ≤ _; omega))
      have HF6 := Lib.hid hf6
      unfold txt at HP6
      clear hj6 hs6 hf6 HF5 HP5 HE5
      go_wp2_with fail
      refine HP6.out.mono ?_; rintro e w6b ⟨rfl, o7, hj7, hs7⟩
      have HF7 := Lib.hid (HF6.out.put HBG.out hρ hj7 hs7)
      clear hj7 hs7 HF6 HP6
      go_wp2_with fail
      refine (lbulk_ok _ _).mono ?_; rintro e w7 ⟨rfl, hB7⟩
      have hf8 := HF7.out.below hB7
      have HF8 := Lib.hid hf8
      have hrc := hf8.res.cell
      have hrf := hf8.res.free
      clear hB7 hf8 HF7
      go_wp2_with fail
      obtain ⟨hj8, hs8⟩ := HF8.out.fin HBG.out (.int .i64 4) (.string ⟨x.toArray⟩) (.int .i64 0) (.slice none 0 0)
      rw [HRS.out.1, HRS.out.2, ← HE.out]
      exact bodyPost_ret (v := repV 4 x 0 (.slice none 0 0)) (by simp [results, Tryz.results38, go_sem, hrc]) rfl ⟨rfl, o7, hj8, hs8⟩
end
end Go.Proofs.YtgmmeeikjofefaaGreatDoor
namespace Go.Proofs.YtgmmeeikjofefaaGreatDoor
open Go Go.RowKit
/-! A reply that holds a list. -/
theorem all_below {o o' : Roles} {w w' : World} (h : ∀ s, Stp s o w o' w') : Below w.heap.size w w' :=
  ⟨(h []).os, (h []).tape, (h []).output, (h []).size, fun b hb => (h (o b ++ [0])).block b hb (by intro hp; have := hp.length_le; simp at this; omega)⟩
structure RP where
  kind : Nat
  text : List UInt8
  n : Int
  list : List Rf
def RepB (w : World) (r : RP) (e : Ending) (w' : World) : Prop :=
  ∃ v, e = .returned (repV r.kind r.text r.n v) ∧ Vw (fun b => w.heap.size ≤ b) w' v 4 r.list.length (rfsC r.list) ∧ Below w.heap.size w w'
abbrev llenB : List UInt8 := [108, 108, 101, 110]
abbrev lrangeB : List UInt8 := [108, 114, 97, 110, 103, 101]
abbrev lindexB : List UInt8 := [108, 105, 110, 100, 101, 120]
def numR (n : Int) : RP := ⟨3, [], n, []⟩
def bulkR (s : List UInt8) : RP := ⟨4, s, 0, []⟩
def nullR : RP := ⟨5, [], 0, []⟩
def errR (s : List UInt8) : RP := ⟨2, s, 0, []⟩
def bulksR (l : List (List UInt8)) : RP := ⟨6, [], 0, l.map bulkF⟩
/-- A reply's four cells are laid into the result's block. -/
theorem below_four {w w5 : World} {v0 v1 v2 v3 : Value} (h : Below w.heap.size w w5) : Below w.heap.size w ((((w5.setCell ⟨w.heap.size, 0, none⟩ v0).setCell ⟨w.heap.size, 1, none⟩ v1).setCell ⟨w.heap.size, 2, none⟩ v2).setCell ⟨w.heap.size, 3, none⟩ v3) := by
  iterate 4 refine Below.setCell ?_ (by exact Nat.le_refl _) _
  exact h
theorem vw_four {w w5 w6 : World} {v0 v1 v2 v3 v : Value} {sz n : Nat} {xs : List Value} (h : Vw (fun b => w5.heap.size ≤ b) w6 v sz n xs) (hs : w.heap.size < w5.heap.size) :
    Vw (fun b => w.heap.size ≤ b) ((((w6.setCell ⟨w.heap.size, 0, none⟩ v0).setCell ⟨w.heap.size, 1, none⟩ v1).setCell ⟨w.heap.size, 2, none⟩ v2).setCell ⟨w.heap.size, 3, none⟩ v3) v sz n xs := by
  refine (h.stay (by simp) (fun b hb _ => ?_)).imp (fun b hb => by omega)
  repeat rw [heap_set_far (by show b ≠ w.heap.size; omega)]
/-! What a key of lists holds. -/
def KeyIs (S : SP) (k : List UInt8) (l : List (List UInt8)) : Prop := (l = [] ∧ S k = none) ∨ (l ≠ [] ∧ ∃ n, S k = some ⟨listV l, 0, n⟩)
theorem KeyIs.empty (k : List UInt8) : KeyIs (fun _ => none) k [] := .inl ⟨rfl, rfl⟩
section
variable {o : Roles} {w : World} {q : List Nat} {p : Nat} {c : Cnt} {S : SP} {k j : List UInt8} {l : List (List UInt8)}
theorem KeyIs.at (hj : SpJ o w q p S c) (h : KeyIs S k l) (now : Int) : ((S.at now k).getD hd0).v.list = l ∧ ((S.at now k).isSome && ((S.at now k).getD hd0).v.kind != 2) = false ∧ ((S.at now k).getD hd0).due = 0 ∧ (l ≠ [] → ∃ H, S.at now k = some H ∧ H.v.kind = 2 ∧ H.v.list = l) ∧ (S.at now k).isSome = !l.isEmpty := by
  rw [hj.at_eq]
  rcases h with ⟨rfl, h⟩ | ⟨h0, n, h⟩
  · rw [h]; exact ⟨rfl, rfl, rfl, fun h => absurd rfl h, rfl⟩
  · rw [h]; refine ⟨rfl, rfl, rfl, fun _ => ⟨_, rfl, rfl, rfl⟩, ?_⟩
    cases l with
    | nil => exact absurd rfl h0
    | cons x t => rfl
theorem KeyIs.setL (hj : SpJ o w q p S c) {l0 : List (List UInt8)} (h : KeyIs S k l0) (now : Int) (l : List (List UInt8)) (n : Nat) : KeyIs (S.setL now k l n) k l := by
  unfold SP.setL
  by_cases e : l = []
  · rw [if_pos e]; exact .inl ⟨e, if_pos rfl⟩
  · rw [if_neg e]
    refine .inr ⟨e, n, ?_⟩
    show (if k = k then _ else _) = _
    rw [if_pos rfl, (h.at hj now).2.2.1]
theorem KeyIs.setL_far (h : KeyIs S j l) (hjk : j ≠ k) (now : Int) (l0 : List (List UInt8)) (n : Nat) : KeyIs (S.setL now k l0 n) j l := by
  have e : (S.setL now k l0 n) j = S j := by
    unfold SP.setL
    split
    · exact if_neg hjk
    · exact if_neg hjk
  unfold KeyIs
  rw [e]
  exact h
theorem KeyIs.put (hj : SpJ o w q p S c) {l0 : List (List UInt8)} (h : KeyIs S k l0) (now : Int) (hl : l ≠ []) (n : Nat) : KeyIs (S.put k ⟨listV l, ((S.at now k).getD hd0).due, n⟩) k l := by
  have := h.setL hj now l n
  unfold SP.setL at this
  rwa [if_neg hl] at this
theorem KeyIs.put_far (h : KeyIs S j l) (hjk : j ≠ k) (H : Hd) : KeyIs (S.put k H) j l := by
  have e : (S.put k H) j = S j := if_neg hjk
  unfold KeyIs
  rw [e]
  exact h
end
/-- A reply, and the space behind it. -/
def RepL (o : Roles) (w : World) (q : List Nat) (p : Nat) (c : Cnt) (r : RP) (K : SP → Prop) (e : Ending) (w' : World) : Prop :=
  ∃ v, e = .returned (repV r.kind r.text r.n v) ∧ Vw (fun b => w.heap.size ≤ b) w' v 4 r.list.length (rfsC r.list) ∧ ∃ o' S' c', SpJ o' w' q p S' c' ∧ K S' ∧ c'.num ≤ c.num + 2 ∧ Stp q o w o' w'
section
variable {o : Roles} {w : World} {q : List Nat} {p : Nat} {c c' : Cnt} {S S' : SP}
theorem RepJ.repL {r : Rf} {K : SP → Prop} {e : Ending} {w' : World} (h : RepJ o w q p S' c' r e w') (hK : K S') (hc : c'.num ≤ c.num + 2) : RepL o w q p c ⟨r.kind, r.text, r.n, []⟩ K e w' := by
  obtain ⟨rfl, o', hj, hs⟩ := h
  exact ⟨_, rfl, Vw.nil _ _ _, o', S', c', hj, hK, hc, hs⟩
theorem RepB.repL {r : RP} {K : SP → Prop} {e : Ending} {w' : World} (h : RepB w r e w') (hj : SpJ o w q p S c) (hK : K S) : RepL o w q p c r K e w' := by
  obtain ⟨v, rfl, hv, hB⟩ := h
  exact ⟨v, rfl, hv, o, S, c, hj.below hB, hK, by omega, Stp.ofBelow q o hB⟩
end
/-- A reply of a request. -/
def RunDid (o : Roles) (w : World) (q : List Nat) (p : Nat) (c : Cnt) (r : RP) (K : SP → Prop) (e : Ending) (w' : World) : Prop :=
  ∃ v, e = .returned (.tuple #[repV r.kind r.text r.n v, .bool true]) ∧ Vw (fun b => w.heap.size ≤ b) w' v 4 r.list.length (rfsC r.list) ∧ ∃ o' S' c', SpJ o' w' q p S' c' ∧ K S' ∧ c'.num ≤ c.num + 2 ∧ Stp q o w o' w'
/-- What a command's function does, called over a request of its own. -/
def Serves (F : FuncId) (w : World) (q : List Nat) (p : Nat) (S : SP) (c : Cnt) (nm : List UInt8) (args : List (List UInt8)) (r : RP) (K : SP → Prop) : Prop :=
  ∀ (o1 : Roles) (w1 : World) (cb m : Nat) (sv : Value), SpJ o1 w1 q p S c → ¬ q <+: [m] → Below w.heap.size w w1 → Blk o1 w1 [m] cb (callC p 0 nm sv) 79 → Vw (Old w1) w1 sv 1 args.length (args.map txt) →
    Calls Tryz.prog F #[.pointer (some ⟨cb, 0, none⟩)] w1 (RepL o1 w1 q p c r K)
section
variable {o : Roles} {w : World} {q : List Nat} {p : Nat} {c : Cnt} {S : SP} {k l : List UInt8}
abbrev lpushB : List UInt8 := [108, 112, 117, 115, 104]
abbrev rpushB : List UInt8 := [114, 112, 117, 115, 104]
abbrev rpoplpushB : List UInt8 := [114, 112, 111, 112, 108, 112, 117, 115, 104]
def pushN (left : Bool) : List UInt8 := if left then lpushB else rpushB
theorem pushL_len (left : Bool) (a b : List (List UInt8)) : (pushL left a b).length = b.length + a.length := by unfold pushL; cases left <;> simp <;> omega
theorem serves_push (hq : q ≠ []) {A more : List (List UInt8)} (hk : KeyIs S k A) (left : Bool) (hm : more ≠ []) (hs : ∀ x ∈ pushL left A more, x.length ≤ 1048576) (hB : more.length + 2 * A.length ≤ 1099511627776) (hc : c.num ≤ 1099511627770) {K : SP → Prop}
    (hK : ∀ H, KeyIs (S.put k H) k (pushL left A more) → K (S.put k H)) :
    Serves 36 w q p S c (pushN left) (k :: more) ⟨3, [], (pushL left A more).length, []⟩ K := by
  intro o1 w1 cb m sv hj hm0 hB1 hcb hv
  obtain ⟨e1, e2, e3, e4, e5⟩ := hk.at hj 0
  have hne : pushL left A more ≠ [] := fun e => by
    have := pushL_len left A more
    rw [e] at this
    have := List.length_pos_iff.2 hm
    simp at *
    omega
  have h : ∀ c0 nr, pushN left = c0 :: nr → ((c0 :: nr) == [108, 112, 117, 115, 104, 120]) = false → ((c0 :: nr) == [114, 112, 117, 115, 104, 120]) = false → ((c0.toNat : Int) == 108) = left →
      Calls Tryz.prog 36 #[.pointer (some ⟨cb, 0, none⟩)] w1 (RepL o1 w1 q p c ⟨3, [], (pushL left A more).length, []⟩ K) := by
    intro c0 nr en h1 h2 h3
    rw [en] at hcb
    have := lcpush_ok hj hq hcb (k := k) (more := more) (by simpa using hv) hm rfl rfl e2 (.inr ⟨h1, h2⟩) (left := left) h3 (by rw [e1]; exact hs) (by rw [e1]; exact hB) (by omega)
    rw [e1] at this
    exact this.mono fun e w' h => RepJ.repL h (hK _ (hk.put hj 0 hne _)) (by show c.num + 1 ≤ _; omega)
  cases left with
  | true => exact h 108 [112, 117, 115, 104] rfl (by decide) (by decide) (by decide)
  | false => exact h 114 [112, 117, 115, 104] rfl (by decide) (by decide) (by decide)
/-- Two keys' elements behind a move. -/
theorem serves_move (hq : q ≠ []) (hkl : k ≠ l) {nm : List UInt8} {rest : List (List UInt8)} {f t : Bool} (hsd : Sides nm rest f t) {x : List UInt8} {tl E : List (List UInt8)} (hk : KeyIs S k (endL f x tl)) (hl : KeyIs S l E)
    (hs : ∀ y ∈ endL t x tl, y.length ≤ 1048576) (hs2 : ∀ y ∈ E, y.length ≤ 1048576) (hB : tl.length ≤ 274877906944) (hB2 : E.length ≤ 274877906944) (hc : c.num ≤ 1099511627770) {K : SP → Prop}
    (hK : ∀ S', KeyIs S' k tl → KeyIs S' l (endL t x E) → K S') :
    Serves 38 w q p S c nm (k :: l :: rest) ⟨4, x, 0, []⟩ K := by
  intro o1 w1 cb m sv hj hm0 hB1 hcb hv
  obtain ⟨e1, e2, e3, e4, e5⟩ := hk.at hj 0
  obtain ⟨f1, f2, f3, f4, f5⟩ := hl.at hj 0
  obtain ⟨H, h1, h2, h3⟩ := e4 (by unfold endL; cases f <;> simp)
  have := lcmove_ok hj hq hm0 hcb (k := k) (l := l) (rest := rest) (by simpa using hv) hsd h1 h2 h3 rfl rfl f2 hs (by rw [f1]; exact hs2) hB (by rw [f1]; exact hB2) (by omega)
  refine this.mono fun e w' h => RepJ.repL h ?_ ?_
  · unfold SP.moveL
    rw [if_neg hkl, f1]
    exact hK _ ((hk.setL hj 0 tl _).setL_far hkl _ _ _) (by
      have hl2 := hl.setL_far (Ne.symm hkl) 0 tl (c.num + 1)
      unfold SP.setL
      have hne : endL t x E ≠ [] := by unfold endL; cases t <;> simp
      rw [if_neg hne]
      refine .inr ⟨hne, c.num + 1 + 1, ?_⟩
      show (if l = l then _ else _) = _
      rw [if_pos rfl]
      have hdu : (((if tl = [] then S.del k else S.put k ⟨listV tl, ((S.at 0 k).getD hd0).due, c.num + 1⟩ : SP).at 0 l).getD hd0).due = 0 := by
        have e : ((if tl = [] then S.del k else S.put k ⟨listV tl, ((S.at 0 k).getD hd0).due, c.num + 1⟩ : SP).at 0 l) = S.at 0 l := by
          unfold SP.at
          split
          · show ((if l = k then none else S l).filter _) = _; rw [if_neg (Ne.symm hkl)]
          · show ((if l = k then _ else S l).filter _) = _; rw [if_neg (Ne.symm hkl)]
        rw [e]; exact f3
      rw [hdu])
  · unfold Cnt.moveL
    rw [if_neg hkl]
    show c.num + 1 + 1 ≤ _
    omega
theorem serves_turn (hq : q ≠ []) {nm : List UInt8} {rest : List (List UInt8)} {f t : Bool} (hsd : Sides nm rest f t) {x : List UInt8} {tl : List (List UInt8)} (hk : KeyIs S k (endL f x tl))
    (hs : ∀ y ∈ endL t x tl, y.length ≤ 1048576) (hB : tl.length ≤ 274877906943) (hc : c.num ≤ 1099511627770) {K : SP → Prop}
    (hK : ∀ S', KeyIs S' k (endL t x tl) → K S') :
    Serves 38 w q p S c nm (k :: k :: rest) ⟨4, x, 0, []⟩ K := by
  intro o1 w1 cb m sv hj hm0 hB1 hcb hv
  obtain ⟨e1, e2, e3, e4, e5⟩ := hk.at hj 0
  obtain ⟨H, h1, h2, h3⟩ := e4 (by unfold endL; cases f <;> simp)
  have hmem : ∀ y ∈ endL f x tl, y.length ≤ 1048576 := fun y hy => hs y (by unfold endL at *; cases f <;> cases t <;> simp at hy ⊢ <;> rcases hy with hy | hy <;> simp [hy])
  have := lcmove_ok hj hq hm0 hcb (k := k) (l := k) (rest := rest) (by simpa using hv) hsd h1 h2 h3 rfl rfl e2 hs (by rw [e1]; exact hmem) (by omega) (by rw [e1, endL_len]; omega) (by omega)
  refine this.mono fun e w' h => RepJ.repL h ?_ ?_
  · unfold SP.moveL
    rw [if_pos rfl]
    exact hK _ (hk.setL hj 0 _ _)
  · unfold Cnt.moveL
    rw [if_pos rfl]
    show c.num + 1 ≤ _
    omega
end
end Go.Proofs.YtgmmeeikjofefaaGreatDoor
