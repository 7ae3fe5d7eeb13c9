import Derived.Test.YtoganolkgmilaaaGreatDoorSw
import Derived.Test.YtoganolkgmilaaaGreatDoorKf
namespace Go.Proofs.YtoganolkgmilaaaGreatDoor
open Go Go.RowKit
/-! Run: SSCAN. -/
def RunN (w : World) (next : Tx) (told : List Tx) (e : Ending) (w' : World) : Prop :=
  ∃ v a c, e = .returned (.tuple #[repV 6 [] 0 v, .bool true]) ∧ Vw (fun b => w.heap.size ≤ b) w' v 4 2 (scanC next a told.length c) ∧ Vw (fun b => w.heap.size ≤ b) w' (.slice a told.length c) 4 told.length (rfsC (told.map bulkF)) ∧ Below w.heap.size w w'
def ServesN (w : World) (q : List Nat) (p : Nat) (S : SP) (c : Cnt) (args : List (List UInt8)) (next : Tx) (told : List Tx) : Prop :=
  ∀ (o1 : Roles) (w1 : World) (cb m : Nat) (sv : Value), SpJ o1 w1 q p S c → ¬ q <+: [m] → Below w.heap.size w w1 → Blk o1 w1 [m] cb (callC p 0 sscanB sv) 93 → Vw (Old w1) w1 sv 1 args.length (args.map txt) →
    Calls Tryz.prog 52 #[.pointer (some ⟨cb, 0, none⟩)] w1 (ScanDid w1 next told)
section
variable {o : Roles} {w : World} {q : List Nat} {p : Nat} {c : Cnt} {S : SP}
set_option maxRecDepth 10000 in
set_option maxHeartbeats 20000000 in
theorem lRun_scan (h : SpJ o w q p S c) (hq : q ≠ []) {nm low : List UInt8} {args : List (List UInt8)} {sv : Value} (hv : Vw (Old w) w sv 1 (args.length + 1) ((nm :: args).map txt)) (hlow : lowL nm = low) (hn : nm.length ≤ 1099511627776) (hl : args.length + 1 ≤ 1099511627776) (hne : 0 < args.length)
    (hft : Fits low (args.length + 1)) (hg : low = sscanB) {next : Tx} {told : List Tx} (hs : ServesN w q p S c args next told) :
    Calls Tryz.prog 26 #[.pointer (some ⟨p, 0, none⟩), .int .i64 0, sv] w (RunN w next told) := by
  obtain ⟨o1, m, hbg, hj⟩ := begin_roles h hq
  obtain ⟨s, hsp, hsa, hsb⟩ := hft
  obtain ⟨b, off, cap, a', c', rfl, hk, hbl, hvt, hsl⟩ := vw_rest hv
  replace hbl : b < w.heap.size := hbl
  have HCK := Lib.hid (check_ok (hv.below hbg.res.2) hn (by rw [hlow]; exact hsp) hsa hl hsb)
  have HLO := Lib.hid (fun W => lower_ok nm W hn)
  have HV := Lib.hid hvt
  have HBG := Lib.hid hbg
  have HJ := Lib.hid hj
  have HS := Lib.hid hs
  have HB1 := Lib.hid hbg.res.2
  have HR1 := Lib.hid hbg.res.1
  have HG := Lib.hid hg
  rw [hlow] at HLO
  clear h hbg hj hs hv hvt hsp hsa hsb hg hlow
  unfold txt at HLO
  have hn2 : 1 < args.length + 1 := by omega
  have hn3 : ((args.length + 1 : Nat) : Int) = ((args.length + 1 : Nat) : Int) := rfl
  generalize args.length + 1 = N at *
  clear hn3
  have hn1 : 0 < N := by omega
  go_enter Tryz.func26, Tryz.ntmps26
  go_wp2_with fail
  refine HCK.out.mono ?_; rintro e w2 ⟨rfl, hB2⟩
  have HB2 := Lib.hid hB2
  have hB02 := HB1.out.trans (hB2.mono HB1.out.size)
  have hk2 : w2.cell? ⟨b, off, none⟩ = some (.string ⟨nm.toArray⟩) := by rw [(bcell hB02).1 _ _ hbl]; exact hk
  clear hB2 hk hB02 HCK
  go_upto_region 3 with fail
  go_cut [8] from 8 to 32 (fun s8 wx => RunR o1 w m p low (.slice a' args.length c') s8 wx)
  case first =>
    go_region_with (
      go_at_call 42
      (with_reducible refine (HLO.out _).mono ?_)
      rintro e w3 ⟨rfl, hB3⟩
      have hB03 := HB2.out.trans (((Below.refl _ w2).drew.trans hB3).mono HB2.out.size)
      have HB3 := Lib.hid hB03
      clear hB3 hB03)
    all_goals (
      have D : RunR o1 w m p low (.slice a' args.length c') (.pointer (some ⟨w3.heap.size, 0, none⟩)) (w3.alloc (.cells (callC p 0 low (.slice a' args.length c')) 93)) :=
        ⟨_, rfl, HB3.out.alloc HB3.out.size _, heap_alloc_new _ _, HBG.out.new _ (by have := HB3.out.size; rw [World.size_alloc] at this; omega)⟩
      have HD := Lib.hid D
      clear D HB3 HLO HV HBG HJ HS HB1 HB2 HR1 HG hsl hk2
      rw [show (max (0 : Int) (min 0 9007199254740992)) = 0 from by decide]
      go_wp2_with fail
      go_meet
      exact HD.out)
  case rest =>
    obtain ⟨g, rfl, hB4, hcb⟩ := hcut
    have hB4 := hB4
    have hr4 := HR1.out.below hB4
    have hB4 := HB1.out.trans (hB4.mono HB1.out.size)
    have hv4 := (HV.out.below hB4).imp (B := Old wc) (fun b hb => Nat.lt_of_lt_of_le hb hB4.size)
    have HC := Lib.hid (HS.out o1 _ g (m + 2) _ (HJ.out.below hB4) (HBG.out.aq 2).not hB4 (HG.out ▸ hcb) hv4)
    have hcc := hcb.cell
    have HB4 := Lib.hid hB4
    have HR4 := Lib.hid hr4
    clear hv4 hB4 hr4 hcb hsl hk2 HLO HV HS HB2 HR1
    unfold ScanDid at HC
    obtain rfl := HG.out
    clear HG
    go_wp2_with fail
    refine HC.out.mono ?_
    rintro e w5 ⟨v, a9, c9, rfl, hv5, hu5, hB5⟩
    obtain ⟨a5, cap5, rfl, _⟩ := id hv5.slice
    have hr5 := HR4.out.below hB5
    have hrc := hr5.cell
    have hrf := hr5.free
    have HV5 := Lib.hid hv5
    have HU5 := Lib.hid hu5
    have hsz : w.heap.size < wc.heap.size := HR4.out.lt
    have HSZ := Lib.hid hsz
    have HB5 := Lib.hid (HB4.out.trans (hB5.mono HB4.out.size))
    clear hv5 hu5 hr5 hB5 hsz HC HR4 HB4 hcc
    go_wp2_with fail
    exact bodyPost_ret (v := .tuple #[repV 6 [] 0 (.slice a5 2 cap5), .bool true]) (by simp [results, Tryz.results26, go_sem, hrc]) rfl ⟨_, a9, c9, rfl, vw_four HV5.out HSZ.out, vw_four HU5.out HSZ.out, below_four HB5.out⟩
set_option maxRecDepth 10000 in
set_option maxHeartbeats 4000000 in
theorem lawrun_scan (h : SpJ o w q p S c) (hq : q ≠ []) {A : Nat → Prop} {n0 : Nat} {xs : List Value} {sv : Value} (hv : Vw A w sv 1 n0 xs) {next : Tx} {told : List Tx}
    (hs : ∀ (o1 : Roles) (w1 : World), SpJ o1 w1 q p S c → Below w.heap.size w w1 → Calls Tryz.prog 26 #[.pointer (some ⟨p, 0, none⟩), .int .i64 0, sv] w1 (RunN w1 next told)) :
    Calls Tryz.prog 12 #[.pointer (some ⟨p, 0, none⟩), sv] w (ScanDid w next told) := by
  obtain ⟨o1, m, hbg, hj⟩ := begin_roles h hq
  obtain ⟨a0, cap, rfl, _⟩ := id hv.slice
  have HRN := Lib.hid (hs o1 _ (hj.below hbg.res.2) hbg.res.2)
  have HR1 := Lib.hid hbg.res.1
  have HB1 := Lib.hid hbg.res.2
  clear h hbg hj hs hv
  unfold RunN at HRN
  go_enter Tryz.func12, Tryz.ntmps12
  go_wp2_with fail
  refine HRN.out.mono ?_; rintro e w2 ⟨v, a9, c9, rfl, hv, hu, hB2⟩
  obtain ⟨a2, cap2, rfl, _⟩ := id hv.slice
  have hB3 : Below w2.heap.size w2 (w2.alloc (.cells #[.int .i64 6, .string ⟨#[]⟩, .int .i64 0, .slice a2 2 cap2] 29)) := (Below.refl _ _).alloc (Nat.le_refl _) _
  have hr2 := (HR1.out.below hB2).below hB3
  have hrc := hr2.cell
  have hrf := hr2.free
  have HV3 := Lib.hid (hv.below hB3)
  have HU3 := Lib.hid (hu.below hB3)
  have HB3 := Lib.hid (HB1.out.trans ((hB2.trans (hB3.mono hB2.size)).mono HB1.out.size))
  clear hv hu hB2 hB3 hr2 HRN
  go_wp2_with fail
  exact bodyPost_ret (v := repV 6 [] 0 (.slice a2 2 cap2)) (by simp [results, Tryz.results12, go_sem, hrc]) rfl ⟨_, a9, c9, rfl, vw_four HV3.out (by simp), vw_four HU3.out (by simp), below_four HB3.out⟩
theorem runF_scan {w0 : World} {n : Nat} {f : Tx → List Tx} {k nm y : Tx} {cu : Option Tx} {sv : Value} (h : At w0 o w p S c n) (hT : Tbl w) (hf : Sets f S) (hv : Vw (Old w) w sv 1 5 ([nm, k, curT cu, COUNTB, y].map txt)) (hlow : lowL nm = sscanB) (hnm : nm.length ≤ 1099511627776)
    {m : Int} (hy : parseN y = some m) (hyl : y.length ≤ 1099511627776) (hm : 1 ≤ m) (hl : (f k).length ≤ 1099511627776) (hsm : ∀ x ∈ f k, x.length ≤ 1048576) {R : List Tx} (hR : restL (f k) cu = R) {j : Nat} (hj : (j : Int) = min m (R.length : Int)) :
    Calls Tryz.prog 12 #[.pointer (some ⟨p, 0, none⟩), sv] w (ScanDid w (curT (nextC R j)) (R.take j)) := by
  have hs : ∀ W, Below w.heap.size w W → ServesN W [1] p S c [k, curT cu, COUNTB, y] (curT (nextC R j)) (R.take j) := by
    intro W hW o1 w1 cb m1 sv1 hj1 hm0 hB1 hcb hv1
    have hB : Below w.heap.size w w1 := hW.trans (hB1.mono hW.size)
    obtain ⟨e1, e2, _⟩ := (hf k).1.at 0
    exact sscan_ok hj1 (by decide) (hT.below hB) hcb (k := k) (cu := cu) (nm := COUNTB) (y := y) (by simpa using hv1) rfl rfl e2 (by rw [e1]; exact (hf k).2) (by rw [e1]; exact hl) (by decide +kernel) (by decide) hy hyl hm (by rw [e1]; exact hR) hj (by rw [e1]; exact hsm)
  exact lawrun_scan h.sp (by decide) hv fun o1 w1 hj1 hB => lRun_scan hj1 (by decide) (args := [k, curT cu, COUNTB, y]) ((hv.below hB).imp fun _ hb => Nat.lt_of_lt_of_le hb hB.size) hlow hnm (by simp) (by simp) (fits_sscan (by simp)) rfl (hs w1 hB)
end
end Go.Proofs.YtoganolkgmilaaaGreatDoor
