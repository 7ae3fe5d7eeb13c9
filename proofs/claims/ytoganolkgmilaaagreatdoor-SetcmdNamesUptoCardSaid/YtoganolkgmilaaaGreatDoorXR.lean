import Derived.Test.YtoganolkgmilaaaGreatDoorXQ
namespace Go.Proofs.YtoganolkgmilaaaGreatDoor
open Go Go.RowKit
/-! Run: the commands that join. -/
/-- The commands that join, and those that lay what comes of it. -/
def UName (nm : Tx) (way : Nat) : Prop := (way = 0 ∧ nm = sinterB) ∨ (way = 1 ∧ nm = sunionB) ∨ (way = 2 ∧ nm = sdiffB)
def SName (nm : Tx) (way : Nat) : Prop := (way = 0 ∧ nm = sinterstoreB) ∨ (way = 1 ∧ nm = sunionstoreB) ∨ (way = 2 ∧ nm = sdiffstoreB)
theorem UName.name {nm : Tx} {way : Nat} (h : UName nm way) : JName nm way := by
  rcases h with ⟨h1, h2⟩ | ⟨h1, h2⟩ | ⟨h1, h2⟩
  · exact .inl ⟨h1, .inl h2⟩
  · exact .inr (.inl ⟨h1, .inl h2⟩)
  · exact .inr (.inr ⟨h1, .inl h2⟩)
theorem SName.name {nm : Tx} {way : Nat} (h : SName nm way) : JName nm way := by
  rcases h with ⟨h1, h2⟩ | ⟨h1, h2⟩ | ⟨h1, h2⟩
  · exact .inl ⟨h1, .inr h2⟩
  · exact .inr (.inl ⟨h1, .inr h2⟩)
  · exact .inr (.inr ⟨h1, .inr h2⟩)
theorem joinL_len (way : Nat) (l0 : List Tx) (R : List (List Tx)) : (joinL way l0 R).length ≤ (l0 :: R).flatten.length := by
  have h0 : l0.length ≤ (l0 :: R).flatten.length := by simp
  unfold joinL
  split
  · exact Nat.le_trans (ofL_len _) (Nat.le_trans (interP_len _ _) h0)
  · split
    · exact ofL_len _
    · exact Nat.le_trans (ofL_len _) (Nat.le_trans (diffP_len _ _) h0)
theorem joinL_asc (way : Nat) (l0 : List Tx) (R : List (List Tx)) : Asc (joinL way l0 R) := by
  unfold joinL
  split
  · exact ofL_asc _
  · split <;> exact ofL_asc _
section
variable {o : Roles} {w : World} {q : List Nat} {p : Nat} {c : Cnt} {S : SP}
set_option maxRecDepth 10000 in
set_option maxHeartbeats 20000000 in
theorem lRun_join (h : SpJ o w q p S c) (hq : q ≠ []) {nm low : List UInt8} {args : List (List UInt8)} {sv : Value} (hv : Vw (Old w) w sv 1 (args.length + 1) ((nm :: args).map txt)) (hlow : lowL nm = low) (hn : nm.length ≤ 1099511627776) (hl : args.length + 1 ≤ 1099511627776) (hne : 0 < args.length)
    (hft : Fits low (args.length + 1)) {way : Nat} (hg : UName low way) {l0 : List Tx} {R : List (List Tx)} (hLs : args.map (fun k => ((S.at 0 k).getD hd0).v.list) = l0 :: R) (hwr : ∀ k ∈ args, ((S.at 0 k).isSome && ((S.at 0 k).getD hd0).v.kind != 4) = false) (hfl : (l0 :: R).flatten.length ≤ 274877906944) (hkl : args.length ≤ 274877906944) :
    Calls Tryz.prog 26 #[.pointer (some ⟨p, 0, none⟩), .int .i64 0, sv] w (RunDid o w q p (bulksR (joinL way l0 R)) (fun S' c' => S' = S ∧ c' = c)) := by
  obtain ⟨o1, m, hbg, hj⟩ := begin_roles h hq
  obtain ⟨L, hL⟩ : ∃ L, L = joinL way l0 R := ⟨_, rfl⟩
  rw [← hL]
  have HLE := Lib.hid hL
  clear hL
  obtain ⟨s, hsp, hsa, hsb⟩ := hft
  obtain ⟨b, off, cap, a', c', rfl, hk, hbl, hvt, hsl⟩ := vw_rest hv
  replace hbl : b < w.heap.size := hbl
  have HCK := Lib.hid (check_ok (hv.below hbg.res.2) hn (by rw [hlow]; exact hsp) hsa hl hsb)
  have HLO := Lib.hid (fun W => lower_ok nm W hn)
  have HV := Lib.hid hvt
  have HBG := Lib.hid hbg
  have HJ := Lib.hid hj
  have HLS := Lib.hid hLs
  have HWR := Lib.hid hwr
  have HB1 := Lib.hid hbg.res.2
  have HR1 := Lib.hid hbg.res.1
  have HG := Lib.hid hg
  rw [hlow] at HLO
  clear h hbg hj hLs hwr hv hvt hsp hsa hsb hg hlow
  unfold txt at HLO
  have hn2 : 1 < args.length + 1 := by omega
  have hn3 : ((args.length + 1 : Nat) : Int) = ((args.length + 1 : Nat) : Int) := rfl
  generalize args.length + 1 = N at *
  clear hn3
  have hn1 : 0 < N := by omega
  go_enter Tryz.func26, Tryz.ntmps26
  go_wp2_with fail
  refine HCK.out.mono ?_; rintro e w2 ⟨rfl, hB2⟩
  have HB2 := Lib.hid hB2
  have hB02 := HB1.out.trans (hB2.mono HB1.out.size)
  have hk2 : w2.cell? ⟨b, off, none⟩ = some (.string ⟨nm.toArray⟩) := by rw [(bcell hB02).1 _ _ hbl]; exact hk
  clear hB2 hk hB02 HCK
  go_upto_region 3 with fail
  go_cut [8] from 8 to 32 (fun s8 wx => RunR o1 w m p low (.slice a' args.length c') s8 wx)
  case first =>
    go_region_with (
      go_at_call 42
      (with_reducible refine (HLO.out _).mono ?_)
      rintro e w3 ⟨rfl, hB3⟩
      have hB03 := HB2.out.trans (((Below.refl _ w2).drew.trans hB3).mono HB2.out.size)
      have HB3 := Lib.hid hB03
      clear hB3 hB03)
    all_goals (
      have D : RunR o1 w m p low (.slice a' args.length c') (.pointer (some ⟨w3.heap.size, 0, none⟩)) (w3.alloc (.cells (callC p 0 low (.slice a' args.length c')) 93)) :=
        ⟨_, rfl, HB3.out.alloc HB3.out.size _, heap_alloc_new _ _, HBG.out.new _ (by have := HB3.out.size; rw [World.size_alloc] at this; omega)⟩
      have HD := Lib.hid D
      clear D HB3 HLO HV HBG HJ HLS HWR HB1 HB2 HR1 HG hsl hk2
      rw [show (max (0 : Int) (min 0 9007199254740992)) = 0 from by decide]
      go_wp2_with fail
      go_meet
      exact HD.out)
  case rest =>
    obtain ⟨g, rfl, hB4, hcb⟩ := hcut
    have hB4 := hB4
    have hr4 := HR1.out.below hB4
    have hB4 := HB1.out.trans (hB4.mono HB1.out.size)
    have hv4 := (HV.out.below hB4).imp (B := Old wc) (fun b hb => Nat.lt_of_lt_of_le hb hB4.size)
    have hj4 := HJ.out.below hB4
    have HCJ := Lib.hid (join_ok hj4 hcb (ks := args) hv4 (way := way) HG.out.name HLS.out HWR.out hfl hkl)
    have hcc := hcb.cell
    have HB4 := Lib.hid hB4
    have HR4 := Lib.hid hr4
    have HJ4 := Lib.hid hj4
    have HSZ := Lib.hid (show w.heap.size < wc.heap.size from HR4.out.lt)
    clear hv4 hB4 hr4 hcb hsl hk2 HLO HV HLS HWR HB2 HR1 hj4
    have HJL := Lib.hid (show (joinL way l0 R).length ≤ 1099511627776 from Nat.le_trans (joinL_len way l0 R) (by omega))
    rw [← HLE.out] at HCJ HJL
    rcases HG.out with ⟨rfl, rfl⟩ | ⟨rfl, rfl⟩ | ⟨rfl, rfl⟩ <;> (
      clear HG
      go_wp2_with fail
      refine HCJ.out.mono ?_
      rintro e w5 ⟨a5, c5, rfl, hv5, hB5⟩
      have HBU := Lib.hid (lbulks_ok hv5 HJL.out)
      have HR5 := Lib.hid (HR4.out.below hB5)
      have HJ5 := Lib.hid (HJ4.out.below hB5)
      have HB5 := Lib.hid (HB4.out.trans (hB5.mono HB4.out.size))
      clear hv5 hB5 HCJ HR4 HJ4 HB4 hcc
      go_wp2_with fail
      refine HBU.out.mono ?_; rintro e w6 ⟨v6, rfl, hF6⟩
      obtain ⟨a6, c6, rfl, _⟩ := id hF6.vw.slice
      have hr6 := HR5.out.below hF6.below
      have hrc := hr6.cell
      have hrf := hr6.free
      have HR6 := Lib.hid hr6
      have HJ6 := Lib.hid (HJ5.out.below hF6.below)
      have HS6 := Lib.hid ((HBG.out.st q).trans (Stp.ofBelow q o1 (HB5.out.trans (hF6.below.mono HB5.out.size))))
      have HF6 := Lib.hid hF6
      have HZ5 := Lib.hid (show w.heap.size < w5.heap.size from HR5.out.lt)
      clear hF6 hr6 HBU HR5 HJ5 HB5
      go_wp2_with fail
      obtain ⟨hj7, hs7⟩ := HBG.out.stored HJ6.out HR6.out HS6.out (.int .i64 6) (.string ⟨#[]⟩) (.int .i64 0) (.slice a6 L.length c6)
      have hv7 := vw_four (v0 := .int .i64 6) (v1 := .string ⟨#[]⟩) (v2 := .int .i64 0) (v3 := .slice a6 L.length c6) HF6.out.vw HZ5.out
      have hv8 : Vw (fun b => w.heap.size ≤ b) ((((w6.setCell ⟨w.heap.size, 0, none⟩ (.int .i64 6)).setCell ⟨w.heap.size, 1, none⟩ (.string ⟨#[]⟩)).setCell ⟨w.heap.size, 2, none⟩ (.int .i64 0)).setCell ⟨w.heap.size, 3, none⟩ (.slice a6 L.length c6)) (.slice a6 L.length c6) 4 (bulksR L).list.length (rfsC (bulksR L).list) := by
        have e : (bulksR L).list.length = L.length := by simp [bulksR]
        rw [e]; exact hv7
      refine bodyPost_ret (v := .tuple #[repV 6 [] 0 (.slice a6 L.length c6), .bool true]) (by simp [results, Tryz.results26, go_sem, hrc]) rfl ⟨_, rfl, hv8, o1, S, c, hj7, ⟨rfl, rfl⟩, hs7⟩)
set_option maxRecDepth 10000 in
set_option maxHeartbeats 20000000 in
theorem lRun_store (h : SpJ o w q p S c) (hq : q ≠ []) {nm low : List UInt8} {args : List (List UInt8)} {sv : Value} (hv : Vw (Old w) w sv 1 (args.length + 1) ((nm :: args).map txt)) (hlow : lowL nm = low) (hn : nm.length ≤ 1099511627776) (hl : args.length + 1 ≤ 1099511627776) (hne : 0 < args.length)
    (hft : Fits low (args.length + 1)) {way : Nat} (hg : SName low way) {d : Tx} {ks : List Tx} (hks : args = d :: ks) {l0 : List Tx} {R : List (List Tx)} (hLs : ks.map (fun k => ((S.at 0 k).getD hd0).v.list) = l0 :: R) (hwr : ∀ k ∈ ks, ((S.at 0 k).isSome && ((S.at 0 k).getD hd0).v.kind != 4) = false) (hfl : (l0 :: R).flatten.length ≤ 274877906944) (hkl : ks.length ≤ 274877906944)
    (hsm : ∀ x ∈ joinL way l0 R, x.length ≤ 1048576) (hc : c.num ≤ 4611686018427387000) (hf : c.few ≤ 1099511627000) :
    Calls Tryz.prog 26 #[.pointer (some ⟨p, 0, none⟩), .int .i64 0, sv] w (RunDid o w q p (numR (joinL way l0 R).length) (fun S' c' => S' = S.layS 0 d (joinL way l0 R) 0 (c.num + 1) ∧ c' = c.layS (S.at 0 d).isSome (joinL way l0 R))) := by
  obtain ⟨o1, m, hbg, hj⟩ := begin_roles h hq
  obtain ⟨L, hL⟩ : ∃ L, L = joinL way l0 R := ⟨_, rfl⟩
  rw [← hL]
  have HLE := Lib.hid hL
  rw [← hL] at hsm
  have HSM := Lib.hid hsm
  have HKS := Lib.hid hks
  obtain ⟨S1, hS1⟩ : ∃ S1, S1 = S.layS 0 d L 0 (c.num + 1) := ⟨_, rfl⟩
  obtain ⟨c1, hc1⟩ : ∃ c1, c1 = c.layS (S.at 0 d).isSome L := ⟨_, rfl⟩
  rw [← hS1, ← hc1]
  have HSC := Lib.hid (And.intro hS1 hc1)
  clear hsm hks hS1 hc1
  clear hL
  obtain ⟨s, hsp, hsa, hsb⟩ := hft
  obtain ⟨b, off, cap, a', c', rfl, hk, hbl, hvt, hsl⟩ := vw_rest hv
  replace hbl : b < w.heap.size := hbl
  have HCK := Lib.hid (check_ok (hv.below hbg.res.2) hn (by rw [hlow]; exact hsp) hsa hl hsb)
  have HLO := Lib.hid (fun W => lower_ok nm W hn)
  have HV := Lib.hid hvt
  have HBG := Lib.hid hbg
  have HJ := Lib.hid hj
  have HLS := Lib.hid hLs
  have HWR := Lib.hid hwr
  have HPP := Lib.hid h.role.2
  have HB1 := Lib.hid hbg.res.2
  have HR1 := Lib.hid hbg.res.1
  have HG := Lib.hid hg
  rw [hlow] at HLO
  clear h hbg hj hLs hwr hv hvt hsp hsa hsb hg hlow
  unfold txt at HLO
  have hn2 : 1 < args.length + 1 := by omega
  have hn3 : ((args.length + 1 : Nat) : Int) = ((args.length + 1 : Nat) : Int) := rfl
  generalize args.length + 1 = N at *
  clear hn3
  have hn1 : 0 < N := by omega
  go_enter Tryz.func26, Tryz.ntmps26
  go_wp2_with fail
  refine HCK.out.mono ?_; rintro e w2 ⟨rfl, hB2⟩
  have HB2 := Lib.hid hB2
  have hB02 := HB1.out.trans (hB2.mono HB1.out.size)
  have hk2 : w2.cell? ⟨b, off, none⟩ = some (.string ⟨nm.toArray⟩) := by rw [(bcell hB02).1 _ _ hbl]; exact hk
  clear hB2 hk hB02 HCK
  go_upto_region 3 with fail
  go_cut [8] from 8 to 32 (fun s8 wx => RunR o1 w m p low (.slice a' args.length c') s8 wx)
  case first =>
    go_region_with (
      go_at_call 42
      (with_reducible refine (HLO.out _).mono ?_)
      rintro e w3 ⟨rfl, hB3⟩
      have hB03 := HB2.out.trans (((Below.refl _ w2).drew.trans hB3).mono HB2.out.size)
      have HB3 := Lib.hid hB03
      clear hB3 hB03)
    all_goals (
      have D : RunR o1 w m p low (.slice a' args.length c') (.pointer (some ⟨w3.heap.size, 0, none⟩)) (w3.alloc (.cells (callC p 0 low (.slice a' args.length c')) 93)) :=
        ⟨_, rfl, HB3.out.alloc HB3.out.size _, heap_alloc_new _ _, HBG.out.new _ (by have := HB3.out.size; rw [World.size_alloc] at this; omega)⟩
      have HD := Lib.hid D
      clear D HB3 HLO HV HBG HJ HLS HWR HB1 HB2 HR1 HG hsl hk2
      rw [show (max (0 : Int) (min 0 9007199254740992)) = 0 from by decide]
      go_wp2_with fail
      go_meet
      exact HD.out)
  case rest =>
    obtain ⟨g, rfl, hB4, hcb⟩ := hcut
    have hB4 := hB4
    have hr4 := HR1.out.below hB4
    have hB4 := HB1.out.trans (hB4.mono HB1.out.size)
    have hv4 := (HV.out.below hB4).imp (B := Old wc) (fun b hb => Nat.lt_of_lt_of_le hb hB4.size)
    obtain rfl := HKS.out
    have hj4 := HJ.out.below hB4
    obtain ⟨b9, off9, cap9, a9, c9, e9, hk9, hb9, hvt9, hcut9⟩ := vw_rest (xs := ks) (x := d) hv4
    injection e9 with e91 _ e93
    subst e91 e93
    have hcap9 : (d :: ks).length ≤ c' := by
      obtain ⟨_, _, e, hc, _⟩ := hv4.slice
      injection e with _ _ e
      omega
    have HCJ := Lib.hid (join_ok hj4 hcb (ks := ks) hvt9 (way := way) HG.out.name HLS.out HWR.out hfl hkl)
    have HCB := Lib.hid hcb
    have hcc := hcb.cell
    have HB4 := Lib.hid hB4
    have HR4 := Lib.hid hr4
    have HJ4 := Lib.hid hj4
    have HJL := Lib.hid (show (joinL way l0 R).length ≤ 274877906944 from Nat.le_trans (joinL_len way l0 R) (by omega))
    have HJA := Lib.hid (show Asc L by rw [HLE.out]; exact joinL_asc way l0 R)
    have HPW := Lib.hid (show p < w.heap.size from HPP.out)
    simp only [List.length_cons] at hcut9 hcc hcap9
    clear hv4 hB4 hr4 hcb hsl hk2 HLO HV HLS HWR HB2 HR1 hj4 hvt9
    rw [← HLE.out] at HCJ HJL
    rcases HG.out with ⟨rfl, rfl⟩ | ⟨rfl, rfl⟩ | ⟨rfl, rfl⟩ <;> (
      clear HG
      go_wp2_with fail
      refine HCJ.out.mono ?_
      rintro e w5 ⟨a5, c5, rfl, hv5, hB5⟩
      have hcb5 := HCB.out.below hB5
      have hcc5 := hcb5.cell
      have hk5 := cell_below hB5 hk9
      have hly := clay_any (HJ4.out.below hB5) hcb5 d hv5 (fun bb hb => by have := HPW.out; have := HB4.out.size; omega) HJA.out HSM.out (by have := HJL.out; omega) (by omega) (by omega) 0 (by decide)
      rw [← HSC.out.1, ← HSC.out.2] at hly
      have HLY := Lib.hid hly
      have HR5 := Lib.hid (HR4.out.below hB5)
      have HB5 := Lib.hid (HB4.out.trans (hB5.mono HB4.out.size))
      clear hv5 hB5 hcb5 hly HCJ HR4 HJ4 HB4 hcc hk9
      unfold txt at HLY
      go_wp2_with fail
      refine HLY.out.mono ?_; rintro e w6 ⟨rfl, o6, hj6, hs6⟩
      have HR6 := Lib.hid (HR5.out.keep hs6 (HBG.out.aq 2).not)
      have HJ6 := Lib.hid hj6
      have HS6 := Lib.hid ((HBG.out.st q).trans ((Stp.ofBelow q o1 HB5.out).trans hs6))
      clear hj6 hs6 HLY HR5 HB5 hcc5 hk5
      go_wp2_with fail
      refine (lnumber_ok _ _).mono ?_; rintro e w7 ⟨rfl, hB7⟩
      have hr7 := HR6.out.below hB7
      have hrc := hr7.cell
      have hrf := hr7.free
      have HR7 := Lib.hid hr7
      have HJ7 := Lib.hid (HJ6.out.below hB7)
      have HS7 := Lib.hid (HS6.out.trans (Stp.ofBelow q o6 hB7))
      clear hr7 hB7 HR6 HJ6 HS6
      go_wp2_with fail
      obtain ⟨hj8, hs8⟩ := HBG.out.stored HJ7.out HR7.out HS7.out (.int .i64 3) (.string ⟨#[]⟩) (.int .i64 L.length) (.slice none 0 0)
      exact bodyPost_ret (v := .tuple #[repV 3 [] L.length (.slice none 0 0), .bool true]) (by simp [results, Tryz.results26, go_sem, hrc]) rfl ⟨_, rfl, Vw.nil _ _ _, o6, _, _, hj8, ⟨rfl, rfl⟩, hs8⟩)
end
end Go.Proofs.YtoganolkgmilaaaGreatDoor
