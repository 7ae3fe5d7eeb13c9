import Derived.Test.YtgmmeeikjofefaaGreatDoorRl
namespace Go.Proofs.YtgmmeeikjofefaaGreatDoor
open Go Go.RowKit
/-! push. -/
/-- A view of blocks that were there. -/
abbrev Old (w : World) : Nat → Prop := fun b => b < w.heap.size
theorem vw_tail3 {A : Nat → Prop} {w : World} {b off n cap : Nat} {k : List UInt8} {t : List (List UInt8)} (h : Vw A w (.slice (some ⟨b, off, none⟩) (n + 1) cap) 1 (n + 1) ((k :: t).map txt)) : Vw A w (.slice (some ⟨b, off + 1, none⟩) n n) 1 n (t.map txt) := by
  obtain ⟨⟨a, c, e, g1, g2, g3⟩, g4⟩ := h
  injection e with e1 e2 e3
  subst e1 e3
  have hn : t.length = n := by simpa using g4
  refine ⟨⟨_, _, rfl, Nat.le_refl _, by omega, ?_⟩, by simp [hn]⟩
  rcases g3 with g3 | ⟨b', off', e, g5, g6, g7⟩
  · omega
  · injection e with e
    injection e with e4 e5 _
    subst e4 e5
    refine .inr ⟨b, off + 1, rfl, g5, g6, fun j u hj => ?_⟩
    have := g7 (j + 1) u (by simpa using hj)
    rw [show off + 1 + j = off + (j + 1) by omega]; exact this
theorem vw_head1 {A : Nat → Prop} {w : World} {v : Value} {n : Nat} {k : List UInt8} {t : List (List UInt8)} (h : Vw A w v 1 (n + 1) ((k :: t).map txt)) : ∃ b off cap, v = .slice (some ⟨b, off, none⟩) (n + 1) cap ∧ n + 1 ≤ cap ∧ A b ∧ w.cell? ⟨b, off, none⟩ = some (.string ⟨k.toArray⟩) := by
  obtain ⟨⟨a, cap, rfl, g1, g2, g3⟩, g4⟩ := h
  rcases g3 with g3 | ⟨b, off, rfl, g5, g6, g7⟩
  · omega
  · exact ⟨b, off, cap, rfl, g1, g6, by simpa [txt] using g7 0 (txt k) rfl⟩
def pushL (left : Bool) (old more : List (List UInt8)) : List (List UInt8) := if left then more.reverse ++ old else old ++ more
def PushR (o : Roles) (w : World) (q : List Nat) (p : Nat) (S : SP) (c : Cnt) (m : Nat) (ρ : List Nat) (cb : Nat) (cs : Array Value) (d B : Nat) (l : List (List UInt8)) (wx : World) : Prop :=
  ∃ o3, DeqI o3 wx [m] d B l ∧ SpJ o3 wx q p S c ∧ Blk o3 wx ρ cb cs 79 ∧ Blk o3 wx [m + 2] w.heap.size zRepC 29 ∧ Stp q o w o3 wx
section
variable {o : Roles} {w : World} {q : List Nat} {p : Nat} {c : Cnt} {S : SP}
set_option maxRecDepth 10000 in
set_option maxHeartbeats 4000000 in
theorem lcpush_ok (h : SpJ o w q p S c) (hq : q ≠ []) {cb : Nat} {ρ : List Nat} {now : Int} {c0 : UInt8} {nr : List UInt8} {sv : Value} (hcb : Blk o w ρ cb (callC p now (c0 :: nr) sv) 79)
    {k : List UInt8} {more : List (List UInt8)} (hv : Vw (Old w) w sv 1 (more.length + 1) ((k :: more).map txt)) (hm : more ≠ [])
    {V : VV} (hV : V = ((S.at now k).getD hd0).v) {ok : Bool} (hok : ok = (S.at now k).isSome) (hwr : (ok && V.kind != 2) = false)
    (hx : ok = true ∨ ((c0 :: nr) == [108, 112, 117, 115, 104, 120]) = false ∧ ((c0 :: nr) == [114, 112, 117, 115, 104, 120]) = false) {left : Bool} (hl : ((c0.toNat : Int) == 108) = left)
    (hs : ∀ x ∈ pushL left V.list more, x.length ≤ 1048576) (hB : more.length + 2 * V.list.length ≤ 1099511627776) (hc : c.num ≤ 1099511627776) :
    Calls Tryz.prog 36 #[.pointer (some ⟨cb, 0, none⟩)] w (RepJ o w q p (S.put k ⟨listV (pushL left V.list more), ((S.at now k).getD hd0).due, c.num + 1⟩) c.next (numF (pushL left V.list more).length)) := by
  obtain ⟨o1, m, hbg, hj⟩ := begin_roles h hq
  have hcb1 := hbg.blk hcb
  have hcc := hcb.cell
  obtain ⟨b, off, cap, rfl, hcap, hbl, hk⟩ := vw_head1 hv
  have hcl := hcb.lt
  have hbl : b < w.heap.size := hbl
  have hm1 : 0 < more.length := List.length_pos_iff.2 hm
  have hvm := vw_tail3 hv
  obtain ⟨hR1, hB1⟩ := hbg.res
  have hli : ∀ (W : World), Below w.heap.size w W → Calls Tryz.prog 61 #[.pointer (some ⟨cb, 0, none⟩), txt k] W (ListDid o1 W [m] V ok) := fun W hW => by
    rw [hV, hok]; exact clist_ok (hj.below hW) (hcb1.below hW) k [m]
  have HLI := Lib.hid hli
  have HB1 := Lib.hid hB1
  have HR1 := Lib.hid hR1
  have HBG := Lib.hid hbg
  have HJ := Lib.hid hj
  have HCB := Lib.hid hcb1
  have HVM := Lib.hid hvm
  have HS := Lib.hid hs
  have HMN := Lib.hid hm
  have HWR := Lib.hid hwr
  have HX := Lib.hid hx
  have HL := Lib.hid hl
  have HPL := Lib.hid (show (pushL left V.list more).length = more.length + V.list.length by unfold pushL; cases left <;> simp <;> omega)
  clear h hcb hvm hbg hj hcb1 hs hm hv hV hok hwr hx hli hB1 hR1 hl
  unfold txt at HLI
  go_enter Tryz.func36, Tryz.ntmps36
  go_wp2_with fail
  go_quiet (fail)
  go_wp2_with fail
  have hBW := below_drewN HB1.out nq
  refine (HLI.out _ hBW).mono ?_; rintro e w2 ⟨d, o2, rfl, hd, hs2⟩
  rw [HWR.out]
  have hcb2 := (HCB.out.below hBW).keep (hs2 [m]) (by rw [← HCB.out.role]; exact HBG.out.no 0 cb (by decide))
  have hcc2 := hcb2.cell
  have HV2 := Lib.hid (HBG.out.keepVw (j := 0) (HVM.out.below hBW) (fun _ _ => rfl) (hs2 [m]))
  have HA2 := Lib.hid (show ∀ b, b < w.heap.size → ¬ [m] <+: o2 b from fun b hb => by rw [(hs2 [m]).old b (Nat.lt_of_lt_of_le hb hBW.size)]; exact HBG.out.no 0 b (by decide))
  have H2 := Lib.hid (show PushR o w q p S c m ρ cb _ d V.list.length V.list w2 from ⟨o2, hd, (HJ.out.below hBW).keep (hs2 [m]) (HBG.out.ap 0), hcb2, (HR1.out.drewN nq).keep (hs2 [m]) (by simp), (HBG.out.st q).trans ((Stp.ofBelow q o1 hBW).trans (hs2 q))⟩)
  clear hd hcb2 hs2 hBW HLI HJ HCB HR1 HB1 HVM hcc hk
  go_upto_region 5 with fail
  go_cut [53] (fun s53 wx => s53 = .bool false ∧ wx = w2)
  case first =>
    have hl0 := HL.out
    clear HV2 H2 HS HMN HPL
    cases ok with
    | true =>
      clear hl0
      go_wp2_with fail
      go_meet
      exact ⟨rfl, rfl⟩
    | false =>
      rcases HX.out with h5 | ⟨h5, h6⟩
      · cases h5
      · clear hl0
        go_wp2_with fail
        go_meet
        exact ⟨rfl, rfl⟩
  case rest =>
    obtain ⟨rfl, rfl⟩ := hcut
    have hix : ((⟨(c0 :: nr).toArray⟩ : ByteArray)[0]'(by simp [ByteArray.size])) = c0 := rfl
    go_upto_if 60 with fail
    go_cut [60] (fun s60 wx => PushR o w q p S c m ρ cb (callC p now (c0 :: nr) (.slice (some ⟨b, off, none⟩) (more.length + 1) cap)) d (more.length + 2 * V.list.length) (pushL left V.list more) wx)
    case first =>
      obtain ⟨o2, hd2, hj2, hcb2, hr2, hs2⟩ := H2.out
      have HPF := Lib.hid (dpushFront_ok hd2 HV2.out (fun b hb => by rw [hs2.old b hb, ← HBG.out.old b hb]; exact HBG.out.no 0 b (by decide)) hB)
      have HPB := Lib.hid (dpushBack_ok hd2 HV2.out (by omega))
      have HK := Lib.hid (show ∀ o3 w3, DeqI o3 w3 [m] d (more.length + 2 * V.list.length) (pushL left V.list more) → Stp [m] o2 wc o3 w3 → PushR o w q p S c m ρ cb (callC p now (c0 :: nr) (.slice (some ⟨b, off, none⟩) (more.length + 1) cap)) d (more.length + 2 * V.list.length) (pushL left V.list more) w3 from
        fun o3 w3 hd3 hs3 => ⟨o3, hd3, hj2.keep hs3 (HBG.out.ap 0), hcb2.keep hs3 (by rw [← hcb2.role, hs2.old cb hcl, ← HBG.out.old cb hcl]; exact HBG.out.no 0 cb (by decide)), hr2.keep hs3 (by simp), hs2.hide hs3 (fun b hb => by rw [← HBG.out.old b hb]; exact HBG.out.no 0 b (by decide))⟩)
      have hl0 := HL.out
      clear hd2 hj2 hcb2 hr2 hs2 H2 HV2 HA2 HS HMN HPL HX HL hcc2
      cases left with
      | true =>
        go_wp2_with fail
        refine HPF.out.mono ?_; rintro e w3 ⟨rfl, o3, hd3, hs3⟩
        have D := Lib.hid (HK.out o3 w3 hd3 hs3)
        clear hd3 hs3 HPF HPB HK
        go_wp2_with fail
        go_meet
        exact D.out
      | false =>
        go_wp2_with fail
        refine HPB.out.mono ?_; rintro e w3 ⟨rfl, o3, hd3, hs3⟩
        have D := Lib.hid (HK.out o3 w3 (hd3.mono (by omega)) hs3)
        clear hd3 hs3 HPF HPB HK
        go_wp2_with fail
        go_meet
        exact D.out
    case rest =>
      obtain ⟨o3, hd3, hj3, hcb3, hr3, hs3⟩ := hcut
      have hne : pushL left V.list more ≠ [] := fun e => by
        have := HPL.out
        rw [e] at this
        simp at this
        omega
      have HP := Lib.hid (lcput_ok hj3 hcb3 k hd3 hne HS.out hB hc)
      have HD3 := Lib.hid hd3
      have HR3 := Lib.hid hr3
      have HS3 := Lib.hid hs3
      clear hd3 hj3 hcb3 hr3 hs3 hne hcc2 HV2 H2 HA2 HS HMN HPL HX HL hix
      unfold txt at HP
      go_wp2_with fail
      refine HP.out.mono ?_; rintro e w4 ⟨rfl, o4, hj4, hs4⟩
      have HLN := Lib.hid (dlen_ok (HD3.out.keep hs4 (HBG.out.aq 0)))
      have HR4 := Lib.hid (HR3.out.keep hs4 (HBG.out.aq 2).not)
      have HJ4 := Lib.hid hj4
      have HS4 := Lib.hid (HS3.out.trans hs4)
      clear hj4 hs4 HD3 HR3 HS3 HP
      go_wp2_with fail
      refine HLN.out.mono ?_; rintro e w5 ⟨rfl, k5, rfl⟩
      go_wp2_with fail
      refine (lnumber_ok _ _).mono ?_; rintro e w6 ⟨rfl, hB6⟩
      have hB6' : Below w4.heap.size w4 w6 := (below_drewN (Below.refl _ _) k5).trans hB6
      have HJ6 := Lib.hid (HJ4.out.below hB6')
      have HR6 := Lib.hid (HR4.out.below hB6')
      have HS6 := Lib.hid (HS4.out.trans (Stp.ofBelow q o4 hB6'))
      have hrc := HR6.out.cell
      have hrf := HR6.out.free
      clear hB6 hB6' HJ4 HR4 HS4 HLN
      go_wp2_with fail
      obtain ⟨hj7, hs7⟩ := HBG.out.stored HJ6.out HR6.out HS6.out (.int .i64 3) (.string ⟨#[]⟩) (.int .i64 (pushL left V.list more).length) (.slice none 0 0)
      exact bodyPost_ret (v := repV 3 [] (pushL left V.list more).length (.slice none 0 0)) (by simp [results, Tryz.results36, go_sem, hrc]) rfl ⟨rfl, o4, hj7, hs7⟩
end
end Go.Proofs.YtgmmeeikjofefaaGreatDoor
