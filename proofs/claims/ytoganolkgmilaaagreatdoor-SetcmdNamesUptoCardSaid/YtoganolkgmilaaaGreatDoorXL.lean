import Derived.Test.YtoganolkgmilaaaGreatDoorXK
namespace Go.Proofs.YtoganolkgmilaaaGreatDoor
open Go Go.RowKit
/-! read: SCARD, SISMEMBER, SMEMBERS, SMISMEMBER. -/
abbrev scardB : Tx := [115, 99, 97, 114, 100]
abbrev sismemberB : Tx := [115, 105, 115, 109, 101, 109, 98, 101, 114]
abbrev smembersB : Tx := [115, 109, 101, 109, 98, 101, 114, 115]
abbrev smismemberB : Tx := [115, 109, 105, 115, 109, 101, 109, 98, 101, 114]
set_option maxRecDepth 10000 in
theorem truth_ok (w : World) (b : Bool) : Calls Tryz.prog 73 #[.bool b] w fun e w' => e = .returned (repV 3 [] (if b then 1 else 0) (.slice none 0 0)) ∧ Below w.heap.size w w' := by
  cases b <;> (
    go_enter Tryz.func73, Tryz.ntmps73
    go_wp2_with fail
    refine (lnumber_ok _ _).mono ?_; rintro e w1 ⟨rfl, hB⟩
    have hB1 := (lit_below w (.cells zRepC 29)).trans (hB.mono (by simp))
    have hr := (show Blk none0 (w.alloc (.cells zRepC 29)) [] w.heap.size zRepC 29 from ⟨heap_alloc_new w _, rfl⟩).below hB
    have hrc := hr.cell
    have hrf := hr.free
    have HB1 := Lib.hid hB1
    clear hB hr hB1
    go_wp2_with fail
    refine bodyPost_ret (v := repV 3 [] _ (.slice none 0 0)) (by simp [results, Tryz.results73, go_sem, hrc]) rfl ⟨rfl, ?_⟩
    exact below_four HB1.out)
section
variable {o : Roles} {w : World} {q : List Nat} {p : Nat} {c : Cnt} {S : SP} {cb : Nat} {ρ : List Nat} {now : Int} {sv : Value}
set_option maxRecDepth 10000 in
set_option maxHeartbeats 4000000 in
theorem scard_ok (h : SpJ o w q p S c) (hq : q ≠ []) (hcb : Blk o w ρ cb (callC p now scardB sv) 93)
    {k : Tx} (hv : Vw (Old w) w sv 1 1 ([k].map txt)) {V : VV} (hV : V = ((S.at now k).getD hd0).v) {ok : Bool} (hok : ok = (S.at now k).isSome) (hwr : (ok && V.kind != 4) = false) :
    Calls Tryz.prog 44 #[.pointer (some ⟨cb, 0, none⟩)] w (RepB w (numR V.list.length)) := by
  obtain ⟨o1, m, hbg, hj⟩ := begin_roles h hq
  have hfr0 := Fr.begin hbg hj hcb
  have hcc := hcb.cell
  have hcl := hcb.lt
  obtain ⟨b, off, cap, rfl, hcap, hbl, hk⟩ := vw_head1 hv
  replace hbl : b < w.heap.size := hbl
  have HSET := Lib.hid (fun (W : World) (hW : Below w.heap.size w W) => show Calls Tryz.prog 69 #[.pointer (some ⟨cb, 0, none⟩), txt k] W (SetDid W V ok) from by rw [hV, hok]; exact cset_ok (h.below hW) (hcb.below hW) k)
  have HFR := Lib.hid hfr0
  have HB1 := Lib.hid hbg.res.2
  have HWR := Lib.hid hwr
  clear h hcb hv hbg hj hV hok hwr hfr0
  unfold txt at HSET
  go_enter Tryz.func44, Tryz.ntmps44
  go_wp2_with fail
  refine (HSET.out _ HB1.out).mono ?_; rintro e w2 ⟨a2, c2, rfl, hv2, hB2⟩
  rw [HWR.out]
  have hfr2 := HFR.out.below hB2
  have hcc2 := hfr2.call.cell
  have HB2 := Lib.hid (HB1.out.trans (hB2.mono HB1.out.size))
  have HF2 := Lib.hid hfr2
  clear hv2 hB2 hfr2 HSET HFR hcc hk
  go_wp2_with fail
  refine (lnumber_ok _ _).mono ?_; rintro e w4 ⟨rfl, hB4⟩
  have hr4 := HF2.out.res.below hB4
  have hrc := hr4.cell
  have hrf := hr4.free
  have HB4 := Lib.hid (HB2.out.trans (hB4.mono HB2.out.size))
  clear hB4 hr4 HF2 HB2 hcc2
  go_wp2_with fail
  exact bodyPost_ret (v := repV 3 [] V.list.length (.slice none 0 0)) (by simp [results, Tryz.results44, go_sem, hrc]) rfl ⟨_, rfl, Vw.nil _ _ _, below_four HB4.out⟩
set_option maxRecDepth 10000 in
set_option maxHeartbeats 4000000 in
theorem sismember_ok (h : SpJ o w q p S c) (hq : q ≠ []) (hcb : Blk o w ρ cb (callC p now sismemberB sv) 93)
    {k m0 : Tx} (hv : Vw (Old w) w sv 1 2 ([k, m0].map txt)) {V : VV} (hV : V = ((S.at now k).getD hd0).v) {ok : Bool} (hok : ok = (S.at now k).isSome) (hwr : (ok && V.kind != 4) = false) (hl : V.list.length ≤ 1099511627776) :
    Calls Tryz.prog 44 #[.pointer (some ⟨cb, 0, none⟩)] w (RepB w (numR (if decide (m0 ∈ V.list) = true then 1 else 0))) := by
  obtain ⟨o1, m, hbg, hj⟩ := begin_roles h hq
  have hfr0 := Fr.begin hbg hj hcb
  have hcc := hcb.cell
  have hcl := hcb.lt
  obtain ⟨a0, cap, rfl, hcap, _, _⟩ := id hv.slice
  obtain ⟨b, off, rfl, hbl, hcap, hg⟩ := vw_get hv (by omega)
  replace hbl : b < w.heap.size := hbl
  have hk := hg 0 k rfl
  have hk1 := hg 1 m0 rfl
  rw [Nat.add_zero] at hk
  have HSET := Lib.hid (fun (W : World) (hW : Below w.heap.size w W) => show Calls Tryz.prog 69 #[.pointer (some ⟨cb, 0, none⟩), txt k] W (SetDid W V ok) from by rw [hV, hok]; exact cset_ok (h.below hW) (hcb.below hW) k)
  have HFR := Lib.hid hfr0
  have HB1 := Lib.hid hbg.res.2
  have HWR := Lib.hid hwr
  clear h hcb hv hbg hj hV hok hwr hfr0 hg
  have HTR := Lib.hid (fun (W : World) => truth_ok W (decide (m0 ∈ V.list)))
  obtain ⟨N, hN⟩ : ∃ N : Int, N = if decide (m0 ∈ V.list) = true then 1 else 0 := ⟨_, rfl⟩
  rw [← hN]
  rw [← hN] at HTR
  clear hN
  unfold txt at HSET
  go_enter Tryz.func44, Tryz.ntmps44
  go_wp2_with fail
  refine (HSET.out _ HB1.out).mono ?_; rintro e w2 ⟨a2, c2, rfl, hv2, hB2⟩
  rw [HWR.out]
  have hfr2 := HFR.out.below hB2
  have hcc2 := hfr2.call.cell
  have hB02 : Below w.heap.size w w2 := HB1.out.trans (hB2.mono HB1.out.size)
  have HB2 := Lib.hid hB02
  have HF2 := Lib.hid hfr2
  have HH := Lib.hid (mhas_ok hv2 hl m0)
  have hk2 : w2.cell? ⟨b, off + 1, none⟩ = some (.string ⟨m0.toArray⟩) := cell_below hB02 hk1
  clear hv2 hB2 hfr2 HSET HFR hcc hk hk1 hB02
  unfold HasDid txt at HH
  generalize decide (m0 ∈ V.list) = bo at *
  go_wp2_with fail
  refine HH.out.mono ?_; rintro e w3 ⟨rfl, rfl⟩
  go_wp2_with fail
  refine (HTR.out _).mono ?_; rintro e w4 ⟨rfl, hB4⟩
  have hr4 := HF2.out.res.below hB4
  have hrc := hr4.cell
  have hrf := hr4.free
  have HB4 := Lib.hid (HB2.out.trans (hB4.mono HB2.out.size))
  clear hB4 hr4 HF2 HB2 hcc2 HH
  go_wp2_with fail
  exact bodyPost_ret (v := repV 3 [] N (.slice none 0 0)) (by simp [results, Tryz.results44, go_sem, hrc]) rfl ⟨_, rfl, Vw.nil _ _ _, below_four HB4.out⟩
set_option maxRecDepth 10000 in
set_option maxHeartbeats 4000000 in
theorem smembers_ok (h : SpJ o w q p S c) (hq : q ≠ []) (hcb : Blk o w ρ cb (callC p now smembersB sv) 93)
    {k : Tx} (hv : Vw (Old w) w sv 1 1 ([k].map txt)) {V : VV} (hV : V = ((S.at now k).getD hd0).v) {ok : Bool} (hok : ok = (S.at now k).isSome) (hwr : (ok && V.kind != 4) = false) (hl : V.list.length ≤ 1099511627776) :
    Calls Tryz.prog 44 #[.pointer (some ⟨cb, 0, none⟩)] w (RepB w (bulksR V.list)) := by
  obtain ⟨o1, m, hbg, hj⟩ := begin_roles h hq
  have hfr0 := Fr.begin hbg hj hcb
  have hcc := hcb.cell
  have hcl := hcb.lt
  obtain ⟨b, off, cap, rfl, hcap, hbl, hk⟩ := vw_head1 hv
  replace hbl : b < w.heap.size := hbl
  have HSET := Lib.hid (fun (W : World) (hW : Below w.heap.size w W) => show Calls Tryz.prog 69 #[.pointer (some ⟨cb, 0, none⟩), txt k] W (SetDid W V ok) from by rw [hV, hok]; exact cset_ok (h.below hW) (hcb.below hW) k)
  have HFR := Lib.hid hfr0
  have HB1 := Lib.hid hbg.res.2
  have HWR := Lib.hid hwr
  clear h hcb hv hbg hj hV hok hwr hfr0
  unfold txt at HSET
  go_enter Tryz.func44, Tryz.ntmps44
  go_wp2_with fail
  refine (HSET.out _ HB1.out).mono ?_; rintro e w2 ⟨a2, c2, rfl, hv2, hB2⟩
  rw [HWR.out]
  have hfr2 := HFR.out.below hB2
  have hcc2 := hfr2.call.cell
  have HB2 := Lib.hid (HB1.out.trans (hB2.mono HB1.out.size))
  have HF2 := Lib.hid hfr2
  have HBU := Lib.hid (lbulks_ok hv2 hl)
  clear hv2 hB2 hfr2 HSET HFR hcc hk
  go_wp2_with fail
  refine HBU.out.mono ?_; rintro e w5 ⟨v5, rfl, hF5⟩
  obtain ⟨a5, c5, rfl, _⟩ := id hF5.vw.slice
  have hr5 := HF2.out.res.below hF5.below
  have hrc := hr5.cell
  have hrf := hr5.free
  have HS4 := Lib.hid HF2.out.res.lt
  have HB5 := Lib.hid (HB2.out.trans (hF5.below.mono HB2.out.size))
  have HF5 := Lib.hid hF5
  clear hr5 hF5 HF2 HBU hcc2 HB2
  go_wp2_with fail
  refine bodyPost_ret (v := repV 6 [] 0 (.slice a5 V.list.length c5)) (by simp [results, Tryz.results44, go_sem, hrc]) rfl ⟨_, rfl, ?_, below_four HB5.out⟩
  have hv6 := vw_four (v0 := .int .i64 6) (v1 := .string ⟨#[]⟩) (v2 := .int .i64 0) (v3 := .slice a5 V.list.length c5) HF5.out.vw HS4.out
  simpa [bulksR] using hv6
end
section
variable {w : World} {q : List Nat} {p : Nat} {c : Cnt} {S : SP} {k : Tx} {l : List Tx} {K : SP → Cnt → Prop}
theorem serves_card (hq : q ≠ []) (hk : SetIs S k l) (hK : K S c) : Serves 44 w q p S c scardB [k] (numR l.length) K := by
  intro o1 w1 cb m sv hj hm0 hB1 hcb hv
  obtain ⟨e1, e2, _⟩ := hk.at 0
  have := scard_ok hj hq hcb (k := k) (by simpa using hv) rfl rfl e2
  rw [e1] at this
  exact this.mono fun e w' h => h.repL hj hK
theorem serves_ismember (hq : q ≠ []) (hk : SetIs S k l) (hl : l.length ≤ 1099511627776) (x : Tx) (hK : K S c) : Serves 44 w q p S c sismemberB [k, x] (numR (if decide (x ∈ l) = true then 1 else 0)) K := by
  intro o1 w1 cb m sv hj hm0 hB1 hcb hv
  obtain ⟨e1, e2, _⟩ := hk.at 0
  have := sismember_ok hj hq hcb (k := k) (m0 := x) (by simpa using hv) rfl rfl e2 (by rw [e1]; exact hl)
  rw [e1] at this
  exact this.mono fun e w' h => h.repL hj hK
theorem serves_members (hq : q ≠ []) (hk : SetIs S k l) (hl : l.length ≤ 1099511627776) (hK : K S c) : Serves 44 w q p S c smembersB [k] (bulksR l) K := by
  intro o1 w1 cb m sv hj hm0 hB1 hcb hv
  obtain ⟨e1, e2, _⟩ := hk.at 0
  have := smembers_ok hj hq hcb (k := k) (by simpa using hv) rfl rfl e2 (by rw [e1]; exact hl)
  rw [e1] at this
  exact this.mono fun e w' h => h.repL hj hK
end
end Go.Proofs.YtoganolkgmilaaaGreatDoor
namespace Go.Proofs.YtoganolkgmilaaaGreatDoor
open Go Go.RowKit
/-! move. -/
abbrev smoveB : Tx := [115, 109, 111, 118, 101]
def SP.mvS (S : SP) (c : Cnt) (now : Int) (k d m : Tx) (A B : List Tx) : SP :=
  let S1 := S.layS now k (lessL A [m]) ((S.at now k).getD hd0).due (c.num + 1)
  let c1 := c.layS (S.at now k).isSome (lessL A [m])
  if 0 < ((ofL (B ++ [m])).length : Int) - ((ofL B).length : Int) then S1.layS now d (ofL (B ++ [m])) ((S1.at now d).getD hd0).due (c1.num + 1) else S1
def Cnt.mvS (c : Cnt) (S : SP) (now : Int) (k d m : Tx) (A B : List Tx) : Cnt :=
  let S1 := S.layS now k (lessL A [m]) ((S.at now k).getD hd0).due (c.num + 1)
  let c1 := c.layS (S.at now k).isSome (lessL A [m])
  if 0 < ((ofL (B ++ [m])).length : Int) - ((ofL B).length : Int) then c1.layS (S1.at now d).isSome (ofL (B ++ [m])) else c1
section
variable {o : Roles} {w : World} {q : List Nat} {p : Nat} {c : Cnt} {S : SP} {cb : Nat} {ρ : List Nat} {now : Int} {sv : Value}
set_option maxRecDepth 10000 in
set_option maxHeartbeats 4000000 in
theorem smove_no (h : SpJ o w q p S c) (hq : q ≠ []) (hcb : Blk o w ρ cb (callC p now smoveB sv) 93)
    {k d m0 : Tx} (hv : Vw (Old w) w sv 1 3 ([k, d, m0].map txt)) {A B : List Tx} (hin : m0 ∉ A) (hA : ((S.at now k).getD hd0).v.list = A) (hB : ((S.at now d).getD hd0).v.list = B)
    (hwr1 : ((S.at now k).isSome && ((S.at now k).getD hd0).v.kind != 4) = false) (hwr2 : ((S.at now d).isSome && ((S.at now d).getD hd0).v.kind != 4) = false)
    (hl1 : A.length ≤ 274877906944) :
    Calls Tryz.prog 46 #[.pointer (some ⟨cb, 0, none⟩)] w (RepJ o w q p S c (numF 0)) := by
  obtain ⟨o1, m, hbg, hj⟩ := begin_roles h hq
  have hfr0 := Fr.begin hbg hj hcb
  have hcc := hcb.cell
  have hcl := hcb.lt
  obtain ⟨a0, cap, rfl, hcap, _, _⟩ := id hv.slice
  obtain ⟨b, off, rfl, hbl, hcap, hg⟩ := vw_get hv (by omega)
  replace hbl : b < w.heap.size := hbl
  have hk0 := hg 0 k rfl
  have hk1 := hg 1 d rfl
  have hk2 := hg 2 m0 rfl
  rw [Nat.add_zero] at hk0
  have hcapI : (2 : Int) < (cap : Int) := by omega
  have HS1 := Lib.hid (fun (W : World) (hW : Below w.heap.size w W) => show Calls Tryz.prog 69 #[.pointer (some ⟨cb, 0, none⟩), txt k] W _ from cset_ok (h.below hW) (hcb.below hW) k)
  have HS2 := Lib.hid (fun (W : World) (hW : Below w.heap.size w W) => show Calls Tryz.prog 69 #[.pointer (some ⟨cb, 0, none⟩), txt d] W _ from cset_ok (h.below hW) (hcb.below hW) d)
  unfold SetDid at HS1 HS2
  rw [hA, hwr1] at HS1
  rw [hB, hwr2] at HS2
  have HFR := Lib.hid hfr0
  have HBG := Lib.hid hbg
  have HB1 := Lib.hid hbg.res.2
  have HIN := Lib.hid (decide_eq_false hin)
  clear h hcb hv hbg hj hA hB hwr1 hwr2 hfr0 hg hin
  unfold txt at HS1 HS2
  go_enter Tryz.func46, Tryz.ntmps46
  go_wp2_with fail
  go_quiet (fail)
  go_wp2_with fail
  have hBq := below_drewN HB1.out nq
  refine (HS1.out _ hBq).mono ?_; rintro e w2 ⟨a2, c2, rfl, hv2, hB2⟩
  have hB02 : Below w.heap.size w w2 := hBq.trans (hB2.mono hBq.size)
  have HBS := Lib.hid (HS2.out w2 hB02)
  have HV2 := Lib.hid hv2
  have hf2 := HFR.out.below ((below_drewN (Below.refl _ _) nq).trans hB2)
  have HF2 := Lib.hid hf2
  have HB02 := Lib.hid hB02
  clear hv2 hB2 hf2 hBq hB02 HS1 HS2 HFR
  go_wp2_with fail
  refine HBS.out.mono ?_; rintro e w3 ⟨a3, c3, rfl, hv3, hB3⟩
  have HV23 := Lib.hid (HV2.out.below hB3)
  have HF3 := Lib.hid (HF2.out.below hB3)
  have HH := Lib.hid (mhas_ok (HV23.out) (by omega) m0)
  clear hv3 hB3 HF2 HBS HV2
  unfold HasDid txt at HH
  rw [HIN.out] at HH
  go_wp2_with fail
  refine HH.out.mono ?_; rintro e w3' ⟨rfl, rfl⟩
  go_wp2_with fail
  refine (lnumber_ok _ _).mono ?_; rintro e w6 ⟨rfl, hB6⟩
  have hf6 := HF3.out.below hB6
  have HF6 := Lib.hid hf6
  have hrc := hf6.res.cell
  have hrf := hf6.res.free
  clear hB6 hf6 HF3 HV23 HH
  go_wp2_with fail
  obtain ⟨hj7, hs7⟩ := HF6.out.fin HBG.out (.int .i64 3) (.string ⟨#[]⟩) (.int .i64 0) (.slice none 0 0)
  exact bodyPost_ret (v := repV 3 [] 0 (.slice none 0 0)) (by simp [results, Tryz.results46, go_sem, hrc]) rfl ⟨rfl, o1, hj7, hs7⟩
set_option maxRecDepth 10000 in
set_option maxHeartbeats 4000000 in
theorem smove_yes (h : SpJ o w q p S c) (hq : q ≠ []) (hρ : ¬ q <+: ρ) (hcb : Blk o w ρ cb (callC p now smoveB sv) 93)
    {k d m0 : Tx} (hkd : k ≠ d) (hv : Vw (Old w) w sv 1 3 ([k, d, m0].map txt)) {A B : List Tx} (hin : m0 ∈ A) (hA : ((S.at now k).getD hd0).v.list = A) (hB : ((S.at now d).getD hd0).v.list = B)
    (hwr1 : ((S.at now k).isSome && ((S.at now k).getD hd0).v.kind != 4) = false) (hwr2 : ((S.at now d).isSome && ((S.at now d).getD hd0).v.kind != 4) = false)
    (hs1 : ∀ x ∈ lessL A [m0], x.length ≤ 1048576) (hs2 : ∀ x ∈ ofL (B ++ [m0]), x.length ≤ 1048576) (hl1 : A.length ≤ 274877906944) (hl2 : B.length ≤ 274877906944) (hc : c.num ≤ 4611686018427387000) (hf : c.few ≤ 1099511627000) :
    Calls Tryz.prog 46 #[.pointer (some ⟨cb, 0, none⟩)] w (RepJ o w q p (S.mvS c now k d m0 A B) (c.mvS S now k d m0 A B) (numF 1)) := by
  obtain ⟨o1, m, hbg, hj⟩ := begin_roles h hq
  have hfr0 := Fr.begin hbg hj hcb
  have hcc := hcb.cell
  have hcl := hcb.lt
  obtain ⟨a0, cap, rfl, hcap, _, _⟩ := id hv.slice
  obtain ⟨b, off, rfl, hbl, hcap, hg⟩ := vw_get hv (by omega)
  replace hbl : b < w.heap.size := hbl
  have hk0 := hg 0 k rfl
  have hk1 := hg 1 d rfl
  have hk2 := hg 2 m0 rfl
  rw [Nat.add_zero] at hk0
  have hcapI : (2 : Int) < (cap : Int) := by omega
  have HS1 := Lib.hid (fun (W : World) (hW : Below w.heap.size w W) => show Calls Tryz.prog 69 #[.pointer (some ⟨cb, 0, none⟩), txt k] W _ from cset_ok (h.below hW) (hcb.below hW) k)
  have HS2 := Lib.hid (fun (W : World) (hW : Below w.heap.size w W) => show Calls Tryz.prog 69 #[.pointer (some ⟨cb, 0, none⟩), txt d] W _ from cset_ok (h.below hW) (hcb.below hW) d)
  unfold SetDid at HS1 HS2
  rw [hA, hwr1] at HS1
  rw [hB, hwr2] at HS2
  have HFR := Lib.hid hfr0
  have HBG := Lib.hid hbg
  have HB1 := Lib.hid hbg.res.2
  have HP := Lib.hid h.role
  have HT1 := Lib.hid hs1
  have HT2 := Lib.hid hs2
  have HIN := Lib.hid (decide_eq_true hin)
  obtain ⟨S1, hS1⟩ : ∃ S1, S1 = S.layS now k (lessL A [m0]) ((S.at now k).getD hd0).due (c.num + 1) := ⟨_, rfl⟩
  obtain ⟨c1, hc1⟩ : ∃ c1, c1 = c.layS (S.at now k).isSome (lessL A [m0]) := ⟨_, rfl⟩
  obtain ⟨N, hN⟩ : ∃ N, N = ((ofL (B ++ [m0])).length : Int) - ((ofL B).length : Int) := ⟨_, rfl⟩
  obtain ⟨S2, hS2⟩ : ∃ S2, S2 = S.mvS c now k d m0 A B := ⟨_, rfl⟩
  obtain ⟨c2, hc2⟩ : ∃ c2, c2 = c.mvS S now k d m0 A B := ⟨_, rfl⟩
  rw [← hS2, ← hc2]
  unfold SP.mvS at hS2
  unfold Cnt.mvS at hc2
  dsimp only at hS2 hc2
  rw [← hS1, ← hc1, ← hN] at hS2 hc2
  have HSC := Lib.hid (And.intro hS2 hc2)
  have HS1C := Lib.hid (And.intro hS1 hc1)
  have HNN := Lib.hid hN
  clear hS2 hc2 hS1 hc1 hN hin
  have hkk : (k == d) = false := beq_eq_false_iff_ne.2 hkd
  clear h hcb hv hbg hj hA hB hwr1 hwr2 hfr0 hg hkd hs1 hs2
  unfold txt at HS1 HS2
  go_enter Tryz.func46, Tryz.ntmps46
  go_wp2_with fail
  go_quiet (fail)
  go_wp2_with fail
  have hBq := below_drewN HB1.out nq
  refine (HS1.out _ hBq).mono ?_; rintro e w2 ⟨a2, k2, rfl, hv2, hB2⟩
  have hB02 : Below w.heap.size w w2 := hBq.trans (hB2.mono hBq.size)
  have HBS := Lib.hid (HS2.out w2 hB02)
  have HV2 := Lib.hid hv2
  have hf2 := HFR.out.below ((below_drewN (Below.refl _ _) nq).trans hB2)
  have HF2 := Lib.hid hf2
  have HB02 := Lib.hid hB02
  clear hv2 hB2 hf2 hBq hB02 HS1 HS2 HFR
  go_wp2_with fail
  refine HBS.out.mono ?_; rintro e w3 ⟨a3, k3, rfl, hv3, hB3⟩
  have HV3 := Lib.hid hv3
  have HV23 := Lib.hid (HV2.out.below hB3)
  have HF3 := Lib.hid (HF2.out.below hB3)
  have HB03 := Lib.hid (HB02.out.trans (hB3.mono HB02.out.size))
  have HH := Lib.hid (mhas_ok (HV23.out) (by omega) m0)
  clear hv3 hB3 HF2 HBS HV2
  unfold HasDid txt at HH
  rw [HIN.out] at HH
  go_wp2_with fail
  refine HH.out.mono ?_; rintro e w3' ⟨rfl, rfl⟩
  have hnew := vw_new1 w3' m0 9
  have HRM := Lib.hid (mremove_ok (ms := [m0]) (HV23.out.below (lit_below w3' (.cells #[txt m0] 9))) hnew (by omega) (by simp))
  have HF3L := Lib.hid (HF3.out.below (lit_below w3' (.cells #[txt m0] 9)))
  have HV3L := Lib.hid (HV3.out.below (lit_below w3' (.cells #[txt m0] 9)))
  have HB3L := Lib.hid (HB03.out.trans ((lit_below w3' (.cells #[txt m0] 9)).mono HB03.out.size))
  have hsz3 : w3'.heap.size < (w3'.alloc (.cells #[txt m0] 9)).heap.size := by simp
  have HSZ3 := Lib.hid hsz3
  have HSW := Lib.hid HB03.out.size
  clear hnew HF3 HV3 HB03 HH HV23 hsz3
  unfold txt at HRM HF3L HV3L HB3L HSZ3
  go_wp2_with fail
  refine HRM.out.mono ?_; rintro e w4 ⟨a4, k4, rfl, hv4, hB4⟩
  have HF4 := Lib.hid (HF3L.out.below hB4)
  have HV34 := Lib.hid (HV3L.out.below hB4)
  have HB4 := Lib.hid (HB3L.out.trans (hB4.mono HB3L.out.size))
  have HAD := Lib.hid (madd_ok (ms := [m0]) ((HV3L.out.below hB4).below (lit_below w4 (.cells #[txt m0] 9))) (vw_new1 w4 m0 9) (by omega) (by simp))
  have HV4 := Lib.hid (hv4.below (lit_below w4 (.cells #[txt m0] 9)))
  have HF4L := Lib.hid (HF4.out.below (lit_below w4 (.cells #[txt m0] 9)))
  have HB4L := Lib.hid (HB4.out.trans ((lit_below w4 (.cells #[txt m0] 9)).mono HB4.out.size))
  have HB45 := Lib.hid hB4.size
  clear hv4 hB4 HRM HF3L HV3L HB3L HF4 HB4 HV34
  unfold txt at HAD HF4L HB4L HV4
  rw [← HNN.out] at HAD
  go_wp2_with fail
  refine HAD.out.mono ?_; rintro e w5 ⟨a5, k5, rfl, hv5, hB5⟩
  have hf5 := HF4L.out.below hB5
  have hsw : w.heap.size ≤ w3'.heap.size := HSW.out
  have hpl := HP.out.2
  have hp1 := cput_ok hf5.sp hf5.call k (HV4.out.below hB5) (fun b hb => by simp at hb; omega) (lessL_asc A [m0]) HT1.out (by have h1 := ofL_len (A.filter fun x => decide (x ∉ [m0])); have h2 := List.length_filter_le (fun x => decide (x ∉ [m0])) A; show (ofL _).length ≤ _; omega) (by omega) (by omega)
  rw [← HS1C.out.1, ← HS1C.out.2] at hp1
  have HP1 := Lib.hid hp1
  have HF5 := Lib.hid hf5
  have HV5 := Lib.hid hv5
  have HW4 := Lib.hid (show w.heap.size ≤ w4.heap.size from Nat.le_trans hsw (Nat.le_trans (Nat.le_succ _) (by have := HB45.out; simpa using this)))
  clear hv5 hB5 hf5 hp1 HAD HV4 HF4L HB4L hsw hpl
  unfold txt at HP1
  go_wp2_with fail
  refine HP1.out.mono ?_; rintro e w6 ⟨rfl, o6, hj6, hs6⟩
  have hf6 := HF5.out.put HBG.out hρ hj6 hs6
  have hv6 := HV5.out.stay hs6.size (fun b hb hlt => hs6.block b hlt (by rw [HBG.out.new b (by simp at hb; have := HW4.out; omega)]; exact (HBG.out.aq 2).not))
  have hc1 := layS_near c (S.at now k).isSome (lessL A [m0])
  rw [← HS1C.out.2] at hc1
  have hp2 := cput_ok hf6.sp hf6.call d hv6 (fun b hb => by simp at hb; have := HW4.out; have := HP.out.2; omega) (ofL_asc _) HT2.out (by have h1 := ofL_len (B ++ [m0]); simp at h1; omega) (by omega) (by omega)
  have HP2 := Lib.hid hp2
  have HF6 := Lib.hid hf6
  clear hj6 hs6 hf6 hv6 hp2 hc1 HF5 HV5 HP1
  unfold txt at HP2
  by_cases hN : 0 < N
  · have e1 := HSC.out.1
    have e2 := HSC.out.2
    rw [if_pos hN] at e1 e2
    rw [← e1, ← e2] at HP2
    clear e1 e2
    go_wp2_with fail
    refine HP2.out.mono ?_; rintro e w7 ⟨rfl, o7, hj7, hs7⟩
    have HF7 := Lib.hid (HF6.out.put HBG.out hρ hj7 hs7)
    clear hj7 hs7 HF6 HP2
    go_wp2_with fail
    refine (lnumber_ok _ _).mono ?_; rintro e w8 ⟨rfl, hB8⟩
    have hf8 := HF7.out.below hB8
    have HF8 := Lib.hid hf8
    have hrc := hf8.res.cell
    have hrf := hf8.res.free
    clear hB8 hf8 HF7
    go_wp2_with fail
    obtain ⟨hj9, hs9⟩ := HF8.out.fin HBG.out (.int .i64 3) (.string ⟨#[]⟩) (.int .i64 1) (.slice none 0 0)
    exact bodyPost_ret (v := repV 3 [] 1 (.slice none 0 0)) (by simp [results, Tryz.results46, go_sem, hrc]) rfl ⟨rfl, o7, hj9, hs9⟩
  · have e1 := HSC.out.1
    have e2 := HSC.out.2
    rw [if_neg hN] at e1 e2
    subst e1 e2
    clear HP2
    go_wp2_with fail
    refine (lnumber_ok _ _).mono ?_; rintro e w8 ⟨rfl, hB8⟩
    have hf8 := HF6.out.below hB8
    have HF8 := Lib.hid hf8
    have hrc := hf8.res.cell
    have hrf := hf8.res.free
    clear hB8 hf8 HF6
    go_wp2_with fail
    obtain ⟨hj9, hs9⟩ := HF8.out.fin HBG.out (.int .i64 3) (.string ⟨#[]⟩) (.int .i64 1) (.slice none 0 0)
    exact bodyPost_ret (v := repV 3 [] 1 (.slice none 0 0)) (by simp [results, Tryz.results46, go_sem, hrc]) rfl ⟨rfl, o6, hj9, hs9⟩
end
end Go.Proofs.YtoganolkgmilaaaGreatDoor
