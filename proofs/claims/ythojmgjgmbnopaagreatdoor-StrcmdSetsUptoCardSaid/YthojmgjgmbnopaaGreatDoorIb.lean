import Derived.Test.YthojmgjgmbnopaaGreatDoorIa
import Derived.Deep.RegionHeld
namespace Go.Proofs.YthojmgjgmbnopaaGreatDoor
open Go Go.RowKit
/-! Commands on strings over any space, one path a theorem. -/
section
variable {o : Roles} {w : World} {q : List Nat} {p : Nat} {c : Cnt} {S : SP} {cb : Nat} {ρ : List Nat} {now : Int} {sv : Value} {nm : Tx}
theorem tlay_bad (hcb : Blk o w ρ cb (callC p now nm sv) 108) (k s : Tx) (hs : 1048576 < s.length) (hs2 : s.length ≤ 1099511627776) (due : Int) :
    Calls Tryz.prog 183 #[.pointer (some ⟨cb, 0, none⟩), .string ⟨k.toArray⟩, .string ⟨s.toArray⟩, .int .i64 due] w fun e w' => e = .returned (.bool false) ∧ Below w.heap.size w w' := by
  have hx : shortB s = false := by unfold shortB; simp; omega
  have hfit : fitV (textV s) due = 131 := by
    have hc : chkV (textV s) = 131 := by
      unfold chkV
      simp only [rightV, hx]
      rw [if_neg (by decide)]
      split
      · rfl
      · simp
    unfold fitV
    rw [hc]; rfl
  have HP := jput_bad (p := p) (d := due) k (val3_text (fun _ => False) w s) ⟨by show s.length ≤ _; omega, by simp, by simp, by simp⟩ (by rw [hfit]; decide)
  rw [hfit] at HP
  have HP := Lib.hid HP
  have hcc := hcb.cell
  clear hcb hs hs2 hx hfit
  unfold txt at *
  go_enter Tryz.func183, Tryz.ntmps183
  go_wp2_with fail
  refine HP.out.mono ?_; rintro e w1 ⟨rfl, hB⟩
  have HB := Lib.hid hB
  clear hB HP
  go_wp2_with fail
  go_ret
  exact ⟨rfl, HB.out⟩
set_option maxRecDepth 10000 in
set_option maxHeartbeats 4000000 in
theorem strlen_bad (h : SpJ o w q p S c) (hq : q ≠ []) {k : Tx} {rest : List Tx} (hcb : Blk o w ρ cb (callC p now nm sv) 108)
    (hv : Vw (fun b => b < w.heap.size ∧ ¬ q <+: o b) w sv 1 (rest.length + 1) ((k :: rest).map txt)) (hbad : S.bad now k = true) :
    Calls Tryz.prog 116 #[.pointer (some ⟨cb, 0, none⟩)] w (RepJ o w q p S c (errF wrongB)) := by
  obtain ⟨o1, m1, hbg, hj⟩ := begin_roles h hq
  have hfr0 := Fr.begin hbg hj hcb
  have hcc := hcb.cell
  have hcl := hcb.lt
  obtain ⟨b, off, cap, rfl, hbl, hA, hcap, hg⟩ := arg_at (args := (k :: rest)) hv (by simp)
  have hk := hg 0 k rfl
  rw [Nat.add_zero] at hk
  have hcapI : (1 : Int) ≤ (cap : Int) := by simp at hcap; omega
  have hlen : (0 : Int) < ((k :: rest).length : Int) := by simp
  have HF := Lib.hid hfr0
  have HBG := Lib.hid hbg
  have htx := ctext_any hfr0.sp hfr0.call k
  rw [hbad] at htx
  have HTX := Lib.hid htx
  clear htx hbad
  generalize S.txt now k = tx at *
  generalize (k :: rest).length = L at *
  clear h hcb hv hbg hj hfr0 hg hcap
  go_enter Tryz.func116, Tryz.ntmps116
  go_wp2_with fail
  refine HTX.out.mono ?_; rintro e w3 ⟨rfl, hB3⟩
  have hf3 := HF.out.below hB3
  have HF3 := Lib.hid hf3
  have hB03 := (HBG.out.res.2).trans (hB3.mono HBG.out.res.2.size)
  have HRP := Lib.hid (fun W => lfault_ok W wrongB)
  unfold txt wrongB at HRP
  clear hB3 hf3 hB03 HTX HF hcc hk
  go_wp2_with fail
  refine (HRP.out _).mono ?_; rintro e w6 ⟨rfl, hB6⟩
  have hf6 := HF3.out.below hB6
  have HF6 := Lib.hid hf6
  have hrc := hf6.res.cell
  have hrf := hf6.res.free
  clear hB6 hf6 HF3 HRP
  go_wp2_with fail
  obtain ⟨hj7, hs7⟩ := HF6.out.fin HBG.out (.int .i64 2) (.string ⟨(wrongB : Tx).toArray⟩) (.int .i64 0) (.slice none 0 0)
  exact bodyPost_ret (v := repV 2 wrongB 0 (.slice none 0 0)) (by simp [results, Tryz.results116, go_sem, hrc, wrongB]) rfl ⟨rfl, o1, hj7, hs7⟩
set_option maxRecDepth 10000 in
set_option maxHeartbeats 4000000 in
theorem strlen_ok (h : SpJ o w q p S c) (hq : q ≠ []) {k : Tx} {rest : List Tx} (hcb : Blk o w ρ cb (callC p now nm sv) 108)
    (hv : Vw (fun b => b < w.heap.size ∧ ¬ q <+: o b) w sv 1 (rest.length + 1) ((k :: rest).map txt)) (hbad : S.bad now k = false) :
    Calls Tryz.prog 116 #[.pointer (some ⟨cb, 0, none⟩)] w (RepJ o w q p S c ⟨3, [], ((S.txt now k).length : Int)⟩) := by
  obtain ⟨o1, m1, hbg, hj⟩ := begin_roles h hq
  have hfr0 := Fr.begin hbg hj hcb
  have hcc := hcb.cell
  have hcl := hcb.lt
  obtain ⟨b, off, cap, rfl, hbl, hA, hcap, hg⟩ := arg_at (args := (k :: rest)) hv (by simp)
  have hk := hg 0 k rfl
  rw [Nat.add_zero] at hk
  have hcapI : (1 : Int) ≤ (cap : Int) := by simp at hcap; omega
  have hlen : (0 : Int) < ((k :: rest).length : Int) := by simp
  have HF := Lib.hid hfr0
  have HBG := Lib.hid hbg
  have htx := ctext_any hfr0.sp hfr0.call k
  rw [hbad] at htx
  have HTX := Lib.hid htx
  clear htx hbad
  generalize S.txt now k = tx at *
  generalize (k :: rest).length = L at *
  clear h hcb hv hbg hj hfr0 hg hcap
  go_enter Tryz.func116, Tryz.ntmps116
  go_wp2_with fail
  refine HTX.out.mono ?_; rintro e w3 ⟨rfl, hB3⟩
  have hf3 := HF.out.below hB3
  have HF3 := Lib.hid hf3
  have hB03 := (HBG.out.res.2).trans (hB3.mono HBG.out.res.2.size)
  have HRP := Lib.hid (fun W => lnumber_ok W (tx.length : Int))
  unfold txt at HRP
  clear hB3 hf3 hB03 HTX HF hcc hk
  go_wp2_with fail
  refine (HRP.out _).mono ?_; rintro e w6 ⟨rfl, hB6⟩
  have hf6 := HF3.out.below hB6
  have HF6 := Lib.hid hf6
  have hrc := hf6.res.cell
  have hrf := hf6.res.free
  clear hB6 hf6 HF3 HRP
  go_wp2_with fail
  obtain ⟨hj7, hs7⟩ := HF6.out.fin HBG.out (.int .i64 3) (.string ⟨([] : Tx).toArray⟩) (.int .i64 (tx.length : Int)) (.slice none 0 0)
  exact bodyPost_ret (v := repV 3 [] (tx.length : Int) (.slice none 0 0)) (by simp [results, Tryz.results116, go_sem, hrc]) rfl ⟨rfl, o1, hj7, hs7⟩
set_option maxRecDepth 10000 in
set_option maxHeartbeats 4000000 in
theorem setnx_there (h : SpJ o w q p S c) (hq : q ≠ []) {k : Tx} {rest : List Tx} (hcb : Blk o w ρ cb (callC p now nm sv) 108)
    (hv : Vw (fun b => b < w.heap.size ∧ ¬ q <+: o b) w sv 1 (rest.length + 1) ((k :: rest).map txt)) (hok : S.is now k = true) :
    Calls Tryz.prog 114 #[.pointer (some ⟨cb, 0, none⟩)] w (RepJ o w q p S c ⟨3, [], 0⟩) := by
  obtain ⟨o1, m1, hbg, hj⟩ := begin_roles h hq
  have hfr0 := Fr.begin hbg hj hcb
  have hcc := hcb.cell
  have hcl := hcb.lt
  obtain ⟨b, off, cap, rfl, hbl, hA, hcap, hg⟩ := arg_at (args := (k :: rest)) hv (by simp)
  have hk := hg 0 k rfl
  rw [Nat.add_zero] at hk
  have hcapI : (1 : Int) ≤ (cap : Int) := by simp at hcap; omega
  have hlen : (0 : Int) < ((k :: rest).length : Int) := by simp
  have HF := Lib.hid hfr0
  have HBG := Lib.hid hbg
  have hth := there_any hfr0.sp hfr0.call k
  rw [hok] at hth
  have HTX := Lib.hid hth
  clear hth hok
  generalize (k :: rest).length = L at *
  clear h hcb hv hbg hj hfr0 hg hcap
  go_enter Tryz.func114, Tryz.ntmps114
  go_wp2_with fail
  refine HTX.out.mono ?_; rintro e w3 ⟨rfl, hB3⟩
  have hf3 := HF.out.below hB3
  have HF3 := Lib.hid hf3
  have hB03 := (HBG.out.res.2).trans (hB3.mono HBG.out.res.2.size)
  have HRP := Lib.hid (fun W => lnumber_ok W 0)
  clear hB3 hf3 hB03 HTX HF hcc hk
  go_wp2_with fail
  refine (HRP.out _).mono ?_; rintro e w6 ⟨rfl, hB6⟩
  have hf6 := HF3.out.below hB6
  have HF6 := Lib.hid hf6
  have hrc := hf6.res.cell
  have hrf := hf6.res.free
  clear hB6 hf6 HF3 HRP
  go_wp2_with fail
  obtain ⟨hj7, hs7⟩ := HF6.out.fin HBG.out (.int .i64 3) (.string ⟨([] : Tx).toArray⟩) (.int .i64 0) (.slice none 0 0)
  exact bodyPost_ret (v := repV 3 [] 0 (.slice none 0 0)) (by simp [results, Tryz.results114, go_sem, hrc]) rfl ⟨rfl, o1, hj7, hs7⟩
set_option maxRecDepth 10000 in
set_option maxHeartbeats 4000000 in
theorem setnx_put (h : SpJ o w q p S c) (hq : q ≠ []) {k v : Tx} {rest : List Tx} (hcb : Blk o w ρ cb (callC p now nm sv) 108)
    (hv : Vw (fun b => b < w.heap.size ∧ ¬ q <+: o b) w sv 1 (rest.length + 2) ((k :: v :: rest).map txt)) (hok : S.is now k = false) (hm1 : ¬ q <+: ρ) (hs : v.length ≤ 1048576) (hc : c.num ≤ 4611686018427387904) (hf : c.few ≤ 1099511627776) :
    Calls Tryz.prog 114 #[.pointer (some ⟨cb, 0, none⟩)] w (RepJ o w q p (S.put k ⟨textV v, 0, c.num + 1⟩) c.next ⟨3, [], 1⟩) := by
  obtain ⟨o1, m1, hbg, hj⟩ := begin_roles h hq
  have hfr0 := Fr.begin hbg hj hcb
  have hcc := hcb.cell
  have hcl := hcb.lt
  obtain ⟨b, off, cap, rfl, hbl, hA, hcap, hg⟩ := arg_at (args := (k :: v :: rest)) hv (by simp)
  have hk := hg 0 k rfl
  rw [Nat.add_zero] at hk
  have hk1 := hg 1 v rfl
  have hcapI : (2 : Int) ≤ (cap : Int) := by simp at hcap; omega
  have hlen : (0 : Int) < ((k :: v :: rest).length : Int) := by simp <;> omega
  have HF := Lib.hid hfr0
  have HBG := Lib.hid hbg
  have hlen1 : (1 : Int) < ((k :: v :: rest).length : Int) := by simp <;> omega
  have hth := there_any hfr0.sp hfr0.call k
  rw [hok] at hth
  have HTX := Lib.hid hth
  clear hth hok
  generalize (k :: v :: rest).length = L at *
  clear h hcb hv hbg hj hfr0 hg hcap
  go_enter Tryz.func114, Tryz.ntmps114
  go_wp2_with fail
  refine HTX.out.mono ?_; rintro e w3 ⟨rfl, hB3⟩
  have hf3 := HF.out.below hB3
  have HF3 := Lib.hid hf3
  have hB03 := (HBG.out.res.2).trans (hB3.mono HBG.out.res.2.size)
  have HKS := Lib.hid (show ∀ W o', Stp q o1 w3 o' W → W.cell? ⟨b, off, none⟩ = some (.string ⟨k.toArray⟩) ∧ W.cell? ⟨b, off + 1, none⟩ = some (.string ⟨v.toArray⟩) from fun W o' st => ⟨stp_cell st (by rw [HBG.out.old b hbl]; exact hA.2) (cell_below hB03 hk), stp_cell st (by rw [HBG.out.old b hbl]; exact hA.2) (cell_below hB03 hk1)⟩)
  have hcc3 := hf3.call.cell
  have hcl3 := hf3.call.lt
  have hk3 := cell_below hB03 hk
  have hk13 := cell_below hB03 hk1
  have HLAY := Lib.hid (fun (W : World) (hW : Below w3.heap.size w3 W) => tlay_ok (HF3.out.sp.below hW) (HF3.out.call.below hW) k v hs hc hf 0 (by decide))
  unfold txt at HLAY
  clear hB3 hf3 hB03 HTX HF hcc hcl hk hk1
  go_wp2_with fail
  go_region_held (fun W => (∀ j, W.cell? ⟨cb, j, none⟩ = (callC p now nm (.slice (some ⟨b, off, none⟩) L cap))[j]?) ∧ W.cell? ⟨b, off, none⟩ = some (.string ⟨k.toArray⟩) ∧ W.cell? ⟨b, off + 1, none⟩ = some (.string ⟨v.toArray⟩)) (first | exact ⟨hcc3, hk3, hk13⟩ | exact HC5.out) (first
    | (go_at_call 183
       (with_reducible refine (HLAY.out _ (by first | exact (Below.refl _ _).drew | exact Below.refl _ _)).mono ?_)
       rintro e w5 ⟨rfl, o5, hj5, hs5⟩
       have HF5 := Lib.hid (Fr.put HBG.out hm1 HF3.out hj5 hs5.from1)
       have HC5 := Lib.hid (And.intro HF5.out.call.cell (HKS.out _ _ hs5.from1))
       clear hj5 hs5))
  all_goals (
    have HRP := Lib.hid (fun W => lnumber_ok W 1)
    clear HKS HC5 HLAY HF3 hcc3 hcl3 hk3 hk13
    go_wp2_with fail
    refine (HRP.out _).mono ?_; rintro e w6 ⟨rfl, hB6⟩
    have hf6 := HF5.out.below hB6
    have HF6 := Lib.hid hf6
    have hrc := hf6.res.cell
    have hrf := hf6.res.free
    clear hB6 hf6 HF5 HRP
    go_wp2_with fail
    obtain ⟨hj7, hs7⟩ := HF6.out.fin HBG.out (.int .i64 3) (.string ⟨([] : Tx).toArray⟩) (.int .i64 1) (.slice none 0 0)
    exact bodyPost_ret (v := repV 3 [] 1 (.slice none 0 0)) (by simp [results, Tryz.results114, go_sem, hrc]) rfl ⟨rfl, o5, hj7, hs7⟩)
set_option maxRecDepth 10000 in
set_option maxHeartbeats 4000000 in
theorem setnx_long (h : SpJ o w q p S c) (hq : q ≠ []) {k v : Tx} {rest : List Tx} (hcb : Blk o w ρ cb (callC p now nm sv) 108)
    (hv : Vw (fun b => b < w.heap.size ∧ ¬ q <+: o b) w sv 1 (rest.length + 2) ((k :: v :: rest).map txt)) (hok : S.is now k = false) (hs : 1048576 < v.length) (hs2 : v.length ≤ 1099511627776) :
    Calls Tryz.prog 114 #[.pointer (some ⟨cb, 0, none⟩)] w (RepJ o w q p S c (errF longB)) := by
  obtain ⟨o1, m1, hbg, hj⟩ := begin_roles h hq
  have hfr0 := Fr.begin hbg hj hcb
  have hcc := hcb.cell
  have hcl := hcb.lt
  obtain ⟨b, off, cap, rfl, hbl, hA, hcap, hg⟩ := arg_at (args := (k :: v :: rest)) hv (by simp)
  have hk := hg 0 k rfl
  rw [Nat.add_zero] at hk
  have hk1 := hg 1 v rfl
  have hcapI : (2 : Int) ≤ (cap : Int) := by simp at hcap; omega
  have hlen : (0 : Int) < ((k :: v :: rest).length : Int) := by simp <;> omega
  have HF := Lib.hid hfr0
  have HBG := Lib.hid hbg
  have hlen1 : (1 : Int) < ((k :: v :: rest).length : Int) := by simp <;> omega
  have hth := there_any hfr0.sp hfr0.call k
  rw [hok] at hth
  have HTX := Lib.hid hth
  clear hth hok
  generalize (k :: v :: rest).length = L at *
  clear h hcb hv hbg hj hfr0 hg hcap
  go_enter Tryz.func114, Tryz.ntmps114
  go_wp2_with fail
  refine HTX.out.mono ?_; rintro e w3 ⟨rfl, hB3⟩
  have hf3 := HF.out.below hB3
  have HF3 := Lib.hid hf3
  have hB03 := (HBG.out.res.2).trans (hB3.mono HBG.out.res.2.size)
  have HKS := Lib.hid (show ∀ W o', Stp q o1 w3 o' W → W.cell? ⟨b, off, none⟩ = some (.string ⟨k.toArray⟩) ∧ W.cell? ⟨b, off + 1, none⟩ = some (.string ⟨v.toArray⟩) from fun W o' st => ⟨stp_cell st (by rw [HBG.out.old b hbl]; exact hA.2) (cell_below hB03 hk), stp_cell st (by rw [HBG.out.old b hbl]; exact hA.2) (cell_below hB03 hk1)⟩)
  have hcc3 := hf3.call.cell
  have hcl3 := hf3.call.lt
  have hk3 := cell_below hB03 hk
  have hk13 := cell_below hB03 hk1
  have HLAY := Lib.hid (fun (W : World) (hW : Below w3.heap.size w3 W) => tlay_bad (HF3.out.call.below hW) k v hs hs2 0)
  clear hB3 hf3 hB03 HTX HF hcc hcl hk hk1
  go_wp2_with fail
  go_region_held (fun W => (∀ j, W.cell? ⟨cb, j, none⟩ = (callC p now nm (.slice (some ⟨b, off, none⟩) L cap))[j]?) ∧ W.cell? ⟨b, off, none⟩ = some (.string ⟨k.toArray⟩) ∧ W.cell? ⟨b, off + 1, none⟩ = some (.string ⟨v.toArray⟩)) (first | exact ⟨hcc3, hk3, hk13⟩ | exact HC5.out) (first
    | (go_at_call 183
       (with_reducible refine (HLAY.out _ (by first | exact (Below.refl _ _).drew | exact Below.refl _ _)).mono ?_)
       rintro e w5 ⟨rfl, hB5⟩
       have hB5' := (Below.refl _ w3).drew.trans hB5
       have HF5 := Lib.hid (HF3.out.below hB5')
       have HC5 := Lib.hid (And.intro HF5.out.call.cell (HKS.out _ _ (Stp.ofBelow q o1 hB5')))
       clear hB5 hB5'))
  all_goals (
    have HRP := Lib.hid (fun W => lfault_ok W longB)
    unfold txt longB at HRP
    clear HKS HC5 HLAY HF3 hcc3 hcl3 hk3 hk13
    go_wp2_with fail
    refine (HRP.out _).mono ?_; rintro e w6 ⟨rfl, hB6⟩
    have hf6 := HF5.out.below hB6
    have HF6 := Lib.hid hf6
    have hrc := hf6.res.cell
    have hrf := hf6.res.free
    clear hB6 hf6 HF5 HRP
    go_wp2_with fail
    obtain ⟨hj7, hs7⟩ := HF6.out.fin HBG.out (.int .i64 2) (.string ⟨(longB : Tx).toArray⟩) (.int .i64 0) (.slice none 0 0)
    exact bodyPost_ret (v := repV 2 longB 0 (.slice none 0 0)) (by simp [results, Tryz.results114, go_sem, hrc, longB]) rfl ⟨rfl, o1, hj7, hs7⟩)
set_option maxRecDepth 10000 in
set_option maxHeartbeats 4000000 in
theorem getset_bad (h : SpJ o w q p S c) (hq : q ≠ []) {k : Tx} {rest : List Tx} (hcb : Blk o w ρ cb (callC p now nm sv) 108)
    (hv : Vw (fun b => b < w.heap.size ∧ ¬ q <+: o b) w sv 1 (rest.length + 1) ((k :: rest).map txt)) (hbad : S.bad now k = true) :
    Calls Tryz.prog 108 #[.pointer (some ⟨cb, 0, none⟩)] w (RepJ o w q p S c (errF wrongB)) := by
  obtain ⟨o1, m1, hbg, hj⟩ := begin_roles h hq
  have hfr0 := Fr.begin hbg hj hcb
  have hcc := hcb.cell
  have hcl := hcb.lt
  obtain ⟨b, off, cap, rfl, hbl, hA, hcap, hg⟩ := arg_at (args := (k :: rest)) hv (by simp)
  have hk := hg 0 k rfl
  rw [Nat.add_zero] at hk
  have hcapI : (1 : Int) ≤ (cap : Int) := by simp at hcap; omega
  have hlen : (0 : Int) < ((k :: rest).length : Int) := by simp
  have HF := Lib.hid hfr0
  have HBG := Lib.hid hbg
  have htx := ctext_any hfr0.sp hfr0.call k
  rw [hbad] at htx
  have HTX := Lib.hid htx
  clear htx hbad
  generalize S.txt now k = tx at *
  generalize S.is now k = ok at *
  generalize (k :: rest).length = L at *
  clear h hcb hv hbg hj hfr0 hg hcap
  go_enter Tryz.func108, Tryz.ntmps108
  go_wp2_with fail
  refine HTX.out.mono ?_; rintro e w3 ⟨rfl, hB3⟩
  have hf3 := HF.out.below hB3
  have HF3 := Lib.hid hf3
  have hB03 := (HBG.out.res.2).trans (hB3.mono HBG.out.res.2.size)
  have HRP := Lib.hid (fun W => lfault_ok W wrongB)
  unfold txt wrongB at HRP
  clear hB3 hf3 hB03 HTX HF hcc hk
  go_wp2_with fail
  refine (HRP.out _).mono ?_; rintro e w6 ⟨rfl, hB6⟩
  have hf6 := HF3.out.below hB6
  have HF6 := Lib.hid hf6
  have hrc := hf6.res.cell
  have hrf := hf6.res.free
  clear hB6 hf6 HF3 HRP
  go_wp2_with fail
  obtain ⟨hj7, hs7⟩ := HF6.out.fin HBG.out (.int .i64 2) (.string ⟨(wrongB : Tx).toArray⟩) (.int .i64 0) (.slice none 0 0)
  exact bodyPost_ret (v := repV 2 wrongB 0 (.slice none 0 0)) (by simp [results, Tryz.results108, go_sem, hrc, wrongB]) rfl ⟨rfl, o1, hj7, hs7⟩
set_option maxRecDepth 10000 in
set_option maxHeartbeats 4000000 in
theorem getset_put (h : SpJ o w q p S c) (hq : q ≠ []) {k v : Tx} {rest : List Tx} (hcb : Blk o w ρ cb (callC p now nm sv) 108)
    (hv : Vw (fun b => b < w.heap.size ∧ ¬ q <+: o b) w sv 1 (rest.length + 2) ((k :: v :: rest).map txt)) (hok : S.is now k = true) (hbad : S.bad now k = false) (hm1 : ¬ q <+: ρ) (hs : v.length ≤ 1048576) (hc : c.num ≤ 4611686018427387904) (hf : c.few ≤ 1099511627776) :
    Calls Tryz.prog 108 #[.pointer (some ⟨cb, 0, none⟩)] w (RepJ o w q p (S.put k ⟨textV v, 0, c.num + 1⟩) c.next ⟨4, S.txt now k, 0⟩) := by
  obtain ⟨o1, m1, hbg, hj⟩ := begin_roles h hq
  have hfr0 := Fr.begin hbg hj hcb
  have hcc := hcb.cell
  have hcl := hcb.lt
  obtain ⟨b, off, cap, rfl, hbl, hA, hcap, hg⟩ := arg_at (args := (k :: v :: rest)) hv (by simp)
  have hk := hg 0 k rfl
  rw [Nat.add_zero] at hk
  have hk1 := hg 1 v rfl
  have hcapI : (2 : Int) ≤ (cap : Int) := by simp at hcap; omega
  have hlen : (0 : Int) < ((k :: v :: rest).length : Int) := by simp <;> omega
  have HF := Lib.hid hfr0
  have HBG := Lib.hid hbg
  have hlen1 : (1 : Int) < ((k :: v :: rest).length : Int) := by simp <;> omega
  have htx := ctext_any hfr0.sp hfr0.call k
  rw [hbad] at htx
  rw [hok] at htx
  have HTX := Lib.hid htx
  clear htx hbad hok
  generalize S.txt now k = tx at *
  generalize (k :: v :: rest).length = L at *
  clear h hcb hv hbg hj hfr0 hg hcap
  go_enter Tryz.func108, Tryz.ntmps108
  go_wp2_with fail
  refine HTX.out.mono ?_; rintro e w3 ⟨rfl, hB3⟩
  have hf3 := HF.out.below hB3
  have HF3 := Lib.hid hf3
  have hB03 := (HBG.out.res.2).trans (hB3.mono HBG.out.res.2.size)
  have HKS := Lib.hid (show ∀ W o', Stp q o1 w3 o' W → W.cell? ⟨b, off, none⟩ = some (.string ⟨k.toArray⟩) ∧ W.cell? ⟨b, off + 1, none⟩ = some (.string ⟨v.toArray⟩) from fun W o' st => ⟨stp_cell st (by rw [HBG.out.old b hbl]; exact hA.2) (cell_below hB03 hk), stp_cell st (by rw [HBG.out.old b hbl]; exact hA.2) (cell_below hB03 hk1)⟩)
  have hcc3 := hf3.call.cell
  have hcl3 := hf3.call.lt
  have hk3 := cell_below hB03 hk
  have hk13 := cell_below hB03 hk1
  have HLAY := Lib.hid (fun (W : World) (hW : Below w3.heap.size w3 W) => tlay_ok (HF3.out.sp.below hW) (HF3.out.call.below hW) k v hs hc hf 0 (by decide))
  unfold txt at HLAY
  clear hB3 hf3 hB03 HTX HF hcc hcl hk hk1
  go_wp2_with fail
  go_region_held (fun W => (∀ j, W.cell? ⟨cb, j, none⟩ = (callC p now nm (.slice (some ⟨b, off, none⟩) L cap))[j]?) ∧ W.cell? ⟨b, off, none⟩ = some (.string ⟨k.toArray⟩) ∧ W.cell? ⟨b, off + 1, none⟩ = some (.string ⟨v.toArray⟩)) (first | exact ⟨hcc3, hk3, hk13⟩ | exact HC5.out) (first
    | (go_at_call 183
       (with_reducible refine (HLAY.out _ (by first | exact (Below.refl _ _).drew | exact Below.refl _ _)).mono ?_)
       rintro e w5 ⟨rfl, o5, hj5, hs5⟩
       have HF5 := Lib.hid (Fr.put HBG.out hm1 HF3.out hj5 hs5.from1)
       have HC5 := Lib.hid (And.intro HF5.out.call.cell (HKS.out _ _ hs5.from1))
       clear hj5 hs5))
  all_goals (
    have hold := fun W => lold_ok W tx true
    simp only [if_true] at hold
    have HRP := Lib.hid (hold)
    unfold txt at HRP
    clear HKS HC5 HLAY HF3 hcc3 hcl3 hk3 hk13 hold
    go_wp2_with fail
    refine (HRP.out _).mono ?_; rintro e w6 ⟨rfl, hB6⟩
    have hf6 := HF5.out.below hB6
    have HF6 := Lib.hid hf6
    have hrc := hf6.res.cell
    have hrf := hf6.res.free
    clear hB6 hf6 HF5 HRP
    go_wp2_with fail
    obtain ⟨hj7, hs7⟩ := HF6.out.fin HBG.out (.int .i64 4) (.string ⟨(tx : Tx).toArray⟩) (.int .i64 0) (.slice none 0 0)
    exact bodyPost_ret (v := repV 4 tx 0 (.slice none 0 0)) (by simp [results, Tryz.results108, go_sem, hrc]) rfl ⟨rfl, o5, hj7, hs7⟩)
set_option maxRecDepth 10000 in
set_option maxHeartbeats 4000000 in
theorem getset_new (h : SpJ o w q p S c) (hq : q ≠ []) {k v : Tx} {rest : List Tx} (hcb : Blk o w ρ cb (callC p now nm sv) 108)
    (hv : Vw (fun b => b < w.heap.size ∧ ¬ q <+: o b) w sv 1 (rest.length + 2) ((k :: v :: rest).map txt)) (hok : S.is now k = false) (hbad : S.bad now k = false) (hm1 : ¬ q <+: ρ) (hs : v.length ≤ 1048576) (hc : c.num ≤ 4611686018427387904) (hf : c.few ≤ 1099511627776) :
    Calls Tryz.prog 108 #[.pointer (some ⟨cb, 0, none⟩)] w (RepJ o w q p (S.put k ⟨textV v, 0, c.num + 1⟩) c.next ⟨5, [], 0⟩) := by
  obtain ⟨o1, m1, hbg, hj⟩ := begin_roles h hq
  have hfr0 := Fr.begin hbg hj hcb
  have hcc := hcb.cell
  have hcl := hcb.lt
  obtain ⟨b, off, cap, rfl, hbl, hA, hcap, hg⟩ := arg_at (args := (k :: v :: rest)) hv (by simp)
  have hk := hg 0 k rfl
  rw [Nat.add_zero] at hk
  have hk1 := hg 1 v rfl
  have hcapI : (2 : Int) ≤ (cap : Int) := by simp at hcap; omega
  have hlen : (0 : Int) < ((k :: v :: rest).length : Int) := by simp <;> omega
  have HF := Lib.hid hfr0
  have HBG := Lib.hid hbg
  have hlen1 : (1 : Int) < ((k :: v :: rest).length : Int) := by simp <;> omega
  have htx := ctext_any hfr0.sp hfr0.call k
  rw [hbad] at htx
  rw [hok] at htx
  have HTX := Lib.hid htx
  clear htx hbad hok
  generalize S.txt now k = tx at *
  generalize (k :: v :: rest).length = L at *
  clear h hcb hv hbg hj hfr0 hg hcap
  go_enter Tryz.func108, Tryz.ntmps108
  go_wp2_with fail
  refine HTX.out.mono ?_; rintro e w3 ⟨rfl, hB3⟩
  have hf3 := HF.out.below hB3
  have HF3 := Lib.hid hf3
  have hB03 := (HBG.out.res.2).trans (hB3.mono HBG.out.res.2.size)
  have HKS := Lib.hid (show ∀ W o', Stp q o1 w3 o' W → W.cell? ⟨b, off, none⟩ = some (.string ⟨k.toArray⟩) ∧ W.cell? ⟨b, off + 1, none⟩ = some (.string ⟨v.toArray⟩) from fun W o' st => ⟨stp_cell st (by rw [HBG.out.old b hbl]; exact hA.2) (cell_below hB03 hk), stp_cell st (by rw [HBG.out.old b hbl]; exact hA.2) (cell_below hB03 hk1)⟩)
  have hcc3 := hf3.call.cell
  have hcl3 := hf3.call.lt
  have hk3 := cell_below hB03 hk
  have hk13 := cell_below hB03 hk1
  have HLAY := Lib.hid (fun (W : World) (hW : Below w3.heap.size w3 W) => tlay_ok (HF3.out.sp.below hW) (HF3.out.call.below hW) k v hs hc hf 0 (by decide))
  unfold txt at HLAY
  clear hB3 hf3 hB03 HTX HF hcc hcl hk hk1
  go_wp2_with fail
  go_region_held (fun W => (∀ j, W.cell? ⟨cb, j, none⟩ = (callC p now nm (.slice (some ⟨b, off, none⟩) L cap))[j]?) ∧ W.cell? ⟨b, off, none⟩ = some (.string ⟨k.toArray⟩) ∧ W.cell? ⟨b, off + 1, none⟩ = some (.string ⟨v.toArray⟩)) (first | exact ⟨hcc3, hk3, hk13⟩ | exact HC5.out) (first
    | (go_at_call 183
       (with_reducible refine (HLAY.out _ (by first | exact (Below.refl _ _).drew | exact Below.refl _ _)).mono ?_)
       rintro e w5 ⟨rfl, o5, hj5, hs5⟩
       have HF5 := Lib.hid (Fr.put HBG.out hm1 HF3.out hj5 hs5.from1)
       have HC5 := Lib.hid (And.intro HF5.out.call.cell (HKS.out _ _ hs5.from1))
       clear hj5 hs5))
  all_goals (
    have hold := fun W => lold_ok W tx false
    simp only [Bool.false_eq_true, if_false] at hold
    have HRP := Lib.hid (hold)
    unfold txt at HRP
    clear HKS HC5 HLAY HF3 hcc3 hcl3 hk3 hk13 hold
    go_wp2_with fail
    refine (HRP.out _).mono ?_; rintro e w6 ⟨rfl, hB6⟩
    have hf6 := HF5.out.below hB6
    have HF6 := Lib.hid hf6
    have hrc := hf6.res.cell
    have hrf := hf6.res.free
    clear hB6 hf6 HF5 HRP
    go_wp2_with fail
    obtain ⟨hj7, hs7⟩ := HF6.out.fin HBG.out (.int .i64 5) (.string ⟨([] : Tx).toArray⟩) (.int .i64 0) (.slice none 0 0)
    exact bodyPost_ret (v := repV 5 [] 0 (.slice none 0 0)) (by simp [results, Tryz.results108, go_sem, hrc]) rfl ⟨rfl, o5, hj7, hs7⟩)
set_option maxRecDepth 10000 in
set_option maxHeartbeats 4000000 in
theorem getset_long (h : SpJ o w q p S c) (hq : q ≠ []) {k v : Tx} {rest : List Tx} (hcb : Blk o w ρ cb (callC p now nm sv) 108)
    (hv : Vw (fun b => b < w.heap.size ∧ ¬ q <+: o b) w sv 1 (rest.length + 2) ((k :: v :: rest).map txt)) (hbad : S.bad now k = false) (hs : 1048576 < v.length) (hs2 : v.length ≤ 1099511627776) :
    Calls Tryz.prog 108 #[.pointer (some ⟨cb, 0, none⟩)] w (RepJ o w q p S c (errF longB)) := by
  obtain ⟨o1, m1, hbg, hj⟩ := begin_roles h hq
  have hfr0 := Fr.begin hbg hj hcb
  have hcc := hcb.cell
  have hcl := hcb.lt
  obtain ⟨b, off, cap, rfl, hbl, hA, hcap, hg⟩ := arg_at (args := (k :: v :: rest)) hv (by simp)
  have hk := hg 0 k rfl
  rw [Nat.add_zero] at hk
  have hk1 := hg 1 v rfl
  have hcapI : (2 : Int) ≤ (cap : Int) := by simp at hcap; omega
  have hlen : (0 : Int) < ((k :: v :: rest).length : Int) := by simp <;> omega
  have HF := Lib.hid hfr0
  have HBG := Lib.hid hbg
  have hlen1 : (1 : Int) < ((k :: v :: rest).length : Int) := by simp <;> omega
  have htx := ctext_any hfr0.sp hfr0.call k
  rw [hbad] at htx
  have HTX := Lib.hid htx
  clear htx hbad
  generalize S.txt now k = tx at *
  generalize S.is now k = ok at *
  generalize (k :: v :: rest).length = L at *
  clear h hcb hv hbg hj hfr0 hg hcap
  go_enter Tryz.func108, Tryz.ntmps108
  go_wp2_with fail
  refine HTX.out.mono ?_; rintro e w3 ⟨rfl, hB3⟩
  have hf3 := HF.out.below hB3
  have HF3 := Lib.hid hf3
  have hB03 := (HBG.out.res.2).trans (hB3.mono HBG.out.res.2.size)
  have HKS := Lib.hid (show ∀ W o', Stp q o1 w3 o' W → W.cell? ⟨b, off, none⟩ = some (.string ⟨k.toArray⟩) ∧ W.cell? ⟨b, off + 1, none⟩ = some (.string ⟨v.toArray⟩) from fun W o' st => ⟨stp_cell st (by rw [HBG.out.old b hbl]; exact hA.2) (cell_below hB03 hk), stp_cell st (by rw [HBG.out.old b hbl]; exact hA.2) (cell_below hB03 hk1)⟩)
  have hcc3 := hf3.call.cell
  have hcl3 := hf3.call.lt
  have hk3 := cell_below hB03 hk
  have hk13 := cell_below hB03 hk1
  have HLAY := Lib.hid (fun (W : World) (hW : Below w3.heap.size w3 W) => tlay_bad (HF3.out.call.below hW) k v hs hs2 0)
  clear hB3 hf3 hB03 HTX HF hcc hcl hk hk1
  go_wp2_with fail
  go_region_held (fun W => (∀ j, W.cell? ⟨cb, j, none⟩ = (callC p now nm (.slice (some ⟨b, off, none⟩) L cap))[j]?) ∧ W.cell? ⟨b, off, none⟩ = some (.string ⟨k.toArray⟩) ∧ W.cell? ⟨b, off + 1, none⟩ = some (.string ⟨v.toArray⟩)) (first | exact ⟨hcc3, hk3, hk13⟩ | exact HC5.out) (first
    | (go_at_call 183
       (with_reducible refine (HLAY.out _ (by first | exact (Below.refl _ _).drew | exact Below.refl _ _)).mono ?_)
       rintro e w5 ⟨rfl, hB5⟩
       have hB5' := (Below.refl _ w3).drew.trans hB5
       have HF5 := Lib.hid (HF3.out.below hB5')
       have HC5 := Lib.hid (And.intro HF5.out.call.cell (HKS.out _ _ (Stp.ofBelow q o1 hB5')))
       clear hB5 hB5'))
  all_goals (
    have HRP := Lib.hid (fun W => lfault_ok W longB)
    unfold txt longB at HRP
    clear HKS HC5 HLAY HF3 hcc3 hcl3 hk3 hk13
    go_wp2_with fail
    refine (HRP.out _).mono ?_; rintro e w6 ⟨rfl, hB6⟩
    have hf6 := HF5.out.below hB6
    have HF6 := Lib.hid hf6
    have hrc := hf6.res.cell
    have hrf := hf6.res.free
    clear hB6 hf6 HF5 HRP
    go_wp2_with fail
    obtain ⟨hj7, hs7⟩ := HF6.out.fin HBG.out (.int .i64 2) (.string ⟨(longB : Tx).toArray⟩) (.int .i64 0) (.slice none 0 0)
    exact bodyPost_ret (v := repV 2 longB 0 (.slice none 0 0)) (by simp [results, Tryz.results108, go_sem, hrc, longB]) rfl ⟨rfl, o1, hj7, hs7⟩)
end
end Go.Proofs.YthojmgjgmbnopaaGreatDoor
