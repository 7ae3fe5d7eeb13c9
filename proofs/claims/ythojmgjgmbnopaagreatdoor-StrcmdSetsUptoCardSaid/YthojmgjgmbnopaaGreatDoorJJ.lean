import Derived.Test.YthojmgjgmbnopaaGreatDoorIb
import Derived.Deep.QuietTactic
import Derived.BigQuiet
import Derived.Test.YthojmgjgmbnopaaGreatDoorJE
namespace Go.Proofs.YthojmgjgmbnopaaGreatDoor
open Go Go.RowKit
/-! SET without options. -/
section
variable {o : Roles} {w : World} {q : List Nat} {p : Nat} {c : Cnt} {S : SP} {cb : Nat} {ρ : List Nat} {now : Int} {sv : Value} {nm : Tx}
abbrev zSet : Array Value := #[.bool false, .bool false, .bool false, .bool false, .bool false, .int .i64 0]
set_option maxRecDepth 10000 in
set_option maxHeartbeats 4000000 in
theorem options_none {a : Option Addr} {cap : Nat} (hcb : Blk o w ρ cb (callC p now nm (.slice a 2 cap)) 108) :
    Calls Tryz.prog 195 #[.pointer (some ⟨cb, 0, none⟩)] w fun e w' => e = .returned (.tuple #[.agg zSet, .string ⟨#[]⟩]) ∧ Below w.heap.size w w' := by
  have hcc := hcb.cell
  have hcl := hcb.lt
  have HB1 := Lib.hid (((Below.refl w.heap.size w).alloc (Nat.le_refl _) (.cells zSet 209)).alloc (by simp) (.cells zSet 209))
  clear hcb
  go_enter Tryz.func195, Tryz.ntmps195
  go_wp2_with fail
  go_loopw [5] (fun i wr => i = .int .i64 2 ∧ (w.alloc (.cells zSet 209)).alloc (.cells zSet 209) = wr) (fun _ _ => 0)
  case atStart => exact ⟨rfl, rfl⟩
  case round =>
    obtain ⟨rfl, rfl⟩ := hrel
    go_wp2_with fail
    exact bodyPost_ret (v := .tuple #[.agg zSet, .string ⟨#[]⟩]) (by simp [results, Tryz.results195, go_sem]) rfl ⟨rfl, HB1.out⟩
set_option maxRecDepth 10000 in
set_option maxHeartbeats 4000000 in
theorem set_plain (h : SpJ o w q p S c) (hq : q ≠ []) {k v : Tx} (hcb : Blk o w ρ cb (callC p now nm sv) 108)
    (hv : Vw (fun b => b < w.heap.size ∧ ¬ q <+: o b) w sv 1 2 ([k, v].map txt)) (hm1 : ¬ q <+: ρ) (hs : v.length ≤ 1048576) (hc : c.num ≤ 4611686018427387904) (hf : c.few ≤ 1099511627776) :
    Calls Tryz.prog 112 #[.pointer (some ⟨cb, 0, none⟩)] w (RepJ o w q p (S.put k ⟨textV v, 0, c.num + 1⟩) c.next ⟨1, [79, 75], 0⟩) := by
  obtain ⟨o1, m1, hbg, hj⟩ := begin_roles h hq
  have hfr0 := Fr.begin hbg hj hcb
  have hcc := hcb.cell
  have hcl := hcb.lt
  obtain ⟨b, off, cap, rfl, hbl, hA, hcap, hg⟩ := arg_at (args := [k, v]) hv (by simp)
  have hk := hg 0 k rfl
  rw [Nat.add_zero] at hk
  have hk1 := hg 1 v rfl
  have hcapI : (2 : Int) ≤ (cap : Int) := by simp at hcap; omega
  have hlen : (0 : Int) < ([k, v].length : Int) := by simp <;> omega
  have HF := Lib.hid hfr0
  have HBG := Lib.hid hbg
  have hlen1 : (1 : Int) < ([k, v].length : Int) := by simp <;> omega
  have HOP := Lib.hid (options_none hfr0.call)
  have HNA := Lib.hid hA
  have HK0 := Lib.hid hk
  have HK1 := Lib.hid hk1
  clear h hcb hv hbg hj hfr0 hg hcap hlen hlen1
  go_enter Tryz.func112, Tryz.ntmps112
  go_wp2_with fail
  refine HOP.out.mono ?_; rintro e w1 ⟨rfl, hB1⟩
  have hf1 := HF.out.below hB1
  have hB01 := (HBG.out.res.2).trans (hB1.mono HBG.out.res.2.size)
  have hcc1 := hf1.call.cell
  have hcl1 := hf1.call.lt
  have hbl1 : b < w1.heap.size := Nat.lt_of_lt_of_le hbl hB01.size
  have hk01 := cell_below hB01 hk
  have hk11 := cell_below hB01 hk1
  have hbs : Blk o1 (w1.alloc (.cells zSet 209)) [m1 + 2] w1.heap.size zSet 209 := ⟨heap_alloc_new w1 _, HBG.out.new _ hB01.size⟩
  have hB2 : Below w1.heap.size w1 (w1.alloc (.cells zSet 209)) := lit_below w1 _
  have HB02 := Lib.hid (hB01.trans (hB2.mono hB01.size))
  have HF2 := Lib.hid (hf1.below hB2)
  have HBS := Lib.hid hbs
  have HTX := Lib.hid (fun (W : World) (hW : Below (w1.alloc (.cells zSet 209)).heap.size (w1.alloc (.cells zSet 209)) W) => ctext_any (HF2.out.sp.below hW) (HF2.out.call.below hW) k)
  generalize S.txt now k = tx at *
  generalize S.is now k = ok at *
  generalize S.bad now k = wr at *
  clear hB1 hf1 hB01 hbs hB2 HOP HF hcc hcl hk hk1
  go_wp2_with fail
  go_quiet (fail)
  go_wp2_with fail
  refine (HTX.out _ (below_drewN (Below.refl _ _) _)).mono ?_; rintro e w3 ⟨rfl, hB3⟩
  have hB3' := (below_drewN (Below.refl _ (w1.alloc (.cells zSet 209))) nq).trans hB3
  have hf3 := HF2.out.below hB3'
  have HF3 := Lib.hid hf3
  have hbs3 := HBS.out.below hB3'
  have HBS3 := Lib.hid hbs3
  have hsc := hbs3.cell
  have hsl := hbs3.lt
  have HLAY := Lib.hid (tlay_ok hf3.sp hf3.call k v hs hc hf 0 (by decide))
  unfold txt at HLAY
  clear hB3 hB3' hf3 hbs3 HTX HF2 HBS hcc1 hcl1 hk01 hk11
  cases wr
  all_goals (
    cases ok
    all_goals (
      go_wp2_with fail
      refine HLAY.out.mono ?_; rintro e w5 ⟨rfl, o5, hj5, hs5⟩
      have HF5 := Lib.hid (Fr.put HBG.out hm1 HF3.out hj5 hs5)
      have hb5 := HBS3.out.keep hs5 (HBG.out.aq 2).not
      have hsc5 := hb5.cell
      have hsl5 := hb5.lt
      clear hj5 hs5 hb5 HBS3 HF3 HLAY hsc hsl
      go_wp2_with fail
      have HRP := Lib.hid (fun W => lfine_ok W)
      clear hsc5 hsl5
      go_wp2_with fail
      refine (HRP.out _).mono ?_; rintro e w6 ⟨rfl, hB6⟩
      have hf6 := HF5.out.below hB6
      have HF6 := Lib.hid hf6
      have hrc := hf6.res.cell
      have hrf := hf6.res.free
      clear hB6 hf6 HF5 HRP
      go_wp2_with fail
      obtain ⟨hj7, hs7⟩ := HF6.out.fin HBG.out (.int .i64 1) (.string ⟨([79, 75] : Tx).toArray⟩) (.int .i64 0) (.slice none 0 0)
      exact bodyPost_ret (v := repV 1 [79, 75] 0 (.slice none 0 0)) (by simp [results, Tryz.results112, go_sem, hrc]) rfl ⟨rfl, o5, hj7, hs7⟩))
end
end Go.Proofs.YthojmgjgmbnopaaGreatDoor
namespace Go.Proofs.YthojmgjgmbnopaaGreatDoor
open Go Go.RowKit
/-! GETDEL, MSET, MSETNX. -/
section
variable {o : Roles} {w : World} {q : List Nat} {p : Nat} {c : Cnt} {S : SP} {cb : Nat} {ρ : List Nat} {now : Int} {sv : Value} {nm : Tx}
theorem is_some {k : Tx} (h : S.is now k = true) : ∃ H, S k = some H := by
  unfold SP.is at h
  obtain ⟨H, e⟩ := Option.isSome_iff_exists.1 h
  exact ⟨H, (SP.at_some e).1⟩
set_option maxRecDepth 10000 in
set_option maxHeartbeats 4000000 in
theorem getdel_bad (h : SpJ o w q p S c) (hq : q ≠ []) {k : Tx} {rest : List Tx} (hcb : Blk o w ρ cb (callC p now nm sv) 108)
    (hv : Vw (fun b => b < w.heap.size ∧ ¬ q <+: o b) w sv 1 (rest.length + 1) ((k :: rest).map txt)) (hbad : S.bad now k = true) :
    Calls Tryz.prog 105 #[.pointer (some ⟨cb, 0, none⟩)] w (RepJ o w q p S c (errF wrongB)) := by
  obtain ⟨o1, m1, hbg, hj⟩ := begin_roles h hq
  have hfr0 := Fr.begin hbg hj hcb
  have hcc := hcb.cell
  have hcl := hcb.lt
  obtain ⟨b, off, cap, rfl, hbl, hA, hcap, hg⟩ := arg_at (args := (k :: rest)) hv (by simp)
  have hk := hg 0 k rfl
  rw [Nat.add_zero] at hk
  have hcapI : (1 : Int) ≤ (cap : Int) := by simp at hcap; omega
  have hlen : (0 : Int) < ((k :: rest).length : Int) := by simp
  have HF := Lib.hid hfr0
  have HBG := Lib.hid hbg
  have htx := ctext_any hfr0.sp hfr0.call k
  rw [hbad] at htx
  have HTX := Lib.hid htx
  clear htx hbad
  generalize S.txt now k = tx at *
  generalize S.is now k = ok at *
  generalize (k :: rest).length = L at *
  clear h hcb hv hbg hj hfr0 hg hcap
  go_enter Tryz.func105, Tryz.ntmps105
  go_wp2_with fail
  refine HTX.out.mono ?_; rintro e w3 ⟨rfl, hB3⟩
  have hf3 := HF.out.below hB3
  have HF3 := Lib.hid hf3
  have hB03 := (HBG.out.res.2).trans (hB3.mono HBG.out.res.2.size)
  have HRP := Lib.hid (fun W => lfault_ok W wrongB)
  unfold txt wrongB at HRP
  clear hB3 hf3 hB03 HTX HF hcc hk
  go_wp2_with fail
  refine (HRP.out _).mono ?_; rintro e w6 ⟨rfl, hB6⟩
  have hf6 := HF3.out.below hB6
  have HF6 := Lib.hid hf6
  have hrc := hf6.res.cell
  have hrf := hf6.res.free
  clear hB6 hf6 HF3 HRP
  go_wp2_with fail
  obtain ⟨hj7, hs7⟩ := HF6.out.fin HBG.out (.int .i64 2) (.string ⟨(wrongB : Tx).toArray⟩) (.int .i64 0) (.slice none 0 0)
  exact bodyPost_ret (v := repV 2 wrongB 0 (.slice none 0 0)) (by simp [results, Tryz.results105, go_sem, hrc, wrongB]) rfl ⟨rfl, o1, hj7, hs7⟩
set_option maxRecDepth 10000 in
set_option maxHeartbeats 4000000 in
theorem getdel_none (h : SpJ o w q p S c) (hq : q ≠ []) {k : Tx} {rest : List Tx} (hcb : Blk o w ρ cb (callC p now nm sv) 108)
    (hv : Vw (fun b => b < w.heap.size ∧ ¬ q <+: o b) w sv 1 (rest.length + 1) ((k :: rest).map txt)) (hok : S.is now k = false) (hbad : S.bad now k = false) :
    Calls Tryz.prog 105 #[.pointer (some ⟨cb, 0, none⟩)] w (RepJ o w q p S c ⟨5, [], 0⟩) := by
  obtain ⟨o1, m1, hbg, hj⟩ := begin_roles h hq
  have hfr0 := Fr.begin hbg hj hcb
  have hcc := hcb.cell
  have hcl := hcb.lt
  obtain ⟨b, off, cap, rfl, hbl, hA, hcap, hg⟩ := arg_at (args := (k :: rest)) hv (by simp)
  have hk := hg 0 k rfl
  rw [Nat.add_zero] at hk
  have hcapI : (1 : Int) ≤ (cap : Int) := by simp at hcap; omega
  have hlen : (0 : Int) < ((k :: rest).length : Int) := by simp
  have HF := Lib.hid hfr0
  have HBG := Lib.hid hbg
  have htx := ctext_any hfr0.sp hfr0.call k
  rw [hbad] at htx
  rw [hok] at htx
  have HTX := Lib.hid htx
  clear htx hbad hok
  generalize S.txt now k = tx at *
  generalize (k :: rest).length = L at *
  clear h hcb hv hbg hj hfr0 hg hcap
  go_enter Tryz.func105, Tryz.ntmps105
  go_wp2_with fail
  refine HTX.out.mono ?_; rintro e w3 ⟨rfl, hB3⟩
  have hf3 := HF.out.below hB3
  have HF3 := Lib.hid hf3
  have hB03 := (HBG.out.res.2).trans (hB3.mono HBG.out.res.2.size)
  have hold := fun W => lold_ok W tx false
  simp only [Bool.false_eq_true, if_false] at hold
  have HRP := Lib.hid (hold)
  unfold txt at HRP
  clear hB3 hf3 hB03 HTX HF hcc hk hold
  go_wp2_with fail
  refine (HRP.out _).mono ?_; rintro e w6 ⟨rfl, hB6⟩
  have hf6 := HF3.out.below hB6
  have HF6 := Lib.hid hf6
  have hrc := hf6.res.cell
  have hrf := hf6.res.free
  clear hB6 hf6 HF3 HRP
  go_wp2_with fail
  obtain ⟨hj7, hs7⟩ := HF6.out.fin HBG.out (.int .i64 5) (.string ⟨([] : Tx).toArray⟩) (.int .i64 0) (.slice none 0 0)
  exact bodyPost_ret (v := repV 5 [] 0 (.slice none 0 0)) (by simp [results, Tryz.results105, go_sem, hrc]) rfl ⟨rfl, o1, hj7, hs7⟩
set_option maxRecDepth 10000 in
set_option maxHeartbeats 4000000 in
theorem getdel_ok (h : SpJ o w q p S c) (hq : q ≠ []) {k : Tx} {rest : List Tx} (hcb : Blk o w ρ cb (callC p now nm sv) 108)
    (hv : Vw (fun b => b < w.heap.size ∧ ¬ q <+: o b) w sv 1 (rest.length + 1) ((k :: rest).map txt)) (hok : S.is now k = true) (hbad : S.bad now k = false) (hm1 : ¬ q <+: ρ) (hc : c.num ≤ 4611686018427387904) (hf : c.few ≤ 1099511627777) :
    Calls Tryz.prog 105 #[.pointer (some ⟨cb, 0, none⟩)] w (RepJ o w q p (S.del k) c.touch ⟨4, S.txt now k, 0⟩) := by
  obtain ⟨o1, m1, hbg, hj⟩ := begin_roles h hq
  have hfr0 := Fr.begin hbg hj hcb
  have hcc := hcb.cell
  have hcl := hcb.lt
  obtain ⟨b, off, cap, rfl, hbl, hA, hcap, hg⟩ := arg_at (args := (k :: rest)) hv (by simp)
  have hk := hg 0 k rfl
  rw [Nat.add_zero] at hk
  have hcapI : (1 : Int) ≤ (cap : Int) := by simp at hcap; omega
  have hlen : (0 : Int) < ((k :: rest).length : Int) := by simp
  have HF := Lib.hid hfr0
  have HBG := Lib.hid hbg
  obtain ⟨HH, hSk⟩ := is_some hok
  have htx := ctext_any hfr0.sp hfr0.call k
  rw [hbad] at htx
  rw [hok] at htx
  have HTX := Lib.hid htx
  clear htx hbad hok
  generalize S.txt now k = tx at *
  generalize (k :: rest).length = L at *
  clear h hcb hv hbg hj hfr0 hg hcap
  go_enter Tryz.func105, Tryz.ntmps105
  go_wp2_with fail
  refine HTX.out.mono ?_; rintro e w3 ⟨rfl, hB3⟩
  have hf3 := HF.out.below hB3
  have HF3 := Lib.hid hf3
  have hB03 := (HBG.out.res.2).trans (hB3.mono HBG.out.res.2.size)
  have HKS := Lib.hid (show ∀ W o', Stp q o1 w3 o' W → W.cell? ⟨b, off, none⟩ = some (.string ⟨k.toArray⟩) from fun W o' st => stp_cell st (by rw [HBG.out.old b hbl]; exact hA.2) (cell_below hB03 hk))
  have hcc3 := hf3.call.cell
  have hcl3 := hf3.call.lt
  have hk3 := cell_below hB03 hk
  have HDR := Lib.hid (fun (W : World) (hW : Below w3.heap.size w3 W) => jdrop_ok (hf3.sp.below hW) k hSk hc hf)
  unfold txt at HDR
  clear hB3 hf3 hB03 HTX HF hcc hcl hk hSk
  go_wp2_with fail
  go_region_held (fun W => (∀ j, W.cell? ⟨cb, j, none⟩ = (callC p now nm (.slice (some ⟨b, off, none⟩) L cap))[j]?) ∧ W.cell? ⟨b, off, none⟩ = some (.string ⟨k.toArray⟩)) (first | exact ⟨hcc3, hk3⟩ | exact HC5.out) (first
    | (go_at_call 128
       (with_reducible refine (HDR.out _ (by first | exact (Below.refl _ _).drew | exact Below.refl _ _)).mono ?_)
       rintro e w5 ⟨rfl, o5, hj5, hs5⟩
       have HF5 := Lib.hid (Fr.put HBG.out hm1 HF3.out hj5 hs5.from1)
       have HC5 := Lib.hid (And.intro HF5.out.call.cell (HKS.out _ _ hs5.from1))
       clear hj5 hs5))
  all_goals (
    have hold := fun W => lold_ok W tx true
    simp only [if_true] at hold
    have HRP := Lib.hid (hold)
    unfold txt at HRP
    clear HKS HC5 HDR HF3 hcc3 hcl3 hk3 hold
    go_wp2_with fail
    refine (HRP.out _).mono ?_; rintro e w6 ⟨rfl, hB6⟩
    have hf6 := HF5.out.below hB6
    have HF6 := Lib.hid hf6
    have hrc := hf6.res.cell
    have hrf := hf6.res.free
    clear hB6 hf6 HF5 HRP
    go_wp2_with fail
    obtain ⟨hj7, hs7⟩ := HF6.out.fin HBG.out (.int .i64 4) (.string ⟨(tx : Tx).toArray⟩) (.int .i64 0) (.slice none 0 0)
    exact bodyPost_ret (v := repV 4 tx 0 (.slice none 0 0)) (by simp [results, Tryz.results105, go_sem, hrc]) rfl ⟨rfl, o5, hj7, hs7⟩)
def msetnxB : Tx := [109, 115, 101, 116, 110, 120]
set_option maxRecDepth 10000 in
set_option maxHeartbeats 4000000 in
theorem msetnx_there (h : SpJ o w q p S c) (hq : q ≠ []) {k : Tx} {rest : List Tx} (hcb : Blk o w ρ cb (callC p now msetnxB sv) 108)
    (hv : Vw (fun b => b < w.heap.size ∧ ¬ q <+: o b) w sv 1 (rest.length + 1) ((k :: rest).map txt)) (hok : S.is now k = true) (hrl : rest.length % 2 = 1) :
    Calls Tryz.prog 110 #[.pointer (some ⟨cb, 0, none⟩)] w (RepJ o w q p S c ⟨3, [], 0⟩) := by
  obtain ⟨o1, m1, hbg, hj⟩ := begin_roles h hq
  have hfr0 := Fr.begin hbg hj hcb
  have hcc := hcb.cell
  have hcl := hcb.lt
  obtain ⟨b, off, cap, rfl, hbl, hA, hcap, hg⟩ := arg_at (args := (k :: rest)) hv (by simp)
  have hk := hg 0 k rfl
  rw [Nat.add_zero] at hk
  have hcapI : (1 : Int) ≤ (cap : Int) := by simp at hcap; omega
  have hlen : (0 : Int) < ((k :: rest).length : Int) := by simp
  have HF := Lib.hid hfr0
  have HBG := Lib.hid hbg
  have hth := there_any hfr0.sp hfr0.call k
  rw [hok] at hth
  have HTX := Lib.hid hth
  clear hth hok
  have hrem : ((k :: rest).length : Int).tmod 2 = 0 := by
    rw [Int.tmod_eq_emod_of_nonneg (by omega)]
    simp only [List.length_cons]; omega
  generalize (k :: rest).length = L at *
  clear h hcb hv hbg hj hfr0 hg hcap hrl
  unfold msetnxB at *
  go_enter Tryz.func110, Tryz.ntmps110
  go_wp2_with fail
  go_loopw [3] (fun i wr => i = .int .i64 0 ∧ w.alloc (.cells zRepC 30) = wr) (fun _ _ => 0)
  case atStart => exact ⟨rfl, rfl⟩
  case round =>
    obtain ⟨rfl, rfl⟩ := hrel
    go_wp2_with fail
    refine HTX.out.mono ?_; rintro e w3 ⟨rfl, hB3⟩
    have hf3 := HF.out.below hB3
    have HF3 := Lib.hid hf3
    have HRP := Lib.hid (fun W => lnumber_ok W 0)
    clear hB3 hf3 HTX HF hcc hk
    go_wp2_with fail
    refine (HRP.out _).mono ?_; rintro e w6 ⟨rfl, hB6⟩
    have hf6 := HF3.out.below hB6
    have HF6 := Lib.hid hf6
    have hrc := hf6.res.cell
    have hrf := hf6.res.free
    clear hB6 hf6 HF3 HRP
    go_wp2_with fail
    obtain ⟨hj7, hs7⟩ := HF6.out.fin HBG.out (.int .i64 3) (.string ⟨([] : Tx).toArray⟩) (.int .i64 0) (.slice none 0 0)
    exact bodyPost_ret (v := repV 3 [] 0 (.slice none 0 0)) (by simp [results, Tryz.results110, go_sem, hrc]) rfl ⟨rfl, o1, hj7, hs7⟩
end
end Go.Proofs.YthojmgjgmbnopaaGreatDoor
namespace Go.Proofs.YthojmgjgmbnopaaGreatDoor
open Go Go.RowKit
/-! MSET of any pairs. -/
def msetS : List (Tx × Tx) → SP → Cnt → SP × Cnt
  | [], S, c => (S, c)
  | x :: t, S, c => msetS t (S.put x.1 ⟨textV x.2, 0, c.num + 1⟩) c.next
theorem msetS_snoc : ∀ (a : List (Tx × Tx)) (x : Tx × Tx) (S : SP) (c : Cnt), msetS (a ++ [x]) S c = ((msetS a S c).1.put x.1 ⟨textV x.2, 0, (msetS a S c).2.num + 1⟩, (msetS a S c).2.next)
  | [], _, _, _ => rfl
  | _ :: a, x, _, _ => msetS_snoc a x _ _
theorem msetS_cnt : ∀ (a : List (Tx × Tx)) (S : SP) (c : Cnt), (msetS a S c).2.num = c.num + a.length ∧ (msetS a S c).2.few = c.few + a.length
  | [], _, _ => ⟨rfl, rfl⟩
  | y :: a, S, c => by
    have h := msetS_cnt a (S.put y.1 ⟨textV y.2, 0, c.num + 1⟩) c.next
    unfold msetS
    rw [h.1, h.2]
    unfold Cnt.next
    simp only [List.length_cons]
    omega
def pairsL (l : List (Tx × Tx)) : List Tx := l.flatMap fun x => [x.1, x.2]
theorem pairs_len : ∀ l : List (Tx × Tx), (pairsL l).length = 2 * l.length
  | [] => rfl
  | x :: t => by
    have := pairs_len t
    unfold pairsL at *
    rw [List.flatMap_cons, List.length_append, this]
    simp only [List.length_cons, List.length_nil]; omega
theorem pair_get : ∀ (l : List (Tx × Tx)) (i : Nat) (x : Tx × Tx), l[i]? = some x → (pairsL l)[2 * i]? = some x.1 ∧ (pairsL l)[2 * i + 1]? = some x.2
  | [], _, _, h => by simp at h
  | y :: t, 0, x, h => by simp at h; subst h; exact ⟨rfl, rfl⟩
  | y :: t, i + 1, x, h => by
    have := pair_get t i x (by simpa using h)
    unfold pairsL at *
    rw [List.flatMap_cons, show 2 * (i + 1) = 2 * i + 2 by omega]
    exact this
section
variable {o : Roles} {w : World} {q : List Nat} {p : Nat} {c : Cnt} {S : SP} {cb : Nat} {ρ : List Nat} {now : Int} {sv : Value} {nm : Tx}
def MsRel (o : Roles) (w : World) (q : List Nat) (p m1 : Nat) (ρ : List Nat) (cb : Nat) (cs : Array Value) (S : SP) (c : Cnt) (l : List (Tx × Tx)) (i : Value) (wr : World) : Prop :=
  ∃ (j m : Nat) (ox : Roles), m = 2 * j ∧ j ≤ l.length ∧ i = .int .i64 (m : Int) ∧ Fr o w q p m1 ρ cb cs (msetS (l.take j) S c).1 (msetS (l.take j) S c).2 ox wr
set_option maxRecDepth 10000 in
set_option maxHeartbeats 4000000 in
theorem mset_ok (h : SpJ o w q p S c) (hq : q ≠ []) {l : List (Tx × Tx)} (hcb : Blk o w ρ cb (callC p now nm sv) 108) (hm1 : ¬ q <+: ρ)
    (hv : Vw (fun b => b < w.heap.size ∧ ¬ q <+: o b) w sv 1 (pairsL l).length ((pairsL l).map txt)) (h0 : 0 < l.length) (hl : l.length ≤ 1099511627776) (hs : ∀ x ∈ l, x.2.length ≤ 1048576) (hnm : (nm == msetnxB) = false)
    (hc : c.num + l.length ≤ 4611686018427387904) (hf : c.few + l.length ≤ 1099511627776) :
    Calls Tryz.prog 110 #[.pointer (some ⟨cb, 0, none⟩)] w (RepJ o w q p (msetS l S c).1 (msetS l S c).2 ⟨1, [79, 75], 0⟩) := by
  obtain ⟨o1, m1, hbg, hj⟩ := begin_roles h hq
  have hfr0 := Fr.begin hbg hj hcb
  have hcc := hcb.cell
  have hcl := hcb.lt
  have hpl := pairs_len l
  obtain ⟨b, off, cap, rfl, hbl, hA, hcap, hg⟩ := arg_at hv (by omega)
  have hrem : ((pairsL l).length : Int).tmod 2 = 0 := by
    rw [Int.tmod_eq_emod_of_nonneg (by omega)]; omega
  have HG := Lib.hid (fun (i : Nat) (x : Tx × Tx) (hx : l[i]? = some x) => And.intro (hg _ _ (pair_get l i x hx).1) (hg _ _ (pair_get l i x hx).2))
  have HAT := Lib.hid (show MsRel o w q p m1 ρ cb (callC p now nm (.slice (some ⟨b, off, none⟩) (pairsL l).length cap)) S c l (.int .i64 0) (w.alloc (.cells zRepC 30)) from ⟨0, 0, o1, rfl, Nat.zero_le _, rfl, hfr0⟩)
  have HBG := Lib.hid hbg
  have HNA := Lib.hid (show ¬ q <+: o b from hA.2)
  have HS := Lib.hid hs
  have HCF := Lib.hid (And.intro hc hf)
  have HPL := Lib.hid hpl
  clear h hcb hv hbg hj hfr0 hg hs hA hc hf
  generalize (pairsL l).length = L at *
  unfold msetnxB at *
  go_enter Tryz.func110, Tryz.ntmps110
  go_wp2_with fail
  go_loopw [3] (fun i wr => ∃ m : Nat, i = .int .i64 (m : Int) ∧ m ≤ L + 2 ∧ w.alloc (.cells zRepC 30) = wr) (fun i _ => L + 2 - (intOf i).toNat)
  case atStart => exact ⟨0, rfl, by omega, rfl⟩
  case round =>
    obtain ⟨m, rfl, hm, rfl⟩ := hrel
    by_cases hml : m < L
    · have hmI : (m : Int) < L := by omega
      have hw : IntKind.i64.wrap ((m : Int) + 2) = (m : Int) + 2 := by rw [IntKind.wrap_i64]; have := HPL.out; omega
      go_wp2_with fail
      go_roundw
      case rel => exact ⟨m + 2, by go_num, by omega, by first | rfl | trivial⟩
      case measure => simp [intOf]; omega
    · have hmI : ¬ (m : Int) < L := by omega
      clear hml hm
      go_wp2_with fail
      go_loopw [4] (fun i wr => ∃ j m : Nat, m = 2 * j + 1 ∧ i = .int .i64 (m : Int) ∧ j ≤ l.length ∧ w.alloc (.cells zRepC 30) = wr) (fun i _ => L + 2 - (intOf i).toNat)
      case atStart => exact ⟨0, 1, rfl, rfl, Nat.zero_le _, rfl⟩
      case round =>
        obtain ⟨j, m', hmj, rfl, hj, rfl⟩ := hrel
        clear hmI
        by_cases hjl : j < l.length
        · obtain ⟨x, hx⟩ : ∃ x, l[j]? = some x := ⟨_, List.getElem?_eq_getElem hjl⟩
          have hcx := (HG.out j x hx).2
          have hsx := HS.out x (List.mem_of_getElem? hx)
          rw [← hmj] at hcx
          have hsI : ¬ (1048576 : Int) < x.2.length := by omega
          have hm0 : (0 : Int) ≤ m' := by omega
          have hmI : (m' : Int) < L := by have := HPL.out; omega
          have hw : IntKind.i64.wrap ((m' : Int) + 2) = (m' : Int) + 2 := by rw [IntKind.wrap_i64]; have := HPL.out; omega
          have htn : ((m' : Int)).toNat = m' := by omega
          have HJ := Lib.hid (And.intro hjl hmj)
          clear hjl hx hsx hmj
          go_wp2_with fail
          go_roundw
          case rel => exact ⟨j + 1, m' + 2, by have := HJ.out.2; omega, by go_num, HJ.out.1, by first | rfl | trivial⟩
          case measure => have := HJ.out; have := HPL.out; simp [intOf]; omega
        · have hmI : ¬ (m' : Int) < L := by have := HPL.out; omega
          clear hjl hj hmj
          go_wp2_with fail
          go_loopw [5] (fun i wr => MsRel o w q p m1 ρ cb (callC p now nm (.slice (some ⟨b, off, none⟩) L cap)) S c l i wr) (fun i _ => L + 2 - (intOf i).toNat)
          case atStart => exact HAT.out
          case round =>
            obtain ⟨j, n, ox, hn, hj, rfl, hfr⟩ := hrel
            clear HAT hmI
            have hcx := hfr.call.cell
            have hlx := hfr.call.lt
            by_cases hjl : j < l.length
            · obtain ⟨x, hx⟩ : ∃ x, l[j]? = some x := ⟨_, List.getElem?_eq_getElem hjl⟩
              have hc2 := HG.out j x hx
              rw [← hn] at hc2
              have hsx := HS.out x (List.mem_of_getElem? hx)
              have HKS := Lib.hid (show ∀ W o', Stp q o w o' W → W.cell? ⟨b, off + n, none⟩ = some (.string ⟨x.1.toArray⟩) ∧ W.cell? ⟨b, off + (n + 1), none⟩ = some (.string ⟨x.2.toArray⟩) from fun W o' st => ⟨stp_cell st HNA.out hc2.1, stp_cell st HNA.out hc2.2⟩)
              have hca := (HKS.out _ _ hfr.st).1
              have hcb2 := (HKS.out _ _ hfr.st).2
              have hblx : b < wr.heap.size := Nat.lt_of_lt_of_le hbl hfr.st.size
              have hcnt := msetS_cnt (l.take j) S c
              rw [List.length_take, Nat.min_eq_left hj] at hcnt
              have HLAY := Lib.hid (fun (W : World) (hW : Below wr.heap.size wr W) => tlay_ok (hfr.sp.below hW) (hfr.call.below hW) x.1 x.2 hsx (by have := HCF.out.1; omega) (by have := HCF.out.2; omega) 0 (by decide))
              have hst : (msetS (l.take (j + 1)) S c) = ((msetS (l.take j) S c).1.put x.1 ⟨textV x.2, 0, (msetS (l.take j) S c).2.num + 1⟩, (msetS (l.take j) S c).2.next) := by rw [List.take_add_one, hx]; exact msetS_snoc _ _ _ _
              have HST := Lib.hid hst
              have hm0 : (0 : Int) ≤ n := by omega
              have hmI : (n : Int) < L := by have := HPL.out; omega
              have hmI2 : (n : Int) + 1 < L := by have := HPL.out; omega
              have hm2 : (0 : Int) ≤ (n : Int) + 1 := by omega
              have hw1 : IntKind.i64.wrap ((n : Int) + 1) = (n : Int) + 1 := by rw [IntKind.wrap_i64]; have := HPL.out; omega
              have hw : IntKind.i64.wrap ((n : Int) + 2) = (n : Int) + 2 := by rw [IntKind.wrap_i64]; have := HPL.out; omega
              have htn : ((n : Int) + 1).toNat = n + 1 := by omega
              have HFR := Lib.hid hfr
              have HJ := Lib.hid (And.intro hjl hn)
              unfold txt at HLAY
              clear hfr hx hsx hcnt hst hjl hj hn hc2
              go_wp2_with fail
              go_region_held (fun W => (∀ j, W.cell? ⟨cb, j, none⟩ = (callC p now nm (.slice (some ⟨b, off, none⟩) L cap))[j]?) ∧ W.cell? ⟨b, off + n, none⟩ = some (.string ⟨x.1.toArray⟩) ∧ W.cell? ⟨b, off + (n + 1), none⟩ = some (.string ⟨x.2.toArray⟩)) (first | exact ⟨hcx, hca, hcb2⟩ | exact HC5.out) (first
                | (go_at_call 183
                   (with_reducible refine (HLAY.out _ (by first | exact (Below.refl _ _).drew | exact Below.refl _ _)).mono ?_)
                   rintro e w5 ⟨rfl, o5, hj5, hs5⟩
                   have HF5 := Lib.hid (Fr.put HBG.out hm1 HFR.out hj5 hs5.from1)
                   have HC5 := Lib.hid (And.intro HF5.out.call.cell (HKS.out _ _ HF5.out.st))
                   clear hj5 hs5))
              all_goals (
                have D := Lib.hid (show MsRel o w q p m1 ρ cb (callC p now nm (.slice (some ⟨b, off, none⟩) L cap)) S c l (.int .i64 ((n + 2 : Nat) : Int)) w5 from ⟨j + 1, n + 2, o5, by have := HJ.out.2; omega, HJ.out.1, rfl, by rw [HST.out]; exact HF5.out⟩)
                clear HF5 HC5 HKS HFR HLAY
                go_wp2_with fail
                go_roundw
                case rel => exact D.out
                case measure => simp [intOf]; omega)
            · have hmI : ¬ (n : Int) < L := by have := HPL.out; omega
              have hje : j = l.length := by omega
              subst hje
              rw [List.take_length] at hfr
              have HF5 := Lib.hid hfr
              clear hfr hjl hj hn
              have hnm2 := hnm
              go_wp2_with fail
              have HRP := Lib.hid (fun W => lfine_ok W)
              clear hcx hlx
              go_wp2_with fail
              refine (HRP.out _).mono ?_; rintro e w6 ⟨rfl, hB6⟩
              have hf6 := HF5.out.below hB6
              have HF6 := Lib.hid hf6
              have hrc := hf6.res.cell
              have hrf := hf6.res.free
              clear hB6 hf6 HF5 HRP
              go_wp2_with fail
              obtain ⟨hj7, hs7⟩ := HF6.out.fin HBG.out (.int .i64 1) (.string ⟨([79, 75] : Tx).toArray⟩) (.int .i64 0) (.slice none 0 0)
              exact bodyPost_ret (v := repV 1 [79, 75] 0 (.slice none 0 0)) (by simp [results, Tryz.results110, go_sem, hrc]) rfl ⟨rfl, ox, hj7, hs7⟩
end
end Go.Proofs.YthojmgjgmbnopaaGreatDoor
namespace Go.Proofs.YthojmgjgmbnopaaGreatDoor
open Go Go.RowKit
/-! The law's runs at tick 0. -/
/-- A reply of a law's run, and where it leaves the law. -/
def RunQ (w0 : World) (p n : Nat) (r : RP) (K : SP → Prop) (e : Ending) (w' : World) : Prop :=
  ∃ v, e = .returned (repV r.kind r.text r.n v) ∧ Vw (fun _ => True) w' v 4 r.list.length (rfsC r.list) ∧ ∃ o' S' c', At w0 o' w' p S' c' (n + 2) ∧ K S'
section
variable {o : Roles} {w w0 : World} {p n : Nat} {c : Cnt} {S : SP}
set_option maxRecDepth 10000 in
set_option maxHeartbeats 4000000 in
theorem run17 (h : At w0 o w p S c n) {nm low : Tx} {args : List Tx} {sv : Value} (hv : Vw (fun b => b < w.heap.size ∧ ¬ [1] <+: o b) w sv 1 (args.length + 1) ((nm :: args).map txt)) (hlow : lowL nm = low) (hn : nm.length ≤ 1099511627776) (hl : args.length + 1 ≤ 1099511627776) (hne : 0 < args.length)
    (hft : Fits low (args.length + 1)) {F : FuncId} (hg : Goes low F) {r : RP} {K : SP → Prop} (hs : ServesT F w [1] p 0 S c low args r (fun S' c' => K S' ∧ c.near c')) :
    Calls Tryz.prog 17 #[.pointer (some ⟨p, 0, none⟩), sv] w (RunQ w0 p n r K) := by
  have h1 := h.lit (.cells zRepC 30)
  have hB1 := lit_below w (.cells zRepC 30)
  have hbk : Blk (o.put w.heap.size [9]) (w.alloc (.cells zRepC 30)) [9] w.heap.size zRepC 30 := ⟨heap_alloc_new w _, Roles.put_same _ _ _⟩
  have hv1 : Vw (fun b => b < (w.alloc (.cells zRepC 30)).heap.size ∧ ¬ [1] <+: (o.put w.heap.size [9]) b) (w.alloc (.cells zRepC 30)) sv 1 (args.length + 1) ((nm :: args).map txt) :=
    (hv.below hB1).imp (fun b hb => ⟨Nat.lt_of_lt_of_le hb.1 hB1.size, by rw [Roles.put_other (by omega)]; exact hb.2⟩)
  obtain ⟨a0, cap, rfl, _⟩ := id hv.slice
  have HRN := Lib.hid (at_trun h1 (now := 0) (by decide) hv1 hlow hn hl hne hft hg (r := r) (K := K) (fun o2 w2 cb m2 sv2 hj2 hm2 hB2 hcb hv2 => hs o2 w2 cb m2 sv2 hj2 hm2 (hB1.trans (hB2.mono hB1.size)) hcb hv2))
  have HBK := Lib.hid hbk
  clear h h1 hB1 hbk hv1 hv hlow hn hl hne hft hg hs
  obtain ⟨kind, text, rn, list⟩ := r
  unfold RunT at HRN
  dsimp only at HRN
  go_enter Tryz.func17, Tryz.ntmps17
  go_wp2_with fail
  refine HRN.out.mono ?_; rintro e w2 ⟨v, rfl, hv2, o2, S2, c2, h2, hK2, hs2⟩
  obtain ⟨a2, cap2, rfl, _⟩ := id hv2.slice
  have hB3 : Below w2.heap.size w2 (w2.alloc (.cells #[.int .i64 (kind : Int), .string ⟨text.toArray⟩, .int .i64 rn, .slice a2 list.length cap2] 30)) := lit_below w2 _
  have hr2 := (HBK.out.keep hs2 (by decide)).below hB3
  have hrc := hr2.cell
  have hrf := hr2.free
  have HR3 := Lib.hid hr2
  have H3 := Lib.hid (h2.below hB3)
  have HV3 := Lib.hid (hv2.below hB3)
  have HK := Lib.hid hK2
  have hsz : w.heap.size < (w.alloc (.cells zRepC 30)).heap.size := by simp
  have HSZ := Lib.hid hsz
  clear hv2 h2 hK2 hs2 hB3 hr2 HRN HBK hsz
  go_wp2_with fail
  refine bodyPost_ret (v := repV kind text rn (.slice a2 list.length cap2)) (by simp [results, Tryz.results17, go_sem, hrc]) rfl ⟨_, rfl, ?_, o2, S2, c2, ?_, HK.out⟩
  · exact (vw_four HV3.out HSZ.out).imp fun _ _ => trivial
  · have key : ∀ W', Stp [9] o2 (w2.alloc (.cells #[.int .i64 (kind : Int), .string ⟨text.toArray⟩, .int .i64 rn, .slice a2 list.length cap2] 30)) o2 W' → At w0 o2 W' p S2 c2 (n + 2) := fun W' s1 => ⟨H3.out.sp.keep s1 (by intro t ht; simp at ht), H3.out.st.hide s1 (fun b _ => by unfold none0; simp), H3.out.num, H3.out.few⟩
    refine key _ ?_
    iterate 4 refine Stp.setCell ?_ (by show [9] <+: o2 w.heap.size; rw [HR3.out.role]; exact List.prefix_refl _) _
    exact Stp.refl _ _ _
end
/-- A key holds a text. -/
def TextAt (S : SP) (k t : Tx) : Prop := ∃ j, S k = some ⟨textV t, 0, j⟩
theorem TextAt.at {S : SP} {k t : Tx} (h : TextAt S k t) : ∃ j, S.at 0 k = some ⟨textV t, 0, j⟩ := by
  obtain ⟨j, h⟩ := h
  exact ⟨j, by rw [SP.at_over h]; rfl⟩
theorem TextAt.is {S : SP} {k t : Tx} (h : TextAt S k t) : S.is 0 k = true ∧ S.bad 0 k = false ∧ S.txt 0 k = t := by
  obtain ⟨j, e⟩ := h.at
  unfold SP.is SP.bad SP.txt
  rw [e]
  exact ⟨rfl, rfl, rfl⟩
theorem put_text (S : SP) (k t : Tx) (m : Nat) : TextAt (S.put k ⟨textV t, 0, m⟩) k t := ⟨m, if_pos rfl⟩
theorem del_none (S : SP) (k : Tx) : (S.del k) k = none := by unfold SP.del; simp
theorem none_is {S : SP} {k : Tx} (h : S k = none) : S.is 0 k = false ∧ S.bad 0 k = false := by
  unfold SP.is SP.bad
  rw [SP.at_none h]
  exact ⟨rfl, rfl⟩
theorem spec_set : specOf [115, 101, 116] = specOf [115, 101, 116] := rfl
end Go.Proofs.YthojmgjgmbnopaaGreatDoor
namespace Go.Proofs.YthojmgjgmbnopaaGreatDoor
open Go Go.RowKit
/-! The runs of StrcmdSets. -/
theorem near_same (c : Cnt) : c.near c := Cnt.near_refl c
theorem near_next (c : Cnt) : c.near c.next := by unfold Cnt.near Cnt.next; exact ⟨by simp, by simp⟩
theorem near_next2 (c : Cnt) : c.near c.next.next := by unfold Cnt.near Cnt.next; exact ⟨by simp, by simp⟩
theorem near_touch (c : Cnt) : c.near c.touch := by unfold Cnt.near Cnt.touch; exact ⟨by simp, by simp⟩
theorem fits_set : Fits [115, 101, 116] 3 := ⟨⟨[115, 101, 116], -3, true, false, 1, 1, 1⟩, by kernel_rfl, .inr ⟨by decide, by decide⟩, by decide⟩
theorem goes_set : Goes [115, 101, 116] 112 := by unfold Goes; kernel_rfl
theorem fits_get : Fits [103, 101, 116] 2 := ⟨⟨[103, 101, 116], 2, false, false, 1, 1, 1⟩, by kernel_rfl, .inl ⟨by decide, by decide⟩, by decide⟩
theorem fits_strlen : Fits [115, 116, 114, 108, 101, 110] 2 := ⟨⟨[115, 116, 114, 108, 101, 110], 2, false, false, 1, 1, 1⟩, by kernel_rfl, .inl ⟨by decide, by decide⟩, by decide⟩
theorem goes_strlen : Goes [115, 116, 114, 108, 101, 110] 116 := by unfold Goes; kernel_rfl
theorem fits_getset : Fits [103, 101, 116, 115, 101, 116] 3 := ⟨⟨[103, 101, 116, 115, 101, 116], 3, true, false, 1, 1, 1⟩, by kernel_rfl, .inl ⟨by decide, by decide⟩, by decide⟩
theorem goes_getset : Goes [103, 101, 116, 115, 101, 116] 108 := by unfold Goes; kernel_rfl
theorem fits_setnx : Fits [115, 101, 116, 110, 120] 3 := ⟨⟨[115, 101, 116, 110, 120], 3, true, false, 1, 1, 1⟩, by kernel_rfl, .inl ⟨by decide, by decide⟩, by decide⟩
theorem goes_setnx : Goes [115, 101, 116, 110, 120] 114 := by unfold Goes; kernel_rfl
theorem fits_getdel : Fits [103, 101, 116, 100, 101, 108] 2 := ⟨⟨[103, 101, 116, 100, 101, 108], 2, true, false, 1, 1, 1⟩, by kernel_rfl, .inl ⟨by decide, by decide⟩, by decide⟩
theorem goes_getdel : Goes [103, 101, 116, 100, 101, 108] 105 := by unfold Goes; kernel_rfl
theorem fits_getrange : Fits [103, 101, 116, 114, 97, 110, 103, 101] 4 := ⟨⟨[103, 101, 116, 114, 97, 110, 103, 101], 4, false, false, 1, 1, 1⟩, by kernel_rfl, .inl ⟨by decide, by decide⟩, by decide⟩
theorem goes_getrange : Goes [103, 101, 116, 114, 97, 110, 103, 101] 107 := by unfold Goes; kernel_rfl
theorem fits_mset : Fits [109, 115, 101, 116] 5 := ⟨⟨[109, 115, 101, 116], -3, true, false, 1, -1, 2⟩, by kernel_rfl, .inr ⟨by decide, by decide⟩, by decide⟩
theorem goes_mset : Goes [109, 115, 101, 116] 110 := by unfold Goes; kernel_rfl
theorem fits_msetnx : Fits [109, 115, 101, 116, 110, 120] 3 := ⟨⟨[109, 115, 101, 116, 110, 120], -3, true, false, 1, -1, 2⟩, by kernel_rfl, .inr ⟨by decide, by decide⟩, by decide⟩
theorem goes_msetnx : Goes [109, 115, 101, 116, 110, 120] 110 := by unfold Goes; kernel_rfl
section
variable {o : Roles} {w w0 : World} {p m : Nat} {c : Cnt} {S : SP}
theorem run_set (H : At w0 o w p S c m) (hm : m ≤ 1000000000) {k t : Tx} (ht : t.length ≤ 1048576) :
    Calls Tryz.prog 17 #[.pointer (some ⟨p, 0, none⟩), .slice (some ⟨w.heap.size, 0, none⟩) 3 3] (w.alloc (.cells ([[115, 101, 116], k, t].map txt).toArray 9)) (RunQ w0 p m ⟨1, [79, 75], 0, []⟩ (fun S' => TextAt S' k t)) :=
  run17 (args := [k, t]) (nm := [115, 101, 116]) (low := [115, 101, 116]) (H.lit _) (lit_apart o w [[115, 101, 116], k, t] (by simp)) (by decide) (by decide) (by simp) (by simp) fits_set goes_set
    (fun _ _ _ _ _ hj hm1 _ hcb hv => (set_plain hj (by decide) hcb hv hm1 ht (by have := H.num; omega) (by have := H.few; omega)).mono fun _ _ h => h.repL ⟨put_text _ _ _ _, near_next _⟩)
theorem run_get (H : At w0 o w p S c m) (_hm : m ≤ 1000000000) {k t : Tx} (hT : TextAt S k t) :
    Calls Tryz.prog 17 #[.pointer (some ⟨p, 0, none⟩), .slice (some ⟨w.heap.size, 0, none⟩) 2 2] (w.alloc (.cells ([[103, 101, 116], k].map txt).toArray 9)) (RunQ w0 p m ⟨4, t, 0, []⟩ (fun S' => TextAt S' k t)) :=
  run17 (args := [k]) (nm := [103, 101, 116]) (low := [103, 101, 116]) (H.lit _) (lit_apart o w [[103, 101, 116], k] (by simp)) (by decide) (by decide) (by simp) (by simp) fits_get goes_get
    (fun _ _ _ _ _ hj hm1 _ hcb hv => (by
      have h1 := get_any hj (by decide) (rest := []) hcb (hv.imp fun _ hb => hb.1)
      rw [hT.is.2.1] at h1
      unfold oldF at h1
      rw [hT.is.1, hT.is.2.2] at h1
      simp only [Bool.false_eq_true, if_false, if_true] at h1
      exact h1.mono fun _ _ h => h.repL ⟨hT, near_same _⟩))
theorem run_get_none (H : At w0 o w p S c m) (_hm : m ≤ 1000000000) {k : Tx} (hS : S k = none) :
    Calls Tryz.prog 17 #[.pointer (some ⟨p, 0, none⟩), .slice (some ⟨w.heap.size, 0, none⟩) 2 2] (w.alloc (.cells ([[103, 101, 116], k].map txt).toArray 9)) (RunQ w0 p m ⟨5, [], 0, []⟩ (fun S' => S' k = none)) :=
  run17 (args := [k]) (nm := [103, 101, 116]) (low := [103, 101, 116]) (H.lit _) (lit_apart o w [[103, 101, 116], k] (by simp)) (by decide) (by decide) (by simp) (by simp) fits_get goes_get
    (fun _ _ _ _ _ hj hm1 _ hcb hv => (by
      have h1 := get_any hj (by decide) (rest := []) hcb (hv.imp fun _ hb => hb.1)
      rw [(none_is hS).2] at h1
      unfold oldF at h1
      rw [(none_is hS).1] at h1
      simp only [Bool.false_eq_true, if_false] at h1
      exact h1.mono fun _ _ h => h.repL ⟨hS, near_same _⟩))
theorem run_strlen (H : At w0 o w p S c m) (_hm : m ≤ 1000000000) {k t : Tx} (hT : TextAt S k t) :
    Calls Tryz.prog 17 #[.pointer (some ⟨p, 0, none⟩), .slice (some ⟨w.heap.size, 0, none⟩) 2 2] (w.alloc (.cells ([[115, 116, 114, 108, 101, 110], k].map txt).toArray 9)) (RunQ w0 p m ⟨3, [], (t.length : Int), []⟩ (fun S' => TextAt S' k t)) :=
  run17 (args := [k]) (nm := [115, 116, 114, 108, 101, 110]) (low := [115, 116, 114, 108, 101, 110]) (H.lit _) (lit_apart o w [[115, 116, 114, 108, 101, 110], k] (by simp)) (by decide) (by decide) (by simp) (by simp) fits_strlen goes_strlen
    (fun _ _ _ _ _ hj hm1 _ hcb hv => (by
      have h1 := strlen_ok hj (by decide) (rest := []) hcb hv hT.is.2.1
      rw [hT.is.2.2] at h1
      exact h1.mono fun _ _ h => h.repL ⟨hT, near_same _⟩))
theorem run_getset (H : At w0 o w p S c m) (hm : m ≤ 1000000000) {k t : Tx} (hT : TextAt S k t) :
    Calls Tryz.prog 17 #[.pointer (some ⟨p, 0, none⟩), .slice (some ⟨w.heap.size, 0, none⟩) 3 3] (w.alloc (.cells ([[103, 101, 116, 115, 101, 116], k, [120]].map txt).toArray 9)) (RunQ w0 p m ⟨4, t, 0, []⟩ (fun S' => TextAt S' k [120])) :=
  run17 (args := [k, [120]]) (nm := [103, 101, 116, 115, 101, 116]) (low := [103, 101, 116, 115, 101, 116]) (H.lit _) (lit_apart o w [[103, 101, 116, 115, 101, 116], k, [120]] (by simp)) (by decide) (by decide) (by simp) (by simp) fits_getset goes_getset
    (fun _ _ _ _ _ hj hm1 _ hcb hv => (by
      have h1 := getset_put hj (by decide) (rest := []) hcb hv hT.is.1 hT.is.2.1 hm1 (by decide) (by have := H.num; omega) (by have := H.few; omega)
      rw [hT.is.2.2] at h1
      exact h1.mono fun _ _ h => h.repL ⟨put_text _ _ _ _, near_next _⟩))
theorem run_setnx_there (H : At w0 o w p S c m) (_hm : m ≤ 1000000000) {k t v : Tx} (hT : TextAt S k t) :
    Calls Tryz.prog 17 #[.pointer (some ⟨p, 0, none⟩), .slice (some ⟨w.heap.size, 0, none⟩) 3 3] (w.alloc (.cells ([[115, 101, 116, 110, 120], k, v].map txt).toArray 9)) (RunQ w0 p m ⟨3, [], 0, []⟩ (fun S' => TextAt S' k t)) :=
  run17 (args := [k, v]) (nm := [115, 101, 116, 110, 120]) (low := [115, 101, 116, 110, 120]) (H.lit _) (lit_apart o w [[115, 101, 116, 110, 120], k, v] (by simp)) (by decide) (by decide) (by simp) (by simp) fits_setnx goes_setnx
    (fun _ _ _ _ _ hj hm1 _ hcb hv => (by
      have h1 := setnx_there hj (by decide) (rest := [v]) hcb hv hT.is.1
      exact h1.mono fun _ _ h => h.repL ⟨hT, near_same _⟩))
theorem run_setnx_put (H : At w0 o w p S c m) (hm : m ≤ 1000000000) {k t : Tx} (hS : S k = none) (ht : t.length ≤ 1048576) :
    Calls Tryz.prog 17 #[.pointer (some ⟨p, 0, none⟩), .slice (some ⟨w.heap.size, 0, none⟩) 3 3] (w.alloc (.cells ([[115, 101, 116, 110, 120], k, t].map txt).toArray 9)) (RunQ w0 p m ⟨3, [], 1, []⟩ (fun S' => TextAt S' k t)) :=
  run17 (args := [k, t]) (nm := [115, 101, 116, 110, 120]) (low := [115, 101, 116, 110, 120]) (H.lit _) (lit_apart o w [[115, 101, 116, 110, 120], k, t] (by simp)) (by decide) (by decide) (by simp) (by simp) fits_setnx goes_setnx
    (fun _ _ _ _ _ hj hm1 _ hcb hv => (by
      have h1 := setnx_put hj (by decide) (rest := []) hcb hv (none_is hS).1 hm1 ht (by have := H.num; omega) (by have := H.few; omega)
      exact h1.mono fun _ _ h => h.repL ⟨put_text _ _ _ _, near_next _⟩))
theorem run_getdel (H : At w0 o w p S c m) (hm : m ≤ 1000000000) {k t : Tx} (hT : TextAt S k t) :
    Calls Tryz.prog 17 #[.pointer (some ⟨p, 0, none⟩), .slice (some ⟨w.heap.size, 0, none⟩) 2 2] (w.alloc (.cells ([[103, 101, 116, 100, 101, 108], k].map txt).toArray 9)) (RunQ w0 p m ⟨4, t, 0, []⟩ (fun S' => S' k = none)) :=
  run17 (args := [k]) (nm := [103, 101, 116, 100, 101, 108]) (low := [103, 101, 116, 100, 101, 108]) (H.lit _) (lit_apart o w [[103, 101, 116, 100, 101, 108], k] (by simp)) (by decide) (by decide) (by simp) (by simp) fits_getdel goes_getdel
    (fun _ _ _ _ _ hj hm1 _ hcb hv => (by
      have h1 := getdel_ok hj (by decide) (rest := []) hcb hv hT.is.1 hT.is.2.1 hm1 (by have := H.num; omega) (by have := H.few; omega)
      rw [hT.is.2.2] at h1
      exact h1.mono fun _ _ h => h.repL ⟨del_none _ _, near_touch _⟩))
theorem run_mset (H : At w0 o w p S c m) (hm : m ≤ 1000000000) {k t : Tx} (ht : t.length ≤ 1048576) :
    Calls Tryz.prog 17 #[.pointer (some ⟨p, 0, none⟩), .slice (some ⟨w.heap.size, 0, none⟩) 5 5] (w.alloc (.cells ([[109, 115, 101, 116], k, [121], k, t].map txt).toArray 9)) (RunQ w0 p m ⟨1, [79, 75], 0, []⟩ (fun S' => TextAt S' k t)) :=
  run17 (args := [k, [121], k, t]) (nm := [109, 115, 101, 116]) (low := [109, 115, 101, 116]) (H.lit _) (lit_apart o w [[109, 115, 101, 116], k, [121], k, t] (by simp)) (by decide) (by decide) (by simp) (by simp) fits_mset goes_mset
    (fun _ _ _ _ _ hj hm1 _ hcb hv => (by
      have h1 := mset_ok (l := [(k, [121]), (k, t)]) hj (by decide) hcb hm1 hv (by simp) (by simp) (by intro x hx; simp at hx; rcases hx with rfl | rfl; simp; exact ht) (by decide) (by have := H.num; simp; omega) (by have := H.few; simp; omega)
      exact h1.mono fun _ _ h => h.repL ⟨put_text _ _ _ _, near_next2 _⟩))
theorem run_msetnx (H : At w0 o w p S c m) (_hm : m ≤ 1000000000) {k t : Tx} (hT : TextAt S k t) :
    Calls Tryz.prog 17 #[.pointer (some ⟨p, 0, none⟩), .slice (some ⟨w.heap.size, 0, none⟩) 3 3] (w.alloc (.cells ([[109, 115, 101, 116, 110, 120], k, [122]].map txt).toArray 9)) (RunQ w0 p m ⟨3, [], 0, []⟩ (fun S' => TextAt S' k t)) :=
  run17 (args := [k, [122]]) (nm := [109, 115, 101, 116, 110, 120]) (low := [109, 115, 101, 116, 110, 120]) (H.lit _) (lit_apart o w [[109, 115, 101, 116, 110, 120], k, [122]] (by simp)) (by decide) (by decide) (by simp) (by simp) fits_msetnx goes_msetnx
    (fun _ _ _ _ _ hj hm1 _ hcb hv => (by
      have h1 := msetnx_there hj (by decide) (rest := [[122]]) hcb hv hT.is.1 (by decide)
      exact h1.mono fun _ _ h => h.repL ⟨hT, near_same _⟩))
end
end Go.Proofs.YthojmgjgmbnopaaGreatDoor
