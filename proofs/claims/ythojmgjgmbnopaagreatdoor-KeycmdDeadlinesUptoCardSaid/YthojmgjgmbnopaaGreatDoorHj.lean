import Derived.Test.YthojmgjgmbnopaaGreatDoorHd
namespace Go.Proofs.YthojmgjgmbnopaaGreatDoor
open Go Go.RowKit
/-! keycmd: ping, exists, del. -/
abbrev pingB : Tx := [112, 105, 110, 103]
abbrev existsB : Tx := [101, 120, 105, 115, 116, 115]
abbrev delB : Tx := [100, 101, 108]
section
variable {o : Roles} {w : World} {q : List Nat} {p : Nat} {c : Cnt} {S : SP} {cb : Nat} {ρ : List Nat} {now : Int} {sv : Value}
set_option maxRecDepth 10000 in
set_option maxHeartbeats 4000000 in
theorem kping_ok (h : SpJ o w q p S c) (hq : q ≠ []) (hcb : Blk o w ρ cb (callC p now pingB sv) 112) (hv : Vw (Old w) w sv 1 0 []) :
    Calls Tryz.prog 71 #[.pointer (some ⟨cb, 0, none⟩)] w (RepJ o w q p S c ⟨1, [80, 79, 78, 71], 0⟩) := by
  obtain ⟨o1, m1, hbg, hj⟩ := begin_roles h hq
  have hfr0 := Fj.begin hbg hj hcb
  have hcc := hcb.cell
  have hcl := hcb.lt
  obtain ⟨a0, cap, rfl, hcap, _, _⟩ := id hv.slice
  have HF := Lib.hid hfr0
  have HBG := Lib.hid hbg
  have HS := Lib.hid (fun W => ksimple_ok W [80, 79, 78, 71])
  clear h hcb hv hbg hj hfr0
  unfold txt at HS
  go_enter Tryz.func71, Tryz.ntmps71
  go_wp2_with fail
  refine (HS.out _).mono ?_; rintro e w8 ⟨rfl, hB8⟩
  have hf8 := HF.out.below hB8
  have HF8 := Lib.hid hf8
  have hrc := hf8.res.cell
  have hrf := hf8.res.free
  clear hB8 hf8 HF HS hcc
  go_wp2_with fail
  obtain ⟨hj9, hs9⟩ := HF8.out.fin HBG.out (.int .i64 1) (.string ⟨#[80, 79, 78, 71]⟩) (.int .i64 0) (.slice none 0 0)
  exact bodyPost_ret (v := repV 1 [80, 79, 78, 71] 0 (.slice none 0 0)) (by simp [results, Tryz.results71, go_sem, hrc]) rfl ⟨rfl, o1, hj9, hs9⟩
/-- How many of these keys are there. -/
def cntL (S : SP) (now : Int) (ks : List Tx) : Nat := (ks.filter fun k => (S.at now k).isSome).length
theorem cntL_take {ks : List Tx} {k : Nat} {x : Tx} (hx : ks[k]? = some x) : cntL S now (ks.take (k + 1)) = cntL S now (ks.take k) + (if (S.at now x).isSome then 1 else 0) := by
  unfold cntL
  rw [List.take_add_one, hx, Option.toList_some, List.filter_append, List.length_append]
  congr 1
  rcases h : (S.at now x).isSome with _ | _ <;> rw [List.filter_cons] <;> rw [h] <;> rfl
theorem cntL_le (ks : List Tx) : cntL S now ks ≤ ks.length := List.length_filter_le _ _
def ExRel (o : Roles) (w : World) (q : List Nat) (p m : Nat) (ρ : List Nat) (cb : Nat) (cs : Array Value) (S : SP) (c : Cnt) (o1 : Roles) (now : Int) (ks : List Tx) (nv i : Value) (wr : World) : Prop :=
  ∃ k : Nat, k ≤ ks.length ∧ i = .int .i64 (k : Int) ∧ nv = .int .i64 (cntL S now (ks.take k) : Int) ∧ Fj o w q p m ρ cb cs S c o1 wr ∧ Below (w.alloc (.cells zRepC 30)).heap.size (w.alloc (.cells zRepC 30)) wr
set_option maxRecDepth 10000 in
set_option maxHeartbeats 8000000 in
theorem kexists_ok (h : SpJ o w q p S c) (hq : q ≠ []) {ks : List Tx} (hcb : Blk o w ρ cb (callC p now existsB sv) 112) (hv : Vw (Old w) w sv 1 ks.length (ks.map txt)) (hl : ks.length ≤ 1099511627776) :
    Calls Tryz.prog 71 #[.pointer (some ⟨cb, 0, none⟩)] w (RepJ o w q p S c ⟨3, [], (cntL S now ks : Int)⟩) := by
  obtain ⟨o1, m1, hbg, hj⟩ := begin_roles h hq
  have hfr0 := Fj.begin hbg hj hcb
  have hcc := hcb.cell
  have hcl := hcb.lt
  obtain ⟨a0, cap, rfl, hcap, _, _⟩ := id hv.slice
  have HV := Lib.hid (hv.below hbg.res.2)
  have HAT := Lib.hid (show ExRel o w q p m1 ρ cb (callC p now existsB (.slice a0 ks.length cap)) S c o1 now ks (.int .i64 0) (.int .i64 0) (w.alloc (.cells zRepC 30)) from ⟨0, Nat.zero_le _, rfl, rfl, hfr0, Below.refl _ _⟩)
  have HBG := Lib.hid hbg
  clear h hcb hv hbg hj hfr0
  go_enter Tryz.func71, Tryz.ntmps71
  go_wp2_with fail
  go_loopw [3, 86] (fun n i wr => ExRel o w q p m1 ρ cb (callC p now existsB (.slice a0 ks.length cap)) S c o1 now ks n i wr) (fun _ i _ => ks.length - (intOf i).toNat)
  case atStart => exact HAT.out
  case round =>
    obtain ⟨k, hk, rfl, rfl, hf, hB⟩ := hrel
    clear HAT hcc
    by_cases hkl : k < ks.length
    · obtain ⟨x, hx⟩ : ∃ x, ks[k]? = some x := ⟨_, List.getElem?_eq_getElem hkl⟩
      obtain ⟨b, off, rfl, _, _, hg⟩ := vw_get (HV.out.below hB) (by omega)
      have hkx := hg k x hx
      have hkI : (0 : Int) ≤ k ∧ (k : Int) < ks.length := by omega
      have hcn := cntL_le (S := S) (now := now) (ks.take k)
      rw [List.length_take] at hcn
      have hct := cntL_take (S := S) (now := now) hx
      have HTH := Lib.hid (kthere_ok hf.sp hf.call x)
      have HF := Lib.hid hf
      have HB := Lib.hid hB
      have hcj := hf.call.cell
      have hcnl : cntL S now (ks.take k) ≤ k := by omega
      generalize cntL S now (ks.take k) = n at *
      rcases hok : (S.at now x).isSome with _ | _
      · rw [hok] at HTH hct
        have D := Lib.hid hct
        clear hg hx hf hB hcn hct hok
        unfold txt at HTH
        go_wp2_with fail
        refine HTH.out.mono ?_; rintro e w5 ⟨rfl, hB5⟩
        have D2 := Lib.hid (show ExRel o w q p m1 ρ cb (callC p now existsB (.slice (some ⟨b, off, none⟩) ks.length cap)) S c o1 now ks (.int .i64 (n : Int)) (.int .i64 ((k + 1 : Nat) : Int)) w5 from ⟨k + 1, hkl, rfl, by rw [D.out]; simp, HF.out.below hB5, HB.out.trans (hB5.mono HB.out.size)⟩)
        clear hB5 HTH HF HB hcj
        go_wp2_with fail
        go_roundw
        case rel => exact D2.out
        case measure => simp [intOf]; omega
      · rw [hok] at HTH hct
        have D := Lib.hid hct
        clear hg hx hf hB hcn hct hok
        unfold txt at HTH
        go_wp2_with fail
        refine HTH.out.mono ?_; rintro e w5 ⟨rfl, hB5⟩
        have hf5 := HF.out.below hB5
        have hcj5 := hf5.call.cell
        have D2 := Lib.hid (show ExRel o w q p m1 ρ cb (callC p now existsB (.slice (some ⟨b, off, none⟩) ks.length cap)) S c o1 now ks (.int .i64 ((n + 1 : Nat) : Int)) (.int .i64 ((k + 1 : Nat) : Int)) w5 from ⟨k + 1, hkl, rfl, by rw [D.out]; simp, hf5, HB.out.trans (hB5.mono HB.out.size)⟩)
        clear hB5 HTH HF HB hcj hf5
        go_wp2_with fail
        go_roundw
        case rel => exact D2.out
        case measure => simp [intOf]; omega
    · obtain rfl : k = ks.length := by omega
      rw [List.take_length]
      have HF := Lib.hid hf
      generalize cntL S now ks = n at *
      clear hf hB HV hkl hk
      go_wp2_with fail
      refine (kint_ok _ _).mono ?_; rintro e w8 ⟨rfl, hB8⟩
      have hf8 := HF.out.below hB8
      have HF8 := Lib.hid hf8
      have hrc := hf8.res.cell
      have hrf := hf8.res.free
      clear hB8 hf8 HF
      go_wp2_with fail
      obtain ⟨hj9, hs9⟩ := HF8.out.fin HBG.out (.int .i64 3) (.string ⟨#[]⟩) (.int .i64 (n : Int)) (.slice none 0 0)
      exact bodyPost_ret (v := repV 3 [] (n : Int) (.slice none 0 0)) (by simp [results, Tryz.results71, go_sem, hrc]) rfl ⟨rfl, o1, hj9, hs9⟩
end
end Go.Proofs.YthojmgjgmbnopaaGreatDoor
