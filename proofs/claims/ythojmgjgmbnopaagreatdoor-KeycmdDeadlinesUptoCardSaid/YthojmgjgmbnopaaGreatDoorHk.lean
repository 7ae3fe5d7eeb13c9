import Derived.Test.YthojmgjgmbnopaaGreatDoorHj
namespace Go.Proofs.YthojmgjgmbnopaaGreatDoor
open Go Go.RowKit
/-! keycmd: del. -/
/-- What a row of del leaves: the space, its counts, how many keys went. -/
def delStep (now : Int) (t : SP × Cnt × Nat) (x : Tx) : SP × Cnt × Nat := if (t.1.at now x).isSome then (t.1.del x, t.2.1.touch, t.2.2 + 1) else t
def delAll (S : SP) (c : Cnt) (now : Int) (ks : List Tx) : SP × Cnt × Nat := ks.foldl (delStep now) (S, c, 0)
theorem delAll_take {S : SP} {c : Cnt} {now : Int} {ks : List Tx} {k : Nat} {x : Tx} (hx : ks[k]? = some x) : delAll S c now (ks.take (k + 1)) = delStep now (delAll S c now (ks.take k)) x := by
  unfold delAll
  rw [List.take_add_one, hx, Option.toList_some, List.foldl_append]
  rfl
theorem delAll_le {now : Int} : ∀ (ks : List Tx) (t : SP × Cnt × Nat), (ks.foldl (delStep now) t).2.1.num ≤ t.2.1.num + ks.length ∧ (ks.foldl (delStep now) t).2.1.few ≤ t.2.1.few + ks.length ∧ (ks.foldl (delStep now) t).2.2 ≤ t.2.2 + ks.length
  | [], t => by simp
  | x :: ks, t => by
    have h := delAll_le (now := now) ks (delStep now t x)
    have h2 : (delStep now t x).2.1.num ≤ t.2.1.num + 1 ∧ (delStep now t x).2.1.few ≤ t.2.1.few + 1 ∧ (delStep now t x).2.2 ≤ t.2.2 + 1 := by
      unfold delStep
      split
      · exact ⟨by simp [Cnt.touch], by simp [Cnt.touch], Nat.le_refl _⟩
      · omega
    rw [List.foldl_cons, List.length_cons]
    omega
section
variable {o : Roles} {w : World} {q : List Nat} {p : Nat} {c : Cnt} {S : SP} {cb : Nat} {ρ : List Nat} {now : Int} {sv : Value}
def DlRel (o : Roles) (w : World) (q : List Nat) (p m : Nat) (ρ : List Nat) (cb : Nat) (cs : Array Value) (S : SP) (c : Cnt) (now : Int) (ks : List Tx) (nv i : Value) (wr : World) : Prop :=
  ∃ k : Nat, k ≤ ks.length ∧ i = .int .i64 (k : Int) ∧ nv = .int .i64 ((delAll S c now (ks.take k)).2.2 : Int) ∧ ∃ oy, Fj o w q p m ρ cb cs (delAll S c now (ks.take k)).1 (delAll S c now (ks.take k)).2.1 oy wr
theorem vw_far {ox : Roles} {wx : World} {n : Nat} {xs : List Value} (hv : Vw (fun b => b < w.heap.size ∧ ¬ q <+: o b) w sv 1 n xs) (st : Stp q o w ox wx) : Vw (fun b => b < w.heap.size ∧ ¬ q <+: o b) wx sv 1 n xs :=
  hv.stay st.size (fun b hb hl => st.block b hl hb.2)
set_option maxRecDepth 10000 in
set_option maxHeartbeats 8000000 in
theorem kdel_ok (h : SpJ o w q p S c) (hq : q ≠ []) (hρ : ¬ q <+: ρ) {ks : List Tx} (hcb : Blk o w ρ cb (callC p now delB sv) 112) (hv : Vw (fun b => b < w.heap.size ∧ ¬ q <+: o b) w sv 1 ks.length (ks.map txt)) (hl : ks.length ≤ 1099511) (hc : c.num ≤ 4611686018420000000) (hf : c.few ≤ 1099500000000) :
    Calls Tryz.prog 71 #[.pointer (some ⟨cb, 0, none⟩)] w (RepJ o w q p (delAll S c now ks).1 (delAll S c now ks).2.1 ⟨3, [], ((delAll S c now ks).2.2 : Int)⟩) := by
  obtain ⟨o1, m1, hbg, hj⟩ := begin_roles h hq
  have hfr0 := Fj.begin hbg hj hcb
  have hcc := hcb.cell
  have hcl := hcb.lt
  obtain ⟨a0, cap, rfl, hcap, _, _⟩ := id hv.slice
  have HV := Lib.hid hv
  have HAT := Lib.hid (show DlRel o w q p m1 ρ cb (callC p now delB (.slice a0 ks.length cap)) S c now ks (.int .i64 0) (.int .i64 0) (w.alloc (.cells zRepC 30)) from ⟨0, Nat.zero_le _, rfl, rfl, o1, hfr0⟩)
  have HBG := Lib.hid hbg
  have HL := Lib.hid (And.intro hl (And.intro hc hf))
  clear h hcb hv hbg hj hfr0 hc hf
  go_enter Tryz.func71, Tryz.ntmps71
  go_wp2_with fail
  go_loopw [3, 86] (fun n i wr => DlRel o w q p m1 ρ cb (callC p now delB (.slice a0 ks.length cap)) S c now ks n i wr) (fun _ i _ => ks.length - (intOf i).toNat)
  case atStart => exact HAT.out
  case round =>
    obtain ⟨k, hk, rfl, rfl, oy, hf⟩ := hrel
    clear HAT hcc
    by_cases hkl : k < ks.length
    · obtain ⟨x, hx⟩ : ∃ x, ks[k]? = some x := ⟨_, List.getElem?_eq_getElem hkl⟩
      obtain ⟨b, off, rfl, _, _, hg⟩ := vw_get (vw_far HV.out hf.st) (by omega)
      have hkx := hg k x hx
      have hkI : (0 : Int) ≤ k ∧ (k : Int) < ks.length := by omega
      have hct := delAll_take (S := S) (c := c) (now := now) hx
      have hle := delAll_le (now := now) (ks.take k) (S, c, 0)
      rw [List.length_take] at hle
      change (delAll S c now (ks.take k)).2.1.num ≤ c.num + _ ∧ (delAll S c now (ks.take k)).2.1.few ≤ c.few + _ ∧ (delAll S c now (ks.take k)).2.2 ≤ 0 + _ at hle
      rcases hda : delAll S c now (ks.take k) with ⟨S1, c1, n⟩
      rw [hda] at hf hct hle
      unfold delStep at hct
      dsimp only at hf hct hle
      have hcnl : n ≤ k := by omega
      have hcnI : (n : Int) ≤ 1099511 := by omega
      obtain ⟨hL1, hL2, hL3⟩ := HL.out
      have hc1 : c1.num ≤ 4611686018427387904 ∧ c1.few ≤ 1099511627777 := by omega
      clear hle hda hL1 hL2 hL3
      have HTH := Lib.hid (kthere_ok hf.sp hf.call x)
      have HF := Lib.hid hf
      have hcj := hf.call.cell
      rcases hok : (S1.at now x).isSome with _ | _
      · rw [hok] at HTH hct
        have D := Lib.hid hct
        clear hg hx hf hct hok hc1
        unfold txt at HTH
        go_wp2_with fail
        refine HTH.out.mono ?_; rintro e w5 ⟨rfl, hB5⟩
        have D2 := Lib.hid (show DlRel o w q p m1 ρ cb (callC p now delB (.slice (some ⟨b, off, none⟩) ks.length cap)) S c now ks (.int .i64 (n : Int)) (.int .i64 ((k + 1 : Nat) : Int)) w5 from ⟨k + 1, hkl, rfl, by rw [D.out]; simp, oy, by rw [D.out]; exact HF.out.below hB5⟩)
        clear hB5 HTH HF hcj
        go_wp2_with fail
        go_roundw
        case rel => exact D2.out
        case measure => simp [intOf]; omega
      · rw [hok] at HTH hct
        have D := Lib.hid hct
        have HW := Lib.hid (fun (W : World) (hj2 : SpJ oy W q p S1 c1) => by
          obtain ⟨H, hH⟩ := Option.isSome_iff_exists.1 hok
          exact jdrop_ok hj2 x (SP.at_some hH).1 hc1.1 hc1.2)
        clear hg hx hf hct hok hc1
        unfold txt at HTH HW
        go_wp2_with fail
        refine HTH.out.mono ?_; rintro e w5 ⟨rfl, hB5⟩
        have hf5 := HF.out.below hB5
        have hcj5 := hf5.call.cell
        have HF5 := Lib.hid hf5
        clear hB5 HTH HF hcj hf5
        go_wp2_with fail
        refine (HW.out _ HF5.out.sp).mono ?_; rintro e w7 ⟨rfl, o7, hj7, hs7⟩
        have hf7 := HF5.out.put HBG.out hρ hj7 hs7
        have D2 := Lib.hid (show DlRel o w q p m1 ρ cb (callC p now delB (.slice (some ⟨b, off, none⟩) ks.length cap)) S c now ks (.int .i64 ((n + 1 : Nat) : Int)) (.int .i64 ((k + 1 : Nat) : Int)) w7 from ⟨k + 1, hkl, rfl, by rw [D.out]; simp, o7, by rw [D.out]; exact hf7⟩)
        clear hj7 hs7 hf7 HW HF5 hcj5
        go_wp2_with fail
        go_roundw
        case rel => exact D2.out
        case measure => simp [intOf]; omega
    · obtain rfl : k = ks.length := by omega
      rw [List.take_length] at hf
      rw [List.take_length]
      have HF := Lib.hid hf
      have hle := delAll_le (now := now) ks (S, c, 0)
      change (delAll S c now ks).2.1.num ≤ c.num + _ ∧ (delAll S c now ks).2.1.few ≤ c.few + _ ∧ (delAll S c now ks).2.2 ≤ 0 + _ at hle
      rcases hda : delAll S c now ks with ⟨S1, c1, n⟩
      have HDA := Lib.hid hda
      rw [hda] at HF hle
      dsimp only at HF hle ⊢
      clear hf HV hkl hk hda HL
      go_wp2_with fail
      refine (kint_ok _ _).mono ?_; rintro e w8 ⟨rfl, hB8⟩
      have hf8 := HF.out.below hB8
      have HF8 := Lib.hid hf8
      have hrc := hf8.res.cell
      have hrf := hf8.res.free
      clear hB8 hf8 HF
      go_wp2_with fail
      obtain ⟨hj9, hs9⟩ := HF8.out.fin HBG.out (.int .i64 3) (.string ⟨#[]⟩) (.int .i64 (n : Int)) (.slice none 0 0)
      exact bodyPost_ret (v := repV 3 [] (n : Int) (.slice none 0 0)) (by simp [results, Tryz.results71, go_sem, hrc]) rfl (by first | exact ⟨rfl, oy, hj9, hs9⟩ | (rw [HDA.out]; exact ⟨rfl, oy, hj9, hs9⟩))
end
end Go.Proofs.YthojmgjgmbnopaaGreatDoor
