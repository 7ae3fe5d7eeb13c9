import Derived.Test.YtlgboamedjoidaaRefC
namespace Go.Proofs.Ytlgboamedjoidaa
open Go Go.RowKit
section
variable {o o' : Roles} {w w' : World} {r s : List Nat} {p win : Nat} {L : List CI}

theorem Ref.okC (h : Ref o w r p win L) {i : Nat} {c : CI} (hi : L[i]? = some c) : GoodC win 1048576 c ∧ c.rd ≤ c.up.length ∧ c.tk ≤ c.dn.length := let ⟨_, h⟩ := h; h.ok c (List.mem_of_getElem? hi)

set_option maxHeartbeats 1000000 in
theorem RCut_in (h : Ref o w r p win L) {i : Nat} {c : CI} (hi : L[i]? = some c) :
    Calls Try.prog 31 #[ptr p, .int .i64 i] w (RDid o w r p win (L.set i (if wholeE c = 0 then c.cut_ else c)) (if wholeE c = 0 then .int .i64 0 else .int .i64 (wholeE c))) := by
  have hil : i < L.length := (List.getElem?_eq_some_iff.1 hi).1
  have H := has_in h hil
  have h0 := h
  obtain ⟨lv, h⟩ := h
  have hc := h.blk.cell
  obtain ⟨g, cap, hv, hcell, hfr, hgp, hpg, hput⟩ := h.elem hi
  obtain ⟨hG, hrd, htk⟩ := h.ok c (List.mem_of_getElem? hi)
  have hfew := h.few
  subst hv
  have c7 := hcell 7 _ rfl
  have c1 := hcell 1 _ rfl
  have c3 := hcell 3 _ rfl
  unfold wholeE
  cases hcu : c.cu
  · simp only [Bool.false_eq_true, if_false, if_true]
    rw [hcu] at c7
    have hwr : c.wrote = c.dn := by simp [CI.wrote, hcu]
    rw [hwr] at c1
    have hrow := h.row
    obtain ⟨lv, hblk⟩ : ∃ lv, lv = h.row := ⟨_, rfl⟩
    -- two stores: the flag, the text
    have hset2 : Ref o ((w.setCell ⟨g, i * 8 + 7, none⟩ (.bool true)).setCell ⟨g, i * 8 + 1, none⟩ (txt (c.dn.take c.tk))) r p win (L.set i c.cut_) ∧ Stp r o w o ((w.setCell ⟨g, i * 8 + 7, none⟩ (.bool true)).setCell ⟨g, i * 8 + 1, none⟩ (txt (c.dn.take c.tk))) := by
      have hg : o g = r ++ [1] := hrow.role g rfl
      have r1 := (hrow.put_at (i * 8 + 7) (.bool true)).put_at (i * 8 + 1) (txt (c.dn.take c.tk))
      have e : ((flat L).set (i * 8 + 7) (.bool true)).set (i * 8 + 1) (txt (c.dn.take c.tk)) = flat (L.set i c.cut_) := by
        rw [List.set_comm _ _ (by omega)]
        have e1 := flat_set L i 1 c { c with dn := c.dn.take c.tk } (txt (c.dn.take c.tk)) hi (by decide) (by simp [rcells, CI.wrote, hcu])
        rw [e1]
        have e2 := flat_set (L.set i { c with dn := c.dn.take c.tk }) i 7 { c with dn := c.dn.take c.tk } c.cut_ (.bool true) (by simp [hil]) (by decide) (by simp [rcells, CI.wrote, CI.cut_, hcu])
        rw [e2]
        simp
      rw [e] at r1
      refine ⟨⟨_, (h.blk.setOther _ _ hpg).setOther _ _ hpg, by simpa using r1, by simpa using h.few, fun d hd => ?_, h.winle⟩, ((Stp.refl r o w).setCell (show r <+: o g by rw [hg]; exact List.prefix_append _ _) _).setCell (show r <+: o g by rw [hg]; exact List.prefix_append _ _) _⟩
      rcases List.mem_or_eq_of_mem_set hd with hd | rfl
      · exact h.ok d hd
      · exact ⟨hG, hrd, htk⟩
    obtain ⟨hR, hS⟩ := hset2
    have D : ∀ W, W.heap = ((w.setCell ⟨g, i * 8 + 7, none⟩ (.bool true)).setCell ⟨g, i * 8 + 1, none⟩ (txt (c.dn.take c.tk))).heap → W.os = w.os → W.tape = w.tape → W.output = w.output → RDid o w r p win (L.set i c.cut_) (.int .i64 0) (.returned (.int .i64 0)) W := fun W e1 e2 e3 e4 => RDid.alike hR hS _ e1 e2 e3 e4
    have D := Lib.hid D
    have ec := cut_text c.dn 0 c.tk
    simp only [List.drop_zero, Nat.sub_zero] at ec
    generalize c.dn.take c.tk = T at *
    clear hR hS h h0 hcell hput hi hG hrd hrow hblk hwr hcu
    unfold ptr at *
    unfold txt at *
    rw [← ec] at D
    clear ec
    go_enter Try.func31, Try.ntmps31
    go_wp2_with (go_at_call 51; refine H.mono ?_; rintro e w' ⟨rfl, rfl⟩)
    go_region
    go_wp2
    go_ret
    exact D.out _ rfl rfl rfl rfl
  · simp only [if_true, show ¬ (61 : Int) = 0 by decide, if_false]
    rw [set_self hi]
    rw [hcu] at c7
    have D := RDid.same h0 (.int .i64 61) 0
    clear h h0 hcell hput hi hG hrd htk hcu c1 c3
    unfold ptr at *
    go_enter Try.func31, Try.ntmps31
    go_wp2_with (go_at_call 51; refine H.mono ?_; rintro e w' ⟨rfl, rfl⟩)
    go_ret
    exact D

set_option maxHeartbeats 400000 in
theorem RRoom_out (h : Ref o w r p win L) (c : Int) (hb : outL L c) : Calls Try.prog 38 #[ptr p, .int .i64 c] w fun e w' => e = .returned (.int .i64 0) ∧ ∃ k, w' = w.drewN k := by
  have H := server_out h c hb
  clear h hb
  unfold ptr at *
  go_enter Try.func38, Try.ntmps38
  go_wp2_with (go_at_call 52; refine H.mono ?_; rintro e w' ⟨rfl, rfl⟩)
  go_ret
  exact ⟨rfl, 0, rfl⟩
theorem servedE_cu {c : CI} (h : servedE c = 0) : c.cu = false := by
  unfold servedE at h
  cases hc : c.cu
  · rfl
  · rw [hc] at h; simp at h; split at h <;> omega
set_option maxHeartbeats 1000000 in
theorem RRoom_in (h : Ref o w r p win L) {i : Nat} {c : CI} (hi : L[i]? = some c) : Calls Try.prog 38 #[ptr p, .int .i64 i] w fun e w' => e = .returned (.int .i64 (roomV win c)) ∧ ∃ k, w' = w.drewN k := by
  have hil : i < L.length := (List.getElem?_eq_some_iff.1 hi).1
  have H := server_in h hi
  obtain ⟨lv, h⟩ := h
  have hc := h.blk.cell
  obtain ⟨g, cap, hv, hcell, hfr, hgp, hpg, hput⟩ := h.elem hi
  obtain ⟨hG, hrd, htk⟩ := h.ok c (List.mem_of_getElem? hi)
  have hfew := h.few
  have hwin := h.winle
  subst hv
  have c1 := hcell 1 _ rfl
  have c3 := hcell 3 _ rfl
  unfold roomV
  by_cases hE : servedE c = 0
  · rw [hE] at H
    rw [if_pos hE]
    have hwr : c.wrote = c.dn := by simp [CI.wrote, servedE_cu hE]
    rw [hwr] at c1
    have hG2 := hG.2.1
    obtain ⟨d, hd⟩ : ∃ d, c.tk + d = c.dn.length := ⟨c.dn.length - c.tk, by omega⟩
    rw [show c.dn.length - c.tk = d by omega]
    have hwd : IntKind.i64.wrap ((c.dn.length : Int) - c.tk) = d := by rw [show (c.dn.length : Int) - c.tk = d by omega]; exact IntWalk.i64_in _ (by omega)
    have hwe : IntKind.i64.wrap ((win : Int) - d) = win - d := IntWalk.i64_in _ (by omega)
    have HWD := Lib.hid hwd
    have HWE := Lib.hid hwe
    clear h hcell hput hi hG hrd htk hwr hE hwd hwe hd hG2
    unfold ptr at *
    unfold txt at *
    go_enter Try.func38, Try.ntmps38
    go_wp2_with (go_at_call 52; refine H.mono ?_; rintro e w' ⟨rfl, rfl⟩)
    have hwd := HWD.out
    have hwe := HWE.out
    go_quiet (fail)
    clear hwd hwe
    go_wp2_with fail
    go_ret
    exact ⟨rfl, _, rfl⟩
  · rw [if_neg hE]
    have hq : ((servedE c) == 0) = false := by simpa using hE
    generalize servedE c = E at *
    clear h hcell hput hi hG hrd htk hE c1 c3
    unfold ptr at *
    go_enter Try.func38, Try.ntmps38
    go_wp2_with (go_at_call 52; refine H.mono ?_; rintro e w' ⟨rfl, rfl⟩)
    go_ret
    exact ⟨rfl, 0, rfl⟩

set_option maxHeartbeats 2000000 in
theorem RWrite_in (h : Ref o w r p win L) {i : Nat} {c : CI} (hi : L[i]? = some c) (s : List UInt8) (hs : c.dn.length + s.length ≤ 1048576) :
    Calls Try.prog 34 #[ptr p, .int .i64 i, .string ⟨s.toArray⟩] w (RDid o w r p win (L.set i (if servedE c = 0 then c.wr_ (s.take (min s.length (win - (c.dn.length - c.tk)))) else c)) (if servedE c = 0 then .tuple #[.int .i64 (min s.length (win - (c.dn.length - c.tk)) : Nat), .int .i64 0] else .tuple #[.int .i64 0, .int .i64 (servedE c)])) := by
  have hil : i < L.length := (List.getElem?_eq_some_iff.1 hi).1
  have H := server_in h hi
  have h0 := h
  have HR := RRoom_in h hi
  obtain ⟨lv, h⟩ := h
  have hc := h.blk.cell
  obtain ⟨g, cap, hv, hcell, hfr, hgp, hpg, hput⟩ := h.elem hi
  obtain ⟨hG, hrd, htk⟩ := h.ok c (List.mem_of_getElem? hi)
  have hfew := h.few
  have hwin := h.winle
  subst hv
  have c1 := hcell 1 _ rfl
  by_cases hE : servedE c = 0
  · rw [hE] at H
    simp only [if_pos hE]
    unfold roomV at HR
    rw [if_pos hE] at HR
    have hcu := servedE_cu hE
    have hwr : c.wrote = c.dn := by simp [CI.wrote, hcu]
    rw [hwr] at c1
    obtain ⟨rm, hrm⟩ : ∃ rm : Nat, rm = win - (c.dn.length - c.tk) := ⟨_, rfl⟩
    have hG3 := hG.2.2
    rw [show ((win : Int) - (c.dn.length - c.tk : Nat)) = rm from by omega] at HR
    rw [← hrm]
    obtain ⟨k, hk⟩ : ∃ k, k = min s.length rm := ⟨_, rfl⟩
    rw [← hk]
    have hkl : (s.take k).length = k := by rw [List.length_take]; omega
    obtain ⟨hR, hS⟩ := hput 1 (txt (c.dn ++ s.take k)) (c.wr_ (s.take k)) (by decide) (by simp [rcells, CI.wrote, CI.wr_, hcu]) ⟨⟨hG.1, by simp only [CI.wr_, List.length_append]; omega, by simp only [CI.wr_, List.length_append]; omega⟩, hrd, by simp only [CI.wr_, List.length_append]; omega⟩
    have D : ∀ W, W.heap = (w.setCell ⟨g, i * 8 + 1, none⟩ (txt (c.dn ++ s.take k))).heap → W.os = w.os → W.tape = w.tape → W.output = w.output → RDid o w r p win (L.set i (c.wr_ (s.take k))) (.tuple #[.int .i64 k, .int .i64 0]) (.returned (.tuple #[.int .i64 k, .int .i64 0])) W := fun W e1 e2 e3 e4 => RDid.alike hR hS _ e1 e2 e3 e4
    have D := Lib.hid D
    have ec := cut_text s 0 k
    simp only [List.drop_zero, Nat.sub_zero] at ec
    have eA := app_text c.dn (s.take k)
    have hcc : ¬ 9223372036854775807 < c.dn.length + k := by omega
    have hcase : (s.length ≤ rm ∧ k = s.length) ∨ (rm < s.length ∧ k = rm) := by omega
    have hkle : k ≤ s.length := by omega
    generalize c.wr_ (s.take k) = C2 at *
    generalize hTA : c.dn ++ s.take k = A at *
    have hTl : (⟨(s.take k).toArray⟩ : ByteArray).size = k := by show (s.take k).toArray.size = k; simpa using hkl
    clear hR hS h h0 hcell hput hi hG hrd htk hwr hcu hE hrm hkl hk hTA hG3 hs
    generalize s.take k = T at *
    unfold ptr at *
    unfold txt at *
    rcases hcase with ⟨hlt, rfl⟩ | ⟨hlt, rfl⟩
    all_goals
      go_enter Try.func34, Try.ntmps34
      go_wp2_with (first | (go_at_call 52; refine H.mono ?_; rintro e w' ⟨rfl, rfl⟩) | (go_at_call 38; refine HR.mono ?_; rintro e w' ⟨rfl, q, rfl⟩))
      go_region
      go_wp2
      go_ret2
      exact D.out _ rfl rfl rfl rfl
  · simp only [if_neg hE]
    rw [set_self hi]
    have D := RDid.same h0 (.tuple #[.int .i64 0, .int .i64 (servedE c)]) 0
    have hq : ((servedE c) == 0) = false := by simpa using hE
    generalize servedE c = E at *
    clear h h0 hcell hput hi hG hrd htk hE c1 HR
    unfold ptr at *
    go_enter Try.func34, Try.ntmps34
    go_wp2_with (go_at_call 52; refine H.mono ?_; rintro e w' ⟨rfl, rfl⟩)
    go_ret2
    exact D
end
end Go.Proofs.Ytlgboamedjoidaa
