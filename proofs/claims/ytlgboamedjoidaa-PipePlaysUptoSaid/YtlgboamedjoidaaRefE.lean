import Derived.Test.YtlgboamedjoidaaRefD
namespace Go.Proofs.Ytlgboamedjoidaa
open Go Go.RowKit
section
variable {o o' : Roles} {w w' : World} {r s : List Nat} {p win : Nat} {L : List CI}

set_option maxHeartbeats 400000 in
theorem RSent_out (h : Ref o w r p win L) (c : Int) (hb : outL L c) : Calls Try.prog 39 #[ptr p, .int .i64 c] w fun e w' => e = .returned (txt []) ∧ ∃ k, w' = w.drewN k := by
  have H := has_out h c hb
  clear h hb
  unfold ptr txt at *
  go_enter Try.func39, Try.ntmps39
  go_wp2_with (go_at_call 51; refine H.mono ?_; rintro e w' ⟨rfl, rfl⟩)
  go_ret
  exact ⟨rfl, 0, rfl⟩
set_option maxHeartbeats 400000 in
theorem RTaken_out (h : Ref o w r p win L) (c : Int) (hb : outL L c) : Calls Try.prog 40 #[ptr p, .int .i64 c] w fun e w' => e = .returned (txt []) ∧ ∃ k, w' = w.drewN k := by
  have H := has_out h c hb
  clear h hb
  unfold ptr txt at *
  go_enter Try.func40, Try.ntmps40
  go_wp2_with (go_at_call 51; refine H.mono ?_; rintro e w' ⟨rfl, rfl⟩)
  go_ret
  exact ⟨rfl, 0, rfl⟩
set_option maxHeartbeats 400000 in
theorem RSent_in (h : Ref o w r p win L) {i : Nat} {c : CI} (hi : L[i]? = some c) : Calls Try.prog 39 #[ptr p, .int .i64 i] w fun e w' => e = .returned (txt c.up) ∧ ∃ k, w' = w.drewN k := by
  have hil : i < L.length := (List.getElem?_eq_some_iff.1 hi).1
  have H := has_in h hil
  obtain ⟨lv, h⟩ := h
  have hc := h.blk.cell
  obtain ⟨g, cap, hv, hcell, _⟩ := h.elem hi
  have hfew := h.few
  subst hv
  have c0 : w.cell? ⟨g, i * 8, none⟩ = some (txt c.up) := hcell 0 _ rfl
  clear h hcell hi
  unfold ptr txt at *
  go_enter Try.func39, Try.ntmps39
  go_wp2_with (go_at_call 51; refine H.mono ?_; rintro e w' ⟨rfl, rfl⟩)
  go_ret
  exact ⟨rfl, 0, rfl⟩
set_option maxHeartbeats 400000 in
theorem RTaken_in (h : Ref o w r p win L) {i : Nat} {c : CI} (hi : L[i]? = some c) : Calls Try.prog 40 #[ptr p, .int .i64 i] w fun e w' => e = .returned (txt (c.dn.take c.tk)) ∧ ∃ k, w' = w.drewN k := by
  have hil : i < L.length := (List.getElem?_eq_some_iff.1 hi).1
  have H := has_in h hil
  obtain ⟨hG, hrd, htk⟩ := h.okC hi
  obtain ⟨lv, h⟩ := h
  have hc := h.blk.cell
  obtain ⟨g, cap, hv, hcell, _⟩ := h.elem hi
  have hfew := h.few
  subst hv
  have c1 := hcell 1 _ rfl
  have c3 := hcell 3 _ rfl
  have hw : c.wrote.take c.tk = c.dn.take c.tk := by unfold CI.wrote; split; rw [List.take_take]; simp; rfl
  have hwl : c.tk ≤ c.wrote.length := by unfold CI.wrote; split; rw [List.length_take]; omega; exact htk
  have hwS : c.wrote.length ≤ 1048576 := by unfold CI.wrote; split; rw [List.length_take]; have := hG.2.1; omega; exact hG.2.1
  rw [← hw]
  have ec := cut_text c.wrote 0 c.tk
  simp only [List.drop_zero, Nat.sub_zero] at ec
  generalize c.wrote.take c.tk = T at *
  generalize c.wrote = X at *
  clear h hcell hi hG hrd htk hw
  unfold ptr txt at *
  rw [← ec]
  clear ec
  go_enter Try.func40, Try.ntmps40
  go_wp2_with (go_at_call 51; refine H.mono ?_; rintro e w' ⟨rfl, rfl⟩)
  go_quiet (fail)
  go_wp2
  go_ret
  exact ⟨rfl, _, rfl⟩

set_option maxHeartbeats 400000 in
theorem RLine_out (h : Ref o w r p win L) (c : Int) (hb : outL L c) : Calls Try.prog 37 #[ptr p, .int .i64 c] w fun e w' => e = .returned (.tuple #[lineV 0 0 false false false, .int .i64 60]) ∧ Below w.heap.size w w' := by
  have H := fun A => has_out (w := w.alloc A) (h.below ((Below.refl _ _).alloc (Nat.le_refl _) A)) c hb
  clear hb h
  unfold ptr at *
  go_enter Try.func37, Try.ntmps37
  go_wp2_with (go_at_call 51; refine (H _).mono ?_; rintro e w' ⟨rfl, rfl⟩)
  exact bodyPost_ret (v := .tuple #[lineV 0 0 false false false, .int .i64 60]) (by simp [results, Try.results37, go_sem, lineV]) rfl ⟨rfl, (Below.refl _ _).alloc (Nat.le_refl _) _⟩

set_option maxHeartbeats 1000000 in
theorem RLine_in (h : Ref o w r p win L) {i : Nat} {c : CI} (hi : L[i]? = some c) :
    Calls Try.prog 37 #[ptr p, .int .i64 i] w fun e w' => e = .returned (.tuple #[lineV (if c.cl || c.cu then 0 else (c.up.length - c.rd : Nat)) (if c.cu then 0 else (c.dn.length - c.tk : Nat)) c.cl c.en c.cu, .int .i64 0]) ∧ Below w.heap.size w w' := by
  have hil : i < L.length := (List.getElem?_eq_some_iff.1 hi).1
  have H := fun A => has_in (w := w.alloc A) (h.below ((Below.refl _ _).alloc (Nat.le_refl _) A)) hil
  obtain ⟨hG, hrd, htk⟩ := h.okC hi
  obtain ⟨lv, h⟩ := h
  have hc := h.blk.cell
  have hplt := h.blk.lt
  obtain ⟨g, cap, hv, hcell, _⟩ := h.elem hi
  have hfew := h.few
  subst hv
  have c0 : w.cell? ⟨g, i * 8, none⟩ = some (txt c.up) := hcell 0 _ rfl
  have c1 := hcell 1 _ rfl
  have c2 := hcell 2 _ rfl
  have c3 := hcell 3 _ rfl
  have c4 := hcell 4 _ rfl
  have c5 := hcell 5 _ rfl
  have c6 := hcell 6 _ rfl
  have c7 := hcell 7 _ rfl
  have hglt : g < w.heap.size := World.block_lt_of_cell? w _ c0
  have hwS : c.wrote.length ≤ 1048576 ∧ c.tk ≤ c.wrote.length := by unfold CI.wrote; split; rw [List.length_take]; have := hG.2.1; omega; exact ⟨hG.2.1, htk⟩
  have hwt : c.cu = true → c.wrote.length = c.tk := by intro hcu; unfold CI.wrote; rw [hcu, if_pos rfl, List.length_take]; omega
  have hwf : c.cu = false → c.wrote.length = c.dn.length := by intro hcu; unfold CI.wrote; rw [hcu]; rfl
  have huS := hG.1
  have hB := Below.refl w.heap.size w
  clear h hcell hi hG
  obtain ⟨up, rd, dn, tk, acc, en, cl, cu⟩ := c
  dsimp only at *
  generalize CI.wrote ⟨up, rd, dn, tk, acc, en, cl, cu⟩ = X at *
  obtain ⟨d1, hd1⟩ : ∃ d, rd + d = up.length := ⟨up.length - rd, by omega⟩
  obtain ⟨d2, hd2⟩ : ∃ d, tk + d = X.length := ⟨X.length - tk, by omega⟩
  have e1 : up.length - rd = d1 := by omega
  have e2 : (if cu then 0 else ((dn.length - tk : Nat) : Int)) = d2 := by
    cases cu
    · have := hwf rfl; simp; omega
    · have := hwt rfl; simp; omega
  rw [e1, e2]
  have hx1 : up.length ≤ rd + d1 ∧ rd + d1 ≤ up.length := by omega
  have hx2 : X.length ≤ tk + d2 ∧ tk + d2 ≤ X.length := by omega
  have hw1 : IntKind.i64.wrap ((up.length : Int) - rd) = d1 := by rw [show (up.length : Int) - rd = d1 by omega]; exact IntWalk.i64_in _ (by omega)
  have hw2 : IntKind.i64.wrap ((X.length : Int) - tk) = d2 := by rw [show (X.length : Int) - tk = d2 by omega]; exact IntWalk.i64_in _ (by omega)
  have hs1 : (up.length : Int) - rd = d1 := by omega
  have hs2 : (X.length : Int) - tk = d2 := by omega
  clear e1 e2 hd1 hd2 hwt hwf hrd htk
  have hw1' := Lib.hid hw1
  have hw2' := Lib.hid hw2
  have hs1' := Lib.hid hs1
  have hs2' := Lib.hid hs2
  clear hw1 hw2 hs1 hs2
  unfold ptr txt at *
  cases cu <;> cases cl
  · go_enter Try.func37, Try.ntmps37
    go_wp2_with (go_at_call 51; refine (H _).mono ?_; rintro e w' ⟨rfl, rfl⟩)
    refine bodyPost_ret (v := .tuple #[lineV ((up.length : Int) - rd) ((X.length : Int) - tk) false en false, .int .i64 0]) (by simp [results, Try.results37, go_sem, lineV]) rfl ⟨by rw [hs1'.out, hs2'.out]; first | done | rfl | simp, ?_⟩
    repeat (first | with_reducible exact hB | with_reducible refine Below.setCell ?_ (by first | (simp; done) | (simp; omega)) _ | with_reducible refine below_drewN ?_ _ | with_reducible refine Below.drew ?_ | with_reducible refine Below.alloc ?_ (by first | (simp; done) | (simp; omega)) _)
  · go_enter Try.func37, Try.ntmps37
    go_wp2_with (go_at_call 51; refine (H _).mono ?_; rintro e w' ⟨rfl, rfl⟩)
    refine bodyPost_ret (v := .tuple #[lineV (0) ((X.length : Int) - tk) true en false, .int .i64 0]) (by simp [results, Try.results37, go_sem, lineV]) rfl ⟨by rw [hs2'.out]; first | done | rfl | simp, ?_⟩
    repeat (first | with_reducible exact hB | with_reducible refine Below.setCell ?_ (by first | (simp; done) | (simp; omega)) _ | with_reducible refine below_drewN ?_ _ | with_reducible refine Below.drew ?_ | with_reducible refine Below.alloc ?_ (by first | (simp; done) | (simp; omega)) _)
  · go_enter Try.func37, Try.ntmps37
    go_wp2_with (go_at_call 51; refine (H _).mono ?_; rintro e w' ⟨rfl, rfl⟩)
    refine bodyPost_ret (v := .tuple #[lineV (0) ((X.length : Int) - tk) false en true, .int .i64 0]) (by simp [results, Try.results37, go_sem, lineV]) rfl ⟨by rw [hs2'.out]; first | done | rfl | simp, ?_⟩
    repeat (first | with_reducible exact hB | with_reducible refine Below.setCell ?_ (by first | (simp; done) | (simp; omega)) _ | with_reducible refine below_drewN ?_ _ | with_reducible refine Below.drew ?_ | with_reducible refine Below.alloc ?_ (by first | (simp; done) | (simp; omega)) _)
  · go_enter Try.func37, Try.ntmps37
    go_wp2_with (go_at_call 51; refine (H _).mono ?_; rintro e w' ⟨rfl, rfl⟩)
    refine bodyPost_ret (v := .tuple #[lineV (0) ((X.length : Int) - tk) true en true, .int .i64 0]) (by simp [results, Try.results37, go_sem, lineV]) rfl ⟨by rw [hs2'.out]; first | done | rfl | simp, ?_⟩
    repeat (first | with_reducible exact hB | with_reducible refine Below.setCell ?_ (by first | (simp; done) | (simp; omega)) _ | with_reducible refine below_drewN ?_ _ | with_reducible refine Below.drew ?_ | with_reducible refine Below.alloc ?_ (by first | (simp; done) | (simp; omega)) _)

theorem info89 : (Try.prog.info? 89).map (fun i => (i.size, i.bytes, i.zero.map fun z => z.cells.size)) = some (8, 56, some 8) := by kernel_rfl

set_option maxHeartbeats 400000 in
theorem RConnect_full (h : Ref o w r p win L) (hf : L.length = 1024) : Calls Try.prog 25 #[ptr p] w fun e w' => e = .returned (.tuple #[.int .i64 0, .int .i64 60]) ∧ w' = w := by
  obtain ⟨lv, h⟩ := h
  have hc := h.blk.cell
  obtain ⟨a, cap, hv, _⟩ := h.row.slice
  subst hv
  rw [hf] at hc
  clear h hf
  unfold ptr at *
  go_enter Try.func25, Try.ntmps25
  go_wp2
  go_ret2
  exact ⟨rfl, rfl⟩

set_option maxRecDepth 100000 in
set_option maxHeartbeats 1000000 in
theorem RConnect_ok (h : Ref o w r p win L) (hf : L.length < 1024) : Calls Try.prog 25 #[ptr p] w (RDid o w r p win (L ++ [freshC]) (.tuple #[.int .i64 L.length, .int .i64 0])) := by
  obtain ⟨i0, hi0, hz⟩ : ∃ i0, Try.prog.info? 89 = some i0 ∧ (i0.size, i0.bytes, i0.zero.map fun z => z.cells.size) = (8, 56, some 8) := by
    have h := info89
    cases hi : Try.prog.info? 89 with
    | none => rw [hi] at h; cases h
    | some i0 => rw [hi] at h; exact ⟨i0, rfl, by simpa using h⟩
  simp only [Prod.mk.injEq] at hz
  obtain ⟨hz1, hz2, hz3⟩ := hz
  obtain ⟨z, hz0, hzs⟩ : ∃ z, i0.zero = some z ∧ z.cells.size = 8 := by
    cases hz : i0.zero with
    | none => rw [hz] at hz3; cases hz3
    | some z => rw [hz] at hz3; exact ⟨z, rfl, by simpa using hz3⟩
  obtain ⟨lv, h⟩ := h
  have hc := h.blk.cell
  have hfr := h.blk.free
  have hlt := h.blk.lt
  have hW : ∀ w1, Below w.heap.size w w1 → (∀ q, w1.cell? ⟨p, q, none⟩ = #[.int .i64 win, lv][q]?) := fun w1 hb => (h.blk.below hb).cell
  have hP : ∀ A w1 w2 v' o2, w1 = w.alloc A → Row o2 w2 (r ++ [1]) 89 8 v' (L.length + 1) (flat L ++ rcells freshC) → Stp (r ++ [1]) o w1 o2 w2 → w2.cell? ⟨p, 1, none⟩ = some lv ∧ w2.frozen? ⟨p, 1, none⟩ = false ∧ RDid o w r p win (L ++ [freshC]) (.tuple #[.int .i64 L.length, .int .i64 0]) (.returned (.tuple #[.int .i64 L.length, .int .i64 0])) (w2.setCell ⟨p, 1, none⟩ v') := by
    rintro A w1 w2 v' o2 rfl hr st
    have hb1 := (h.blk.below ((Below.refl _ _).alloc (Nat.le_refl _) A)).keep st (np_app (by simp))
    have hst : Stp r o w o2 w2 := (Stp.ofBelow r o ((Below.refl _ _).alloc (Nat.le_refl _) A)).trans (st.wide (List.prefix_append _ _))
    refine ⟨hb1.cell 1, hb1.free 1, rfl, o2, ⟨v', hb1.setCell 1 v', ?_, by simp; omega, fun d hd => ?_, h.winle⟩, hst.setCell (show r <+: o2 p by rw [hb1.role]; exact List.prefix_append _ _) _⟩
    · have := hr.setCell ⟨p, 1, none⟩ v' (hb1.far (t := [1]) (by simp))
      simpa [flat] using this
    · simp only [List.mem_append, List.mem_singleton] at hd
      rcases hd with hd | rfl
      · exact h.ok d hd
      · exact ⟨⟨by simp [freshC], by simp [freshC], by simp [freshC]⟩, by simp [freshC], by simp [freshC]⟩
  have hrow := h.row
  obtain ⟨a, cap, hv, _⟩ := h.row.slice
  have Hh := Lib.hid h
  have HP := Lib.hid hP
  have Hrow := Lib.hid hrow
  clear h hP hrow hW hz3
  subst hv
  have hle : decide (1024 ≤ L.length) = false := by simp; omega
  unfold ptr at *
  go_enter Try.func25, Try.ntmps25
  go_wp2_with (
    at_builtin
    refine wpList_app (w.alloc (.cells #[.string ⟨#[]⟩, .string ⟨#[]⟩, .int .i64 0, .int .i64 0, .bool false, .bool false, .bool false, .bool false] 89)) rfl (.tmp 14) (.tmp 16) 34 34 rfl 89 i0 z 8 56 Try.underlying34 hi0 hz0 hz1 hz2 hzs rfl (Hrow.out.below ((Below.refl _ _).alloc (Nat.le_refl _) _)) (m := 1) (news := rcells freshC) rfl (Src.ofSlice _ Try.underlying34 ⟨w.heap.size, 0, none⟩ 1 1 _ rfl (World.news_of_block (heap_alloc_new w _)) (fun u hu => by simp [rcells, freshC, txt, CI.wrote] at hu; rcases hu with rfl | rfl | rfl | rfl | rfl | rfl | rfl | rfl <;> rfl)) (by unfold maxLen; omega) (by omega) ?_
    intro v' w2 o2 hr st
    obtain ⟨x1, x2, x3⟩ := HP.out _ _ w2 v' o2 rfl hr st
    obtain ⟨a', cap', hv', _⟩ := hr.slice
    subst hv'
    have HD := Lib.hid x3
    clear x3 hr st)
  go_ret2
  exact HD.out
end
end Go.Proofs.Ytlgboamedjoidaa
