import Derived.Test.YthojmgjgmbnopaaGreatDoorVt
import Derived.Test.YthojmgjgmbnopaaGreatDoorBl
import Derived.Deep.QuietTactic
import Derived.BigQuiet
import Derived.Lib.AppendZeros
namespace Go.Proofs.YthojmgjgmbnopaaGreatDoor
open Go Go.RowKit
/-! The document's space. -/
theorem run_appnil {P : Program} (w : World) (t tx ty e e' : TypeId) (i : TypeInfo) (ht : P.underlying t = some (.slice e)) (hk : P.underlying tx = some (.slice e')) (hi : P.info? e = some i) :
    (Builtin.append_ #[t, tx] ty #[.slice none 0 0, .slice none 0 0]).run P w = .ok (.slice none 0 0) w := by
  have hs := Src.ofNil (P := P) (w := w) (size := i.size) hk 0
  simp [Builtin.append_, run_underlying ht, run_underlying hk, sizeOf, typeInfo, hi, hs.len, hs.cells]
set_option maxRecDepth 10000 in
theorem xEmpty_ok (w : World) (s : List UInt8) : Calls Tryz.prog 144 #[tvV s] w fun e w' => e = .returned (.bool false) ∧ Below w.heap.size w w' := by
  go_enter Tryz.func144, Tryz.ntmps144
  go_wp2_with fail
  go_ret
  exact ⟨rfl, (Below.refl _ _).alloc (Nat.le_refl _) _⟩
set_option maxRecDepth 10000 in
theorem xfields_ok (w : World) : Calls Tryz.prog 146 #[.slice none 0 0] w fun e w' => e = .returned (.bool true) ∧ w' = w := by
  go_enter Tryz.func146, Tryz.ntmps146
  go_wp2_with fail
  go_loopw [3] (fun i wr => i = .int .i64 0 ∧ wr = w) (fun _ _ => 0)
  case atStart => exact ⟨rfl, rfl⟩
  case round =>
    obtain ⟨rfl, rfl⟩ := hrel
    go_wp2_with fail
    go_ret
    exact ⟨rfl, rfl⟩
set_option maxRecDepth 10000 in
theorem rfOf_ok (w : World) : Calls Tryz.prog 210 #[.slice none 0 0] w fun e w' => e = .returned (.slice none 0 0) ∧ w' = w := by
  go_enter Tryz.func210, Tryz.ntmps210
  go_wp2_with fail
  go_loopw [3, 4] (fun l i wr => l = .slice none 0 0 ∧ i = .int .i64 0 ∧ wr = w) (fun _ _ _ => 0)
  case atStart => exact ⟨rfl, rfl, rfl⟩
  case round =>
    obtain ⟨rfl, rfl, rfl⟩ := hrel
    go_wp2_with fail
    go_ret
    exact ⟨rfl, rfl⟩
set_option maxRecDepth 10000 in
theorem xranked_ok (w : World) : Calls Tryz.prog 147 #[.slice none 0 0] w fun e w' => e = .returned (.bool true) ∧ w' = w := by
  have HO := Lib.hid (rfOf_ok w)
  go_enter Tryz.func147, Tryz.ntmps147
  go_wp2_with fail
  go_loopw [3, 4] (fun l i wr => l = .slice none 0 0 ∧ i = .int .i64 0 ∧ wr = w) (fun _ _ _ => 0)
  case atStart => exact ⟨rfl, rfl, rfl⟩
  case round =>
    obtain ⟨rfl, rfl, rfl⟩ := hrel
    go_wp2_with fail
    refine HO.out.mono ?_; rintro e w3 ⟨rfl, rfl⟩
    go_wp2_with fail
    go_ret
    exact ⟨rfl, rfl⟩
set_option maxRecDepth 10000 in
set_option maxHeartbeats 2000000 in
theorem xCheck_ok (w : World) (s : List UInt8) (hs : s.length ≤ 1048576) : Calls Tryz.prog 78 #[tvV s] w fun e w' => e = .returned (.int .i64 0) ∧ Below w.heap.size w w' := by
  have d0 : decide ((1048576 : Int) < s.length) = false := decide_eq_false (by omega)
  have HE := Lib.hid (fun W => xEmpty_ok W s)
  have HF := Lib.hid (fun W => xfields_ok W)
  have HR := Lib.hid (fun W => xranked_ok W)
  have hb : Blk none0 (w.alloc (.cells #[.int .i64 1, .string ⟨s.toArray⟩, .slice none 0 0, .slice none 0 0, .slice none 0 0] 43)) [] w.heap.size #[.int .i64 1, .string ⟨s.toArray⟩, .slice none 0 0, .slice none 0 0, .slice none 0 0] 43 := ⟨heap_alloc_new w _, rfl⟩
  have Hb := Lib.hid hb
  clear hb
  obtain ⟨b, q1, q2⟩ : ∃ b, (s == []) = b ∧ (s != []) = !b := ⟨_, rfl, rfl⟩
  cases b
  all_goals (
    simp only [Bool.not_true, Bool.not_false] at q2
    go_enter Tryz.func78, Tryz.ntmps78
    go_wp2_with fail
    refine (HE.out _).mono ?_; rintro e w2 ⟨rfl, hB2⟩
    have hb2 := Hb.out.below hB2
    have hc2 := hb2.cell
    have HB2 := Lib.hid (((Below.refl w.heap.size w).alloc (Nat.le_refl _) _).trans (hB2.mono (by simp)))
    clear hB2 hb2 HE Hb
    go_wp2_with fail
    refine (HF.out _).mono ?_; rintro e w3 ⟨rfl, rfl⟩
    go_wp2_with fail
    refine (HR.out _).mono ?_; rintro e w4 ⟨rfl, rfl⟩
    go_wp2_with fail
    go_loopw [3] (fun i wr => i = .int .i64 0 ∧ wr = w4) (fun _ _ => 0)
    case atStart => exact ⟨rfl, rfl⟩
    case round =>
      obtain ⟨rfl, rfl⟩ := hrel
      go_wp2_with fail
      go_ret
      exact ⟨rfl, HB2.out⟩)
set_option maxRecDepth 10000 in
theorem xFit_ok (w : World) (s : List UInt8) (hs : s.length ≤ 1048576) {d : Int} (hd : 0 ≤ d ∧ d ≤ 9007199254740992) : Calls Tryz.prog 34 #[tvV s, .int .i64 d] w fun e w' => e = .returned (.int .i64 0) ∧ Below w.heap.size w w' := by
  have HC := Lib.hid (fun W => xCheck_ok W s hs)
  have e1 : decide (d < 0) = false := decide_eq_false (by omega)
  have e2 : decide ((9007199254740992 : Int) < d) = false := decide_eq_false (by omega)
  clear hd
  go_enter Tryz.func34, Tryz.ntmps34
  go_wp2_with fail
  refine (HC.out _).mono ?_; rintro e w2 ⟨rfl, hB2⟩
  have HB2 := Lib.hid (((Below.refl w.heap.size w).alloc (Nat.le_refl _) _).trans (hB2.mono (by simp)))
  clear hB2 HC
  go_wp2_with fail
  go_ret
  exact ⟨rfl, HB2.out⟩
theorem infoFd : (Tryz.prog.info? 129).isSome = true := by kernel_rfl
theorem infoSc : (Tryz.prog.info? 131).isSome = true := by kernel_rfl
set_option maxRecDepth 10000 in
set_option maxHeartbeats 1000000 in
theorem xCopy_ok (w : World) (s : List UInt8) : Calls Tryz.prog 92 #[tvV s] w fun e w' => e = .returned (tvV s) ∧ Below w.heap.size w w' := by
  obtain ⟨i1, hi1, _⟩ := info_parts infoS
  obtain ⟨i2, hi2⟩ := Option.isSome_iff_exists.1 infoFd
  obtain ⟨i3, hi3⟩ := Option.isSome_iff_exists.1 infoSc
  have h1 := fun W => run_appnil (P := Tryz.prog) W 39 39 39 9 9 i1 Tryz.underlying39 Tryz.underlying39 hi1
  have h2 := fun W => run_appnil (P := Tryz.prog) W 40 40 40 129 129 i2 Tryz.underlying40 Tryz.underlying40 hi2
  have h3 := fun W => run_appnil (P := Tryz.prog) W 41 41 41 131 131 i3 Tryz.underlying41 Tryz.underlying41 hi3
  have H1 := Lib.hid h1
  have H2 := Lib.hid h2
  have H3 := Lib.hid h3
  clear h1 h2 h3 hi1 hi2 hi3
  go_enter Tryz.func92, Tryz.ntmps92
  go_wp2_with (first
    | (at_builtin
       refine Lib.wpList_append_run _ rfl _ _ 39 39 rfl _ _ rfl rfl _ _ (H1.out _) ?_)
    | (at_builtin
       refine Lib.wpList_append_run _ rfl _ _ 40 40 rfl _ _ rfl rfl _ _ (H2.out _) ?_)
    | (at_builtin
       refine Lib.wpList_append_run _ rfl _ _ 41 41 rfl _ _ rfl rfl _ _ (H3.out _) ?_))
  refine bodyPost_ret (v := tvV s) (by simp [results, Tryz.results92, go_sem]) rfl ⟨rfl, ?_⟩
  repeat (first | refine Below.setCell ?_ (by first | (simp; done) | (simp; omega)) _ | refine Below.alloc ?_ (by first | (simp; done) | (simp; omega)) _)
  exact Below.refl _ _
abbrev xsC (l : Value) (n : Nat) : Array Value := #[l, .int .u64 n, .bool false, .slice none 0 0, .int .u64 0, .slice none 0 0, .slice none 0 0]
set_option maxRecDepth 10000 in
theorem xnote_ok {o : Roles} {w : World} {r : List Nat} {x : Nat} {l : Value} {n : Nat} (h : Blk o w r x (xsC l n) 79) (k : List UInt8) (hn : n ≤ 4611686018427387904) : Calls Tryz.prog 93 #[.pointer (some ⟨x, 0, none⟩), txt k] w fun e w' => e = .returned (.tuple #[]) ∧ w' = w.setCell ⟨x, 1, none⟩ (.int .u64 ((n + 1 : Nat) : Int)) := by
  have hcl := h.cell
  have hf := h.free
  have e0 : IntKind.u64.wrap ((n : Int) + 1) = (n : Int) + 1 := by rw [IntKind.wrap_u64]; omega
  clear h
  unfold txt
  go_enter Tryz.func93, Tryz.ntmps93
  go_wp2
  exact bodyPost_ret (v := .tuple #[]) (by simp [results, Tryz.results93]) rfl ⟨rfl, by simp⟩
set_option maxRecDepth 10000 in
theorem xFind_nil (w : World) (k : List UInt8) : Calls Tryz.prog 173 #[.slice none 0 0, txt k] w fun e w' => e = .returned (.tuple #[.int .i64 0, .bool false]) ∧ Below w.heap.size w w' := by
  unfold txt
  go_enter Tryz.func173, Tryz.ntmps173
  go_wp2_with fail
  go_loopw [6, 7] (fun i j wr => i = .int .i64 0 ∧ j = .int .i64 0 ∧ wr = w) (fun _ _ _ => 0)
  case atStart => exact ⟨rfl, rfl, rfl⟩
  case round =>
    obtain ⟨rfl, rfl, rfl⟩ := hrel
    go_wp2_with fail
    go_quiet (fail)
    go_wp2_with fail
    go_ret2
    exact ⟨rfl, below_drewN (Below.refl _ _) _⟩
abbrev zEnt : Value := .agg #[.string ⟨#[]⟩, .int .i64 0, .string ⟨#[]⟩, .slice none 0 0, .slice none 0 0, .slice none 0 0, .int .i64 0, .int .u64 0]
theorem infoEntry : (Tryz.prog.info? 133).map (fun i => (i.zero, i.size, i.bytes)) = some (some zEnt, 8, 128) := by kernel_rfl
abbrev entryC (k s : List UInt8) (d n : Int) : List Value := [.string ⟨k.toArray⟩, .int .i64 1, .string ⟨s.toArray⟩, .slice none 0 0, .slice none 0 0, .slice none 0 0, .int .i64 d, .int .u64 n]
set_option maxRecDepth 10000 in
set_option maxHeartbeats 2000000 in
theorem xwith_nil (w : World) (k s : List UInt8) (d n : Int) : Calls Tryz.prog 94 #[.slice none 0 0, .agg (entryC k s d n).toArray] w fun e w' => (∃ a m c, e = .returned (.slice a m c)) ∧ Below w.heap.size w w' := by
  obtain ⟨i0, hi0, hz0, hz1, hz2⟩ := info_parts infoEntry
  have h1 := fun W => run_appnil (P := Tryz.prog) W 67 67 67 133 133 i0 Tryz.underlying67 Tryz.underlying67 hi0
  have hs1 : ∀ W, (Instr.slice 67 (.slice none 0 0) none (some (.int .i64 0)) none).run Tryz.prog W = .ok (.slice none 0 0) W := fun W => by
    simp [Instr.slice, run_underlying Tryz.underlying67, Instr.sliceBounds, Instr.sliceBound, asIntOf, sizeOf, typeInfo, hi0]
  have hs2 : ∀ W, (Instr.slice 67 (.slice none 0 0) (some (.int .i64 0)) none none).run Tryz.prog W = .ok (.slice none 0 0) W := fun W => by
    simp [Instr.slice, run_underlying Tryz.underlying67, Instr.sliceBounds, Instr.sliceBound, asIntOf, sizeOf, typeInfo, hi0]
  have HFI := Lib.hid (fun W => xFind_nil W k)
  unfold txt at HFI
  have H1 := Lib.hid h1
  have hb : Blk none0 (w.alloc (.cells (entryC k s d n).toArray 133)) [] w.heap.size (entryC k s d n).toArray 133 := ⟨heap_alloc_new w _, rfl⟩
  have Hb := Lib.hid hb
  clear hb h1
  go_enter Tryz.func94, Tryz.ntmps94
  go_wp2_with fail
  refine (HFI.out _).mono ?_; rintro e w2 ⟨rfl, hB2⟩
  have hb2 := Hb.out.below hB2
  have hc2 := hb2.cell
  have HB2 := Lib.hid (((Below.refl w.heap.size w).alloc (Nat.le_refl _) _).trans (hB2.mono (by simp)))
  clear hB2 hb2 HFI Hb
  have hB3 := Lib.hid ((Below.refl w2.heap.size w2).alloc (Nat.le_refl _) (.cells #[.string ⟨k.toArray⟩, .int .i64 1, .string ⟨s.toArray⟩, .slice none 0 0, .slice none 0 0, .slice none 0 0, .int .i64 d, .int .u64 n] 133))
  have HSRC := Lib.hid ((vw_newK w2 #[.string ⟨k.toArray⟩, .int .i64 1, .string ⟨s.toArray⟩, .slice none 0 0, .slice none 0 0, .slice none 0 0, .int .i64 d, .int .u64 n] 133 8 rfl).src (P := Tryz.prog) Tryz.underlying67 (by
    intro u hu
    simp only [List.mem_cons, List.not_mem_nil, or_false] at hu
    rcases hu with rfl | rfl | rfl | rfl | rfl | rfl | rfl | rfl <;> rfl))
  have HROW := Lib.hid (Row.nil none0 (w2.alloc (.cells #[.string ⟨k.toArray⟩, .int .i64 1, .string ⟨s.toArray⟩, .slice none 0 0, .slice none 0 0, .slice none 0 0, .int .i64 d, .int .u64 n] 133)) [9] 133 8)
  have hm1 : 0 + 1 ≤ maxLen := by unfold maxLen; omega
  have hm2 : 0 + 1 + 0 ≤ maxLen := by unfold maxLen; omega
  have hm3 : (0 + 1) * 128 ≤ 140737488355328 := by omega
  have hm4 : (0 + 1 + 0) * 128 ≤ 140737488355328 := by omega
  have HM1 := Lib.hid hm1
  have HM2 := Lib.hid hm2
  have HM3 := Lib.hid hm3
  have HM4 := Lib.hid hm4
  clear hm1 hm2 hm3 hm4
  go_wp2_with (first
    | (at_builtin
       refine Lib.wpList_append_run _ rfl _ _ 67 67 rfl _ _ rfl rfl _ _ (H1.out _) ?_
       clear H1)
    | (at_builtin
       refine wpList_app _ rfl _ _ 67 67 rfl 133 i0 _ 8 128 Tryz.underlying67 hi0 hz0 hz1 hz2 rfl rfl HROW.out rfl HSRC.out HM1.out HM3.out ?_
       intro v4 w4 o4 hr4 hs4
       obtain ⟨a4, c4, rfl, _⟩ := id hr4.slice
       have HR4 := Lib.hid hr4
       have HS4 := Lib.hid hs4
       clear hr4 hs4 HROW HSRC)
    | (at_builtin
       refine wpList_app _ rfl _ _ 67 67 rfl 133 i0 _ 8 128 Tryz.underlying67 hi0 hz0 hz1 hz2 rfl rfl HR4.out rfl (Src.ofNil _ Tryz.underlying67 0) HM2.out HM4.out ?_
       intro v5 w5 o5 hr5 hs5
       obtain ⟨a5, c5, rfl, _⟩ := id hr5.slice
       have HB5 := Lib.hid (HB2.out.trans ((hB3.out.trans ((HS4.out.trans hs5).below0.mono hB3.out.size)).mono HB2.out.size))
       clear hr5 hs5))
  go_ret
  exact ⟨⟨_, _, _, rfl⟩, HB5.out⟩
set_option maxRecDepth 10000 in
theorem xchange_ok {o : Roles} {w : World} {r : List Nat} {x : Nat} {l : Value} {n : Nat} (h : Blk o w r x (xsC l n) 79) (x0 x1 x2 x3 x4 x5 x6 x7 : Value) : Calls Tryz.prog 95 #[.pointer (some ⟨x, 0, none⟩), .agg #[x0, x1, x2, x3, x4, x5, x6, x7]] w fun e w' => e = .returned (.tuple #[]) ∧ Below w.heap.size w w' := by
  have hcl := h.cell
  have hl := h.lt
  clear h
  go_enter Tryz.func95, Tryz.ntmps95
  go_wp2
  go_end0
  exact ⟨rfl, (Below.refl _ _).alloc (Nat.le_refl _) _⟩
end Go.Proofs.YthojmgjgmbnopaaGreatDoor
