import Derived.Test.YthojmgjgmbnopaaGreatDoorRq
import Derived.Test.YthojmgjgmbnopaaGreatDoorRg
namespace Go.Proofs.YthojmgjgmbnopaaGreatDoor
open Go Go.RowKit
/-! The document's Check. -/
theorem infoU8 : (Tryz.prog.info? 5).map (fun i => (i.zero, i.size, i.bytes)) = some (some (.int .u8 0), 1, 1) := by kernel_rfl
def RkRel (w : World) (b i : Value) (wr : World) : Prop :=
  ∃ (k : Nat) (xs : List UInt8) (o' : Roles), xs.length = k ∧ i = .int .i64 (k : Int) ∧ Row o' wr [9] 5 1 b k (xs.map bv) ∧ Stp [9] none0 w o' wr ∧ k ≤ 32
theorem rk_next {w wr : World} {a : Option Addr} {n cap : Nat} {i : Value} (_h : RkRel w (.slice a n cap) i wr) : True := trivial
theorem vw_newB (w : World) (x : UInt8) : Vw (fun b => b = w.heap.size) (w.alloc (.cells #[bv x] 5)) (.slice (some ⟨w.heap.size, 0, none⟩) 1 1) 1 1 ([x].map bv) := by
  refine ⟨⟨_, 1, rfl, Nat.le_refl _, by unfold maxLen; omega, .inr ⟨w.heap.size, 0, rfl, by simp, rfl, fun k u hk => ?_⟩⟩, rfl⟩
  have : k = 0 := by have := (List.getElem?_eq_some_iff.1 hk).1; simp at this; omega
  subst this
  cases hk
  unfold World.cell?
  rw [show (w.alloc (.cells #[bv x] 5)).heap[w.heap.size]? = some (.cells #[bv x] 5 (0, 0)) from heap_alloc_new w _]
  rfl
theorem one_bv (l : List UInt8) : ∀ u ∈ l.map bv, u.oneCell' = true := by
  intro u hu
  obtain ⟨x, _, rfl⟩ := List.mem_map.1 hu
  rfl
set_option maxRecDepth 10000 in
theorem row_text {o : Roles} {w : World} {r : List Nat} {a : Option Addr} {n cap : Nat} {xs : List UInt8} (h : Row o w r 5 1 (.slice a n cap) n (xs.map bv)) (hn : xs.length = n) :
    (convert 98 9 (.slice a n cap)).run Tryz.prog w = .ok (.string ⟨xs.toArray⟩) w := by
  rcases h.own.2 with ⟨h1, h2⟩ | ⟨g, cap', cur, h1, h2, h3, h4, h5, h6, h7⟩
  · injection h1 with e1 e2 e3
    subst e1 e2 e3
    have : xs = [] := List.eq_nil_of_length_eq_zero hn
    subst this
    rw [run_convert_bytes_string w 98 9 5 _ _ _ Tryz.underlying98 Tryz.underlying5 Tryz.underlying9]
    rfl
  · injection h1 with e1 e2 e3
    subst e1 e3
    refine run_bytes_text w g cap xs (fun j x hj => ?_) n hn.symm
    have hjn : j < n := by rw [← hn]; exact (List.getElem?_eq_some_iff.1 hj).1
    unfold World.cell?
    simp only [h3]
    have : cur[j]? = (xs.map bv)[j]? := by rw [← h7, List.getElem?_take, if_pos (by omega)]; simp
    simp only [Option.isSome_none, Bool.false_eq_true, if_false, this, List.getElem?_map, hj]
    rfl
set_option maxRecDepth 10000 in
set_option maxHeartbeats 4000000 in
theorem rcheck_yes {A : Nat → Prop} {w : World} {v : Value} {args : List (List UInt8)} (h : Vw A w v 1 args.length (args.map txt)) (hn : ∀ x ∈ args, x.length ≤ 1099511627776) (hl : args.length ≤ 1099511627776) (hc : chkL args = true) :
    Calls Tryz.prog 88 #[v] w fun e w' => e = .returned (.string ⟨#[]⟩) ∧ Below w.heap.size w w' := by
  cases args with
  | nil => cases hc
  | cons nm rest =>
    have HF := Lib.hid (rfind_ok nm w (hn nm (by simp)))
    have hc : (match specOf (lowL nm) with | none => false | some s => fitA s (rest.length + 1)) = true := hc
    obtain ⟨⟨a, cap, rfl, h1, h2, h3⟩, h4⟩ := h
    rcases h3 with h3 | ⟨b, off, rfl, g2, g3, g4⟩
    · simp at h3
    have c0 : w.cell? ⟨b, off, none⟩ = some (.string ⟨nm.toArray⟩) := g4 0 (txt nm) rfl
    have hN : (nm :: rest).length = rest.length + 1 := rfl
    rw [hN] at hl ⊢
    have hn1 : 0 < rest.length + 1 := by omega
    generalize rest.length + 1 = n at hl hn1 hc ⊢
    have hnI : decide ((0 : Int) < n) = true := decide_eq_true (by omega)
    clear h4 g4 hN hn
    try clear h1
    try clear h2
    unfold FindDid at HF
    cases hs : specOf (lowL nm) with
    | none => rw [hs] at hc; cases hc
    | some s =>
      rw [hs] at HF hc
      simp only [Option.getD_some, Option.isSome_some] at HF
      unfold txt at HF
      obtain ⟨hb1, hb2⟩ := arity_low s (specOf_mem hs)
      obtain ⟨name, arity, write, control, first, last, step⟩ := s
      dsimp only at hb1 hb2
      unfold fitA at hc
      dsimp only at hc
      have ew : IntKind.i64.wrap (- arity) = - arity := by rw [IntKind.wrap_i64]; omega
      clear hs
      by_cases ha : 0 ≤ arity
      · rw [if_pos ha] at hc
        have hne := of_decide_eq_true hc
        have d1 : decide (0 ≤ arity) = true := decide_eq_true ha
        have d2 : ((n : Int) != arity) = false := by simpa using hne
        have d2b : ((n : Int) == arity) = true := by simpa using hne
        have d4 : decide ((n : Int) < - arity) = false := decide_eq_false (by omega)
        clear hc hne ha hb1 hb2
        go_enter Tryz.func88, Tryz.ntmps88
        go_wp2_with fail
        refine HF.out.mono ?_; rintro e w2 ⟨rfl, hB⟩
        have HB := Lib.hid hB
        clear hB HF
        go_wp2_with fail
        go_ret
        exact ⟨rfl, HB.out.alloc HB.out.size _⟩
      · rw [if_neg ha] at hc
        have hne := of_decide_eq_true hc
        have d1 : decide (0 ≤ arity) = false := decide_eq_false ha
        have d4 : decide ((n : Int) < - arity) = false := decide_eq_false (by omega)
        clear hc hne ha hb1 hb2
        go_enter Tryz.func88, Tryz.ntmps88
        go_wp2_with fail
        refine HF.out.mono ?_; rintro e w2 ⟨rfl, hB⟩
        have HB := Lib.hid hB
        clear hB HF
        go_wp2_with fail
        go_ret
        exact ⟨rfl, HB.out.alloc HB.out.size _⟩
abbrev unkB : List UInt8 := [69, 82, 82, 32, 117, 110, 107, 110, 111, 119, 110, 32, 99, 111, 109, 109, 97, 110, 100, 32]
set_option maxRecDepth 10000 in
set_option maxHeartbeats 8000000 in
theorem rcheck_no {A : Nat → Prop} {w : World} {v : Value} {args : List (List UInt8)} (h : Vw A w v 1 args.length (args.map txt)) (hn : ∀ x ∈ args, x.length ≤ 1099511627776) (hl : args.length ≤ 1099511627776) (hc : chkL args = false) :
    Calls Tryz.prog 88 #[v] w fun e w' => ∃ c t, e = .returned (.string ⟨(c :: t : List UInt8).toArray⟩) ∧ Below w.heap.size w w' := by
  cases args with
  | nil =>
    obtain ⟨a, cap, rfl, _⟩ := id h.slice
    have HF := Lib.hid (rfind_ok [] w (by decide))
    rw [show specOf (lowL []) = none from by decide +kernel] at HF
    unfold FindDid txt at HF
    simp only [Option.getD_none, Option.isSome_none] at HF
    clear h
    go_enter Tryz.func88, Tryz.ntmps88
    go_wp2_with fail
    refine HF.out.mono ?_; rintro e w2 ⟨rfl, hB⟩
    have HB := Lib.hid hB
    clear hB HF
    go_wp2_with fail
    go_loopw [6, 7] (fun b i wr => b = .slice none 0 0 ∧ i = .int .i64 0 ∧ Below w.heap.size w wr) (fun _ _ _ => 0)
    case atStart => exact ⟨rfl, rfl, HB.out.alloc HB.out.size _⟩
    case round =>
      obtain ⟨rfl, rfl, hB⟩ := hrel
      have HB2 := Lib.hid hB
      have hcv : (convert 98 9 (.slice none 0 0)).run Tryz.prog wr = .ok (.string ⟨#[]⟩) wr := by
        rw [run_convert_bytes_string wr 98 9 5 _ _ _ Tryz.underlying98 Tryz.underlying5 Tryz.underlying9]
        rfl
      clear hB
      go_wp2_with fail
      go_ret
      exact ⟨_, _, rfl, HB2.out⟩
  | cons nm rest =>
    have HF := Lib.hid (rfind_ok nm w (hn nm (by simp)))
    have hnl := hn nm (by simp)
    have hc : (match specOf (lowL nm) with | none => false | some s => fitA s (rest.length + 1)) = false := hc
    obtain ⟨⟨a, cap, rfl, h1, h2, h3⟩, h4⟩ := h
    rcases h3 with h3 | ⟨b, off, rfl, g2, g3, g4⟩
    · simp at h3
    have c0 : w.cell? ⟨b, off, none⟩ = some (.string ⟨nm.toArray⟩) := g4 0 (txt nm) rfl
    have hN : (nm :: rest).length = rest.length + 1 := rfl
    rw [hN] at hl ⊢
    have hn1 : 0 < rest.length + 1 := by omega
    generalize rest.length + 1 = n at hl hn1 hc ⊢
    have hnI : decide ((0 : Int) < n) = true := decide_eq_true (by omega)
    clear h4 g4 hN hn
    try clear h1
    try clear h2
    unfold FindDid at HF
    cases hs : specOf (lowL nm) with
    | none =>
      rw [hs] at HF
      simp only [Option.getD_none, Option.isSome_none] at HF
      unfold txt at HF
      clear hs hc
      go_enter Tryz.func88, Tryz.ntmps88
      go_wp2_with fail
      refine HF.out.mono ?_; rintro e w2 ⟨rfl, hB⟩
      have HB := Lib.hid (hB.alloc hB.size (.cells #[.string ⟨spec0.name.toArray⟩, .int .i64 spec0.arity, .bool spec0.write, .bool spec0.control, .int .i64 spec0.first, .int .i64 spec0.last, .int .i64 spec0.step] 147))
      have hat : RkRel (w2.alloc (.cells #[.string ⟨spec0.name.toArray⟩, .int .i64 spec0.arity, .bool spec0.write, .bool spec0.control, .int .i64 spec0.first, .int .i64 spec0.last, .int .i64 spec0.step] 147)) (.slice none 0 0) (.int .i64 0) (w2.alloc (.cells #[.string ⟨spec0.name.toArray⟩, .int .i64 spec0.arity, .bool spec0.write, .bool spec0.control, .int .i64 spec0.first, .int .i64 spec0.last, .int .i64 spec0.step] 147)) :=
        ⟨0, [], none0, rfl, rfl, Row.nil _ _ _ _ _, Stp.refl _ _ _, by omega⟩
      obtain ⟨i0, hi0, hz0, hz1, hz2⟩ := info_parts infoU8
      clear hB HF c0
      go_wp2_with fail
      generalize (w2.alloc (.cells #[.string ⟨spec0.name.toArray⟩, .int .i64 spec0.arity, .bool spec0.write, .bool spec0.control, .int .i64 spec0.first, .int .i64 spec0.last, .int .i64 spec0.step] 147)) = W at *
      go_loopw [6, 7] (fun b i wr => RkRel W b i wr) (fun _ i _ => 32 - (intOf i).toNat)
      case atStart => exact hat
      case round =>
        obtain ⟨k, xs, o3, hxl, rfl, hrow, hst, hk32'⟩ := hrel
        have hsz : (⟨xs.toArray⟩ : ByteArray).size = k := by rw [← hxl]; simp [ByteArray.size]
        have hba : (⟨#[69, 82, 82, 32, 117, 110, 107, 110, 111, 119, 110, 32, 99, 111, 109, 109, 97, 110, 100, 32]⟩ : ByteArray) ++ ⟨xs.toArray⟩ = ⟨([69, 82, 82, 32, 117, 110, 107, 110, 111, 119, 110, 32, 99, 111, 109, 109, 97, 110, 100, 32] ++ xs).toArray⟩ := rfl
        clear hat
        obtain ⟨ar, cr, rfl, _⟩ := id hrow.slice
        have HEND := Lib.hid (row_text hrow hxl)
        have HST := Lib.hid hst
        by_cases hkl : k < nm.length
        · have d1 : decide ((k : Int) < nm.length) = true := decide_eq_true (by omega)
          by_cases hk32 : k < 32
          · have d2 : decide ((k : Int) < 32) = true := decide_eq_true (by omega)
            obtain ⟨x, hx⟩ : ∃ x, nm[k]? = some x := ⟨_, List.getElem?_eq_getElem hkl⟩
            have hix := idx_ok hx
            have hmx : k + 1 ≤ 64 := by omega
            have hm1 : k + 1 ≤ maxLen := by unfold maxLen; omega
            have hm2 : (k + 1) * 1 ≤ 140737488355328 := by omega
            have HSTEP := Lib.hid (fun (y : UInt8) => show (∀ (i' : Value), True) ∧ Row o3 (wr.alloc (.cells #[bv y] 5)) [9] 5 1 (.slice ar k cr) k (xs.map bv) ∧ Stp [9] none0 W o3 (wr.alloc (.cells #[bv y] 5)) ∧ True from
              ⟨fun _ => trivial, hrow.below ((Below.refl _ wr).alloc (Nat.le_refl _) (.cells #[bv y] 5)), hst.trans (Stp.ofBelow [9] o3 ((Below.refl _ wr).alloc (Nat.le_refl _) (.cells #[bv y] 5))), trivial⟩)
            have HSRC := Lib.hid (fun (y : UInt8) => (vw_newB wr y).src (P := Tryz.prog) Tryz.underlying98 (one_bv [y]))
            have HXL := Lib.hid hxl
            clear hrow hst hx HEND
            rcases hq : decide ((x.toNat : Int) < 32) with _ | _
            · rcases hq2 : decide ((126 : Int) < x.toNat) with _ | _
              · have hR := (HSTEP.out x).2.1
                have hS := (HSTEP.out x).2.2.1
                have hSR := HSRC.out x
                have HR := Lib.hid hR
                have HS := Lib.hid hS
                have HSR := Lib.hid hSR
                clear hR hS hSR HSTEP HSRC HST
                unfold bv at HR HS HSR
                go_wp2_with (
                  at_builtin
                  refine wpList_app _ rfl _ _ 98 98 rfl 5 i0 _ 1 1 Tryz.underlying98 hi0 hz0 hz1 hz2 rfl rfl HR.out rfl HSR.out hm1 hm2 ?_
                  intro v' w5 o5 hrow5 hst5
                  obtain ⟨a5, c5, rfl, _⟩ := id hrow5.slice
                  have D := Lib.hid (show RkRel W (.slice a5 (k + 1) c5) (.int .i64 ((k + 1 : Nat) : Int)) w5 from ⟨k + 1, xs ++ [x], o5, by simp [HXL.out], rfl, by rw [List.map_append]; exact hrow5, HS.out.trans hst5, by omega⟩)
                  clear hrow5 hst5 HR HS HSR)
                go_roundw
                case rel => exact D.out
                case measure => simp [intOf]; omega
              · have hR := (HSTEP.out 63).2.1
                have hS := (HSTEP.out 63).2.2.1
                have hSR := HSRC.out 63
                have HR := Lib.hid hR
                have HS := Lib.hid hS
                have HSR := Lib.hid hSR
                clear hR hS hSR HSTEP HSRC HST
                rw [show bv 63 = Value.int .u8 63 from rfl] at HR HS
                rw [show [(63 : UInt8)].map bv = [Value.int .u8 63] from rfl, show bv 63 = Value.int .u8 63 from rfl] at HSR
                go_wp2_with (
                  at_builtin
                  refine wpList_app _ rfl _ _ 98 98 rfl 5 i0 _ 1 1 Tryz.underlying98 hi0 hz0 hz1 hz2 rfl rfl HR.out rfl HSR.out hm1 hm2 ?_
                  intro v' w5 o5 hrow5 hst5
                  obtain ⟨a5, c5, rfl, _⟩ := id hrow5.slice
                  have D := Lib.hid (show RkRel W (.slice a5 (k + 1) c5) (.int .i64 ((k + 1 : Nat) : Int)) w5 from ⟨k + 1, xs ++ [63], o5, by simp [HXL.out], rfl, by rw [List.map_append]; exact hrow5, HS.out.trans hst5, by omega⟩)
                  clear hrow5 hst5 HR HS HSR)
                go_roundw
                case rel => exact D.out
                case measure => simp [intOf]; omega
            · have hR := (HSTEP.out 63).2.1
              have hS := (HSTEP.out 63).2.2.1
              have hSR := HSRC.out 63
              have HR := Lib.hid hR
              have HS := Lib.hid hS
              have HSR := Lib.hid hSR
              clear hR hS hSR HSTEP HSRC HST
              rw [show bv 63 = Value.int .u8 63 from rfl] at HR HS
              rw [show [(63 : UInt8)].map bv = [Value.int .u8 63] from rfl, show bv 63 = Value.int .u8 63 from rfl] at HSR
              go_wp2_with (
                at_builtin
                refine wpList_app _ rfl _ _ 98 98 rfl 5 i0 _ 1 1 Tryz.underlying98 hi0 hz0 hz1 hz2 rfl rfl HR.out rfl HSR.out hm1 hm2 ?_
                intro v' w5 o5 hrow5 hst5
                obtain ⟨a5, c5, rfl, _⟩ := id hrow5.slice
                have D := Lib.hid (show RkRel W (.slice a5 (k + 1) c5) (.int .i64 ((k + 1 : Nat) : Int)) w5 from ⟨k + 1, xs ++ [63], o5, by simp [HXL.out], rfl, by rw [List.map_append]; exact hrow5, HS.out.trans hst5, by omega⟩)
                clear hrow5 hst5 HR HS HSR)
              go_roundw
              case rel => exact D.out
              case measure => simp [intOf]; omega
          · have d2 : decide ((k : Int) < 32) = false := decide_eq_false (by omega)
            have he := HEND.out
            clear hrow hst HEND
            go_wp2_with fail
            go_ret
            exact ⟨69, [82, 82, 32, 117, 110, 107, 110, 111, 119, 110, 32, 99, 111, 109, 109, 97, 110, 100, 32] ++ xs, rfl, HB.out.trans (HST.out.below0.mono HB.out.size)⟩
        · have d1 : decide ((k : Int) < nm.length) = false := decide_eq_false (by omega)
          have he := HEND.out
          clear hrow hst HEND
          go_wp2_with fail
          go_ret
          exact ⟨69, [82, 82, 32, 117, 110, 107, 110, 111, 119, 110, 32, 99, 111, 109, 109, 97, 110, 100, 32] ++ xs, rfl, HB.out.trans (HST.out.below0.mono HB.out.size)⟩
    | some s =>
      rw [hs] at HF hc
      simp only [Option.getD_some, Option.isSome_some] at HF
      unfold txt at HF
      obtain ⟨hb1, hb2⟩ := arity_low s (specOf_mem hs)
      have hnl := name_low s (specOf_mem hs)
      obtain ⟨name, arity, write, control, first, last, step⟩ := s
      dsimp only at hb1 hb2 hnl
      have hsz : (⟨name.toArray⟩ : ByteArray).size = name.length := by simp [ByteArray.size]
      have hba : (⟨#[69, 82, 82, 32, 119, 114, 111, 110, 103, 32, 110, 117, 109, 98, 101, 114, 32, 111, 102, 32, 97, 114, 103, 117, 109, 101, 110, 116, 115, 58, 32]⟩ : ByteArray) ++ ⟨name.toArray⟩ = ⟨([69, 82, 82, 32, 119, 114, 111, 110, 103, 32, 110, 117, 109, 98, 101, 114, 32, 111, 102, 32, 97, 114, 103, 117, 109, 101, 110, 116, 115, 58, 32] ++ name).toArray⟩ := rfl
      unfold fitA at hc
      dsimp only at hc
      have ew : IntKind.i64.wrap (- arity) = - arity := by rw [IntKind.wrap_i64]; omega
      clear hs
      by_cases ha : 0 ≤ arity
      · rw [if_pos ha] at hc
        have hne := of_decide_eq_false hc
        have d1 : decide (0 ≤ arity) = true := decide_eq_true ha
        have d2 : ((n : Int) != arity) = true := by simpa using hne
        have d2b : ((n : Int) == arity) = false := by simpa using hne
        clear hc hne ha hb1 hb2
        go_enter Tryz.func88, Tryz.ntmps88
        go_wp2_with fail
        refine HF.out.mono ?_; rintro e w2 ⟨rfl, hB⟩
        have HB := Lib.hid hB
        clear hB HF
        go_wp2_with fail
        go_ret
        exact ⟨69, [82, 82, 32, 119, 114, 111, 110, 103, 32, 110, 117, 109, 98, 101, 114, 32, 111, 102, 32, 97, 114, 103, 117, 109, 101, 110, 116, 115, 58, 32] ++ name, rfl, HB.out.alloc HB.out.size _⟩
      · rw [if_neg ha] at hc
        have hne := of_decide_eq_false hc
        have d1 : decide (0 ≤ arity) = false := decide_eq_false ha
        have d4 : decide ((n : Int) < - arity) = true := decide_eq_true (by omega)
        clear hc hne ha hb1 hb2
        go_enter Tryz.func88, Tryz.ntmps88
        go_wp2_with fail
        refine HF.out.mono ?_; rintro e w2 ⟨rfl, hB⟩
        have HB := Lib.hid hB
        clear hB HF
        go_wp2_with fail
        go_ret
        exact ⟨69, [82, 82, 32, 119, 114, 111, 110, 103, 32, 110, 117, 109, 98, 101, 114, 32, 111, 102, 32, 97, 114, 103, 117, 109, 101, 110, 116, 115, 58, 32] ++ name, rfl, HB.out.alloc HB.out.size _⟩
end Go.Proofs.YthojmgjgmbnopaaGreatDoor
