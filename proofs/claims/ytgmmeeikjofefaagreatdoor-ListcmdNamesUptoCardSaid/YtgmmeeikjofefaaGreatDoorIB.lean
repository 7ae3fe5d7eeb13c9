import Derived.Test.YtgmmeeikjofefaaGreatDoorIA
import Derived.Test.YtgmmeeikjofefaaGreatDoorGM
import Derived.Deep.QuietTactic
import Derived.BigQuiet
import Derived.Test.YtgmmeeikjofefaaGreatDoorGH
import Derived.Lib.AppendZeros
import Derived.Deep.RegionHeld
namespace Go.Proofs.YtgmmeeikjofefaaGreatDoor
open Go Go.RowKit
/-! The names of the commands; what is no request of one. -/
def namesL : List (List UInt8) := [[108, 105, 110, 100, 101, 120], [108, 105, 110, 115, 101, 114, 116], [108, 108, 101, 110], [108, 109, 111, 118, 101], [108, 112, 111, 112], [108, 112, 111, 115], [108, 112, 117, 115, 104], [108, 112, 117, 115, 104, 120], [108, 114, 97, 110, 103, 101], [108, 114, 101, 109], [108, 115, 101, 116], [108, 116, 114, 105, 109], [114, 112, 111, 112], [114, 112, 111, 112, 108, 112, 117, 115, 104], [114, 112, 117, 115, 104], [114, 112, 117, 115, 104, 120]]
theorem lNames_ok (w : World) : Calls Tryz.prog 18 #[] w fun e w' => e = .returned (.slice (some ⟨w.heap.size, 0, none⟩) 16 16) ∧ w' = w.alloc (.cells (namesL.map txt).toArray 9) := by
  go_enter Tryz.func18, Tryz.ntmps18
  go_wp2_with fail
  go_ret
  exact ⟨rfl, rfl⟩
theorem rfNames_ok (w : World) : Calls Tryz.prog 19 #[] w fun e w' => e = .returned (.slice (some ⟨w.heap.size, 0, none⟩) 16 16) ∧ w' = w.alloc (.cells (namesL.map txt).toArray 9) := by
  go_enter Tryz.func19, Tryz.ntmps19
  go_wp2_with fail
  go_ret
  exact ⟨rfl, rfl⟩
set_option maxRecDepth 10000 in
set_option maxHeartbeats 1000000 in
theorem same_eq {A B : Nat → Prop} {w : World} {va vb : Value} {l : List (List UInt8)} (ha : Vw A w va 1 l.length (l.map txt)) (hb : Vw B w vb 1 l.length (l.map txt)) (hl : l.length ≤ 1099511627776) :
    Calls Tryz.prog 20 #[va, vb] w fun e w' => e = .returned (.bool true) ∧ Below w.heap.size w w' := by
  obtain ⟨a1, cap1, rfl, hcap1, _⟩ := id ha.slice
  obtain ⟨a2, cap2, rfl, hcap2, _⟩ := id hb.slice
  have HA := Lib.hid ha
  have HB := Lib.hid hb
  clear ha hb
  go_enter Tryz.func20, Tryz.ntmps20
  go_wp2_with fail
  go_loopw [5] (fun i wr => ∃ k q : Nat, k ≤ l.length ∧ i = .int .i64 (k : Int) ∧ wr = w.drewN q) (fun i _ => l.length - (intOf i).toNat)
  case atStart => exact ⟨0, 0, Nat.zero_le _, rfl, rfl⟩
  case round =>
    obtain ⟨k, q, hk, rfl, rfl⟩ := hrel
    by_cases hkl : k < l.length
    · obtain ⟨x, hx⟩ : ∃ x, l[k]? = some x := ⟨_, List.getElem?_eq_getElem hkl⟩
      obtain ⟨b1, off1, rfl, _, _, hg1⟩ := vw_get HA.out (by omega)
      obtain ⟨b2, off2, rfl, _, _, hg2⟩ := vw_get HB.out (by omega)
      have hc1 := hg1 k x hx
      have hc2 := hg2 k x hx
      have hkI : (0 : Int) ≤ k ∧ (k : Int) < l.length := by omega
      obtain ⟨hk0, hk1⟩ := hkI
      clear hg1 hg2 hx HA HB
      go_wp2_with fail
      go_quiet (fail)
      go_wp2_with fail
      go_roundw
      case rel => exact ⟨k + 1, _, hkl, by go_num, by first | rfl | exact World.drewN_drewN _ _ _⟩
      case measure => simp [intOf]; omega
    · obtain rfl : k = l.length := by omega
      clear HA HB
      go_wp2_with fail
      go_ret
      exact ⟨rfl, below_drewN (Below.refl _ _) q⟩
/-- Is that a request of one of these commands? -/
def mineL (names : List (List UInt8)) (args : List (List UInt8)) : Bool := chkL args && (match args with | [] => false | nm :: _ => decide (lowL nm ∈ names))
def MineRel (w : World) (N : List (List UInt8)) (low : List UInt8) (i : Value) (wr : World) : Prop :=
  ∃ k : Nat, k ≤ N.length ∧ i = .int .i64 (k : Int) ∧ Below w.heap.size w wr ∧ ∀ j x, j < k → N[j]? = some x → x ≠ low
set_option maxRecDepth 10000 in
set_option maxHeartbeats 4000000 in
theorem mine_ok {A B : Nat → Prop} {w : World} {vn va : Value} {N args : List (List UInt8)} (hN : Vw A w vn 1 N.length (N.map txt)) (ha : Vw B w va 1 args.length (args.map txt)) (hn : ∀ x ∈ args, x.length ≤ 1099511627776) (hl : args.length ≤ 1099511627776) (hNl : N.length ≤ 1000) :
    Calls Tryz.prog 22 #[vn, va] w fun e w' => (∃ t, e = .returned (.tuple #[txt t, .bool (mineL N args)])) ∧ Below w.heap.size w w' := by
  obtain ⟨a1, cap1, rfl, hcap1, _⟩ := id hN.slice
  obtain ⟨a2, cap2, rfl, hcap2, _⟩ := id ha.slice
  rcases hc : chkL args with _ | _
  · have HC := Lib.hid (rcheck_no ha hn hl hc)
    have hm : mineL N args = false := by unfold mineL; rw [hc]; rfl
    rw [hm]
    clear hN ha hc hm
    go_enter Tryz.func22, Tryz.ntmps22
    go_wp2_with fail
    refine HC.out.mono ?_; rintro e w2 ⟨c, t, rfl, hB⟩
    have HB := Lib.hid hB
    clear hB HC
    go_wp2_with fail
    go_ret2
    exact ⟨⟨[], rfl⟩, HB.out⟩
  · cases args with
    | nil => cases hc
    | cons nm rest =>
      have hC0 := rcheck_yes ha hn hl hc
      obtain ⟨b, off, cap', he, hcap, hbl, hk⟩ := vw_head1 (n := rest.length) ha
      injection he with e1 e2 e3
      subst e1 e3
      have hlb : b < w.heap.size := World.block_lt_of_cell? _ _ hk
      have hm : mineL N (nm :: rest) = decide (lowL nm ∈ N) := by unfold mineL; rw [hc]; rfl
      rw [hm]
      have HLO := Lib.hid (fun W => rlower_ok nm W (hn nm (by simp)))
      have HN := Lib.hid hN
      have hn1 : 0 < (nm :: rest).length := by simp
      obtain ⟨n, hnn⟩ : ∃ n, (nm :: rest).length = n := ⟨_, rfl⟩
      rw [hnn] at hC0 hl hn1 ⊢
      have HC := Lib.hid hC0
      clear hN ha hc hm hn e2 hnn hC0
      generalize lowL nm = low at *
      unfold txt at HLO
      go_enter Tryz.func22, Tryz.ntmps22
      go_wp2_with fail
      refine HC.out.mono ?_; rintro e w2 ⟨rfl, hB⟩
      have HB := Lib.hid hB
      have hk2 : w2.cell? ⟨b, off, none⟩ = some (.string ⟨nm.toArray⟩) := by rw [(bcell hB).1 _ _ hlb]; exact hk
      clear hB HC hk
      go_wp2_with fail
      refine (HLO.out _).mono ?_; rintro e w3 ⟨rfl, hB3⟩
      have hat : MineRel w N low (.int .i64 0) w3 := ⟨0, Nat.zero_le _, rfl, HB.out.trans (hB3.mono HB.out.size), fun j x hj => absurd hj (Nat.not_lt_zero _)⟩
      clear hB3 HLO hk2 HB
      go_wp2_with fail
      go_loopw [7] (fun i wr => MineRel w N low i wr) (fun i _ => N.length - (intOf i).toNat)
      case atStart => exact hat
      case round =>
        obtain ⟨k, hk, rfl, hB, hno⟩ := hrel
        clear hat
        by_cases hkl : k < N.length
        · obtain ⟨x, hx⟩ : ∃ x, N[k]? = some x := ⟨_, List.getElem?_eq_getElem hkl⟩
          obtain ⟨b1, off1, rfl, _, _, hg1⟩ := vw_get HN.out (by omega)
          have hc0 := hg1 k x hx
          have hlb1 : b1 < w.heap.size := World.block_lt_of_cell? _ _ hc0
          have hc1 : wr.cell? ⟨b1, off1 + k, none⟩ = some (.string ⟨x.toArray⟩) := by rw [(bcell hB).1 _ _ hlb1]; exact hc0
          have hkI : (0 : Int) ≤ k ∧ (k : Int) < N.length := by omega
          obtain ⟨hk0, hk1⟩ := hkI
          have HB := Lib.hid hB
          by_cases hxl : x = low
          · subst hxl
            have D := Lib.hid (show decide (x ∈ N) = true from decide_eq_true (List.mem_of_getElem? hx))
            clear hg1 hx hc0 hno hB HN
            go_wp2_with fail
            go_ret2
            exact ⟨⟨x, by rw [D.out]; rfl⟩, HB.out⟩
          · have hne : (x == low) = false := by simpa using hxl
            have D := Lib.hid (show MineRel w N low (.int .i64 ((k + 1 : Nat) : Int)) wr from ⟨k + 1, hkl, rfl, hB, fun j y hj hy => by
              rcases Nat.lt_or_ge j k with h | h
              · exact hno j y h hy
              · obtain rfl : j = k := by omega
                rw [hx] at hy
                cases hy
                exact hxl⟩)
            clear hg1 hx hc0 hno hB HN hxl
            go_wp2_with fail
            go_roundw
            case rel => exact D.out
            case measure => simp [intOf]; omega
        · obtain rfl : k = N.length := by omega
          have D := Lib.hid (show decide (low ∈ N) = false from decide_eq_false (fun hm => by
            obtain ⟨j, hj, e⟩ := List.mem_iff_getElem.1 hm
            exact hno j low hj (by rw [List.getElem?_eq_getElem hj, e]) rfl))
          have HB := Lib.hid hB
          clear hno hB HN
          go_wp2_with fail
          go_ret2
          exact ⟨⟨[], by rw [D.out]; rfl⟩, HB.out⟩
/-- What is no request of this layer's is not done. -/
def NotDid (w : World) (e : Ending) (w' : World) : Prop := e = .returned (.tuple #[repV 0 [] 0 (.slice none 0 0), .bool false]) ∧ Below w.heap.size w w'
set_option maxRecDepth 10000 in
set_option maxHeartbeats 2000000 in
theorem lRun_nil {A : Nat → Prop} {w : World} {va : Value} {n : Nat} {xs : List Value} (ha : Vw A w va 1 n xs) : Calls Tryz.prog 21 #[.pointer none, .int .i64 0, va] w (NotDid w) := by
  obtain ⟨a1, cap1, rfl, hcap1, _⟩ := id ha.slice
  have hr : Blk none0 (w.alloc (.cells zRepC 29)) [] w.heap.size zRepC 29 := ⟨heap_alloc_new w _, rfl⟩
  have HR := Lib.hid hr
  clear ha hr
  go_enter Tryz.func21, Tryz.ntmps21
  go_wp2_with fail
  refine bodyPost_ret (v := .tuple #[repV 0 [] 0 (.slice none 0 0), .bool false]) (by simp [results, Tryz.results21, go_sem]) rfl ⟨rfl, ?_⟩
  repeat (refine Below.setCell ?_ (by exact Nat.le_refl _) _)
  exact (Below.refl _ _).alloc (Nat.le_refl _) _
def RunX (w : World) (low : List UInt8) (s8 : Value) (wx : World) : Prop :=
  ∃ g, s8 = .pointer (some ⟨g, 0, none⟩) ∧ Below (w.alloc (.cells zRepC 29)).heap.size (w.alloc (.cells zRepC 29)) wx ∧ wx.cell? ⟨g, 2, none⟩ = some (.string ⟨low.toArray⟩)
set_option maxRecDepth 10000 in
set_option maxHeartbeats 8000000 in
theorem lRun_not {w : World} {p : Nat} {va : Value} {args : List (List UInt8)} (ha : Vw (Old w) w va 1 args.length (args.map txt)) (hn : ∀ x ∈ args, x.length ≤ 1099511627776) (hl : args.length ≤ 1099511627776) (hm : mineL namesL args = false) :
    Calls Tryz.prog 21 #[.pointer (some ⟨p, 0, none⟩), .int .i64 0, va] w (NotDid w) := by
  have hr : Blk none0 (w.alloc (.cells zRepC 29)) [] w.heap.size zRepC 29 := ⟨heap_alloc_new w _, rfl⟩
  have hB0 : Below w.heap.size w (w.alloc (.cells zRepC 29)) := (Below.refl _ _).alloc (Nat.le_refl _) _
  rcases hc : chkL args with _ | _
  · obtain ⟨a1, cap1, rfl, hcap1, _⟩ := id ha.slice
    have HC := Lib.hid (tcheck_no (ha.below hB0) hn hl hc)
    have HR := Lib.hid hr
    have HB0 := Lib.hid hB0
    clear ha hr hB0 hm hc
    go_enter Tryz.func21, Tryz.ntmps21
    go_wp2_with fail
    refine HC.out.mono ?_; rintro e w2 ⟨c, t, rfl, hB⟩
    have hr2 := HR.out.below hB
    have hrc := hr2.cell
    have hrf := hr2.free
    have HB := Lib.hid (HB0.out.trans (hB.mono HB0.out.size))
    clear hB HC hr2
    go_wp2_with fail
    refine bodyPost_ret (v := .tuple #[repV 0 [] 0 (.slice none 0 0), .bool false]) (by simp [results, Tryz.results21, go_sem, hrc]) rfl ⟨rfl, ?_⟩
    have hB := HB.out
    iterate 4 refine Below.setCell ?_ (by exact Nat.le_refl _) _
    exact hB
  · cases args with
    | nil => cases hc
    | cons nm rest =>
      have hmm : lowL nm ∉ namesL := by
        unfold mineL at hm
        rw [hc] at hm
        simpa using hm
      obtain ⟨s, hsp, hsa, hsb⟩ : ∃ s, specOf (lowL nm) = some s ∧ ((0 ≤ s.arity ∧ ((nm :: rest).length : Int) = s.arity) ∨ (s.arity < 0 ∧ - s.arity ≤ ((nm :: rest).length : Int))) ∧ -9223372036854775808 < s.arity := by
        have hc : (match specOf (lowL nm) with | none => false | some s => fitA s (rest.length + 1)) = true := hc
        cases hs : specOf (lowL nm) with
        | none => rw [hs] at hc; cases hc
        | some s =>
          rw [hs] at hc
          dsimp only at hc
          refine ⟨s, rfl, ?_, (arity_low s (specOf_mem hs)).1⟩
          unfold fitA at hc
          by_cases h0 : 0 ≤ s.arity
          · rw [if_pos h0] at hc
            exact .inl ⟨h0, of_decide_eq_true hc⟩
          · rw [if_neg h0] at hc
            exact .inr ⟨by omega, of_decide_eq_true hc⟩
      have HCK := Lib.hid (check_ok (ha.below hB0) (hn nm (by simp)) hsp hsa hl hsb)
      have HLO := Lib.hid (fun W => lower_ok nm W (hn nm (by simp)))
      obtain ⟨b, off, cap, rfl, hcap, hbl, hk⟩ := vw_head1 (n := rest.length) ha
      have hbl : b < w.heap.size := hbl
      obtain ⟨i0, hi0, hz0, hz1, hz2⟩ := info_parts infoS
      have hsl : ∃ a', ∀ W, (Instr.slice 22 (.slice (some ⟨b, off, none⟩) (rest.length + 1) cap) (some (.int .i64 1)) (some (.int .i64 ((rest.length + 1 : Nat) : Int))) (some (.int .i64 ((rest.length + 1 : Nat) : Int)))).run Tryz.prog W = .ok (.slice a' rest.length rest.length) W := by
        obtain ⟨N, hN⟩ : ∃ N, rest.length = N := ⟨_, rfl⟩
        rw [hN] at hcap ⊢
        by_cases h0 : N = 0
        · subst h0
          refine ⟨some ⟨b, off, none⟩, fun W => ?_⟩
          simp [Instr.slice, run_underlying Tryz.underlying22, Instr.sliceBounds, Instr.sliceBound, asIntOf, sizeOf, typeInfo, hi0, hz1]
          omega
        · refine ⟨some ⟨b, off + 1, none⟩, fun W => ?_⟩
          simp [Instr.slice, run_underlying Tryz.underlying22, Instr.sliceBounds, Instr.sliceBound, asIntOf, sizeOf, typeInfo, hi0, hz1]
          simp [h0]
          repeat rw [if_pos (by omega)]
          rfl
      obtain ⟨a', hsl⟩ := hsl
      have HR := Lib.hid hr
      have HB0 := Lib.hid hB0
      generalize lowL nm = low at *
      have n0 : (low == [108, 112, 117, 115, 104]) = false := by simp only [beq_eq_false_iff_ne]; rintro rfl; exact hmm (by decide)
      have n1 : (low == [114, 112, 117, 115, 104]) = false := by simp only [beq_eq_false_iff_ne]; rintro rfl; exact hmm (by decide)
      have n2 : (low == [108, 112, 117, 115, 104, 120]) = false := by simp only [beq_eq_false_iff_ne]; rintro rfl; exact hmm (by decide)
      have n3 : (low == [114, 112, 117, 115, 104, 120]) = false := by simp only [beq_eq_false_iff_ne]; rintro rfl; exact hmm (by decide)
      have n4 : (low == [108, 112, 111, 112]) = false := by simp only [beq_eq_false_iff_ne]; rintro rfl; exact hmm (by decide)
      have n5 : (low == [114, 112, 111, 112]) = false := by simp only [beq_eq_false_iff_ne]; rintro rfl; exact hmm (by decide)
      have n6 : (low == [108, 109, 111, 118, 101]) = false := by simp only [beq_eq_false_iff_ne]; rintro rfl; exact hmm (by decide)
      have n7 : (low == [114, 112, 111, 112, 108, 112, 117, 115, 104]) = false := by simp only [beq_eq_false_iff_ne]; rintro rfl; exact hmm (by decide)
      have n8 : (low == [108, 108, 101, 110]) = false := by simp only [beq_eq_false_iff_ne]; rintro rfl; exact hmm (by decide)
      have n9 : (low == [108, 114, 97, 110, 103, 101]) = false := by simp only [beq_eq_false_iff_ne]; rintro rfl; exact hmm (by decide)
      have n10 : (low == [108, 105, 110, 100, 101, 120]) = false := by simp only [beq_eq_false_iff_ne]; rintro rfl; exact hmm (by decide)
      have n11 : (low == [108, 115, 101, 116]) = false := by simp only [beq_eq_false_iff_ne]; rintro rfl; exact hmm (by decide)
      have n12 : (low == [108, 114, 101, 109]) = false := by simp only [beq_eq_false_iff_ne]; rintro rfl; exact hmm (by decide)
      have n13 : (low == [108, 116, 114, 105, 109]) = false := by simp only [beq_eq_false_iff_ne]; rintro rfl; exact hmm (by decide)
      have n14 : (low == [108, 105, 110, 115, 101, 114, 116]) = false := by simp only [beq_eq_false_iff_ne]; rintro rfl; exact hmm (by decide)
      have n15 : (low == [108, 112, 111, 115]) = false := by simp only [beq_eq_false_iff_ne]; rintro rfl; exact hmm (by decide)
      have hnz : (nm :: rest).length = rest.length + 1 := rfl
      rw [hnz] at *
      clear ha hr hB0 hm hc hmm hsp hsa hsb hn hnz
      unfold txt at HLO
      have hn3 : ((rest.length + 1 : Nat) : Int) = ((rest.length + 1 : Nat) : Int) := rfl
      have hn1 : 0 < rest.length + 1 := by omega
      have hn4 : 1 ≤ rest.length + 1 := by omega
      generalize rest.length + 1 = N at *
      clear hn3
      go_enter Tryz.func21, Tryz.ntmps21
      go_wp2_with fail
      refine HCK.out.mono ?_; rintro e w2 ⟨rfl, hB2⟩
      have HB2 := Lib.hid hB2
      have hB02 := HB0.out.trans (hB2.mono HB0.out.size)
      have hk2 : w2.cell? ⟨b, off, none⟩ = some (.string ⟨nm.toArray⟩) := by rw [(bcell hB02).1 _ _ hbl]; exact hk
      clear hB2 hk hB02 HCK
      go_upto_region 3 with fail
      go_cut [8] from 9 to 32 (fun s8 wx => RunX w low s8 wx)
      case first =>
        go_region_with (
          go_at_call 35
          (with_reducible refine (HLO.out _).mono ?_)
          rintro e w3 ⟨rfl, hB3⟩
          have hB03 := HB2.out.trans (((Below.refl _ w2).drew.trans hB3).mono HB2.out.size)
          have HB3 := Lib.hid hB03
          clear hB3 hB03)
        all_goals (
          have D : RunX w low (.pointer (some ⟨w3.heap.size, 0, none⟩)) (w3.alloc (.cells (callC p 0 low (.slice a' rest.length rest.length)) 79)) :=
            ⟨_, rfl, HB3.out.alloc HB3.out.size _, by unfold World.cell?; rw [heap_alloc_new]; rfl⟩
          have HD := Lib.hid D
          clear D HB3 HLO HR HB0 HB2 hsl hk2
          rw [show (max (0 : Int) (min 0 9007199254740992)) = 0 from by decide]
          clear n0 n1 n2 n3 n4 n5 n6 n7 n8 n9 n10 n11 n12 n13 n14 n15
          go_wp2_with fail
          go_meet
          exact HD.out)
      case rest =>
        obtain ⟨g, rfl, hB4, hc4⟩ := hcut
        have hr4 := HR.out.below hB4
        have hrc := hr4.cell
        have hrf := hr4.free
        have HB4 := Lib.hid (HB0.out.trans (hB4.mono HB0.out.size))
        clear hB4 hr4 hsl hk2 HLO HB2 HR HB0
        go_wp2_with fail
        refine bodyPost_ret (v := .tuple #[repV 0 [] 0 (.slice none 0 0), .bool false]) (by simp [results, Tryz.results21, go_sem, hrc]) rfl ⟨rfl, ?_⟩
        have hB := HB4.out
        iterate 4 refine Below.setCell ?_ (by exact Nat.le_refl _) _
        exact hB
end Go.Proofs.YtgmmeeikjofefaaGreatDoor
namespace Go.Proofs.YtgmmeeikjofefaaGreatDoor
open Go Go.RowKit
/-! A value that is a text; the document's space with its first key; Begun of one start. -/
abbrev textV (s : List UInt8) : VV := ⟨1, s, [], [], []⟩
abbrev tvV (s : List UInt8) : Value := .agg #[.int .i64 1, .string ⟨s.toArray⟩, .slice none 0 0, .slice none 0 0, .slice none 0 0]
theorem val3_text (A : Nat → Prop) (w : World) (s : List UInt8) : Val3 A w (textV s) (.slice none 0 0) (.slice none 0 0) (.slice none 0 0) := ⟨Vw.nil _ _ _, Vw.nil _ _ _, Vw.nil _ _ _⟩
set_option maxRecDepth 10000 in
theorem vof_text (w : World) (l f r : Value) (V : VV) (hk : V.kind = 1) (hl : ∃ a n c, l = .slice a n c) (hf : ∃ a n c, f = .slice a n c) (hr : ∃ a n c, r = .slice a n c) : Calls Tryz.prog 134 #[valV V l f r] w fun e w' => e = .returned (.tuple #[.iface 199 (.string ⟨V.text.toArray⟩), .bool true]) ∧ Below w.heap.size w w' := by
  obtain ⟨kind, text, list, fields, ranked⟩ := V
  dsimp only at hk
  subst hk
  obtain ⟨a1, n1, c1, rfl⟩ := hl
  obtain ⟨a2, n2, c2, rfl⟩ := hf
  obtain ⟨a3, n3, c3, rfl⟩ := hr
  go_enter Tryz.func134, Tryz.ntmps134
  go_wp2
  go_ret2
  exact ⟨rfl, (Below.refl _ _).alloc (Nat.le_refl _) _⟩
set_option maxRecDepth 10000 in
theorem vcheck_text {A : Nat → Prop} {w : World} {V : VV} {l f r : Value} (h : Val3 A w V l f r) (hk : V.kind = 1) (hl : V.list = []) (hf : V.fields = []) (hr : V.ranked = []) (hs : V.text.length ≤ 1048576) :
    Calls Tryz.prog 87 #[valV V l f r] w fun e w' => e = .returned (.int .i64 0) ∧ Below w.heap.size w w' := by
  obtain ⟨a1, c1, e1, _⟩ := h.list.slice
  obtain ⟨a2, c2, e2, _⟩ := h.fields.slice
  obtain ⟨a3, c3, e3, _⟩ := h.ranked.slice
  have HO := Lib.hid (fun W => vof_text W l f r V hk ⟨_, _, _, e1⟩ ⟨_, _, _, e2⟩ ⟨_, _, _, e3⟩)
  have HR := Lib.hid (fun W => vshort_ok V.text W)
  rw [decide_eq_true hs] at HR
  obtain ⟨kind, text, list, fields, ranked⟩ := V
  dsimp only at hk hl hf hr hs e1 e2 e3 HO HR
  subst hk hl hf hr e1 e2 e3
  unfold txt at HR
  clear h hs
  go_enter Tryz.func87, Tryz.ntmps87
  go_wp2_with fail
  refine (HO.out _).mono ?_; rintro e w2 ⟨rfl, hB2⟩
  have HB2 := Lib.hid (((Below.refl w.heap.size w).alloc (Nat.le_refl _) _).trans (hB2.mono (by simp)))
  obtain ⟨hq, _⟩ := bcell hB2
  have x0 : w2.cell? ⟨w.heap.size, 0, none⟩ = some (.int .i64 1) := by rw [hq _ _ (by simp)]; simp [go_sem]
  have x1 : w2.cell? ⟨w.heap.size, 1, none⟩ = some (.string ⟨text.toArray⟩) := by rw [hq _ _ (by simp)]; simp [go_sem]
  have x2 : w2.cell? ⟨w.heap.size, 2, none⟩ = some (.slice a1 0 c1) := by rw [hq _ _ (by simp)]; simp [go_sem]
  have x3 : w2.cell? ⟨w.heap.size, 3, none⟩ = some (.slice a2 0 c2) := by rw [hq _ _ (by simp)]; simp [go_sem]
  have x4 : w2.cell? ⟨w.heap.size, 4, none⟩ = some (.slice a3 0 c3) := by rw [hq _ _ (by simp)]; simp [go_sem]
  clear hB2 hq HO
  go_wp2_with fail
  clear x0 x1 x2 x3 x4
  refine upon_method (f := 259) (y := .string ⟨text.toArray⟩) (by kernel_rfl) ?_
  have HE : Calls Tryz.prog 259 #[.string ⟨text.toArray⟩] w2 fun e w' => e = .returned (.bool false) ∧ w' = w2 := by
    go_enter Tryz.func259, Tryz.ntmps259
    go_wp2
    go_ret
    exact ⟨rfl, rfl⟩
  have HG : Calls Tryz.prog 260 #[.string ⟨text.toArray⟩] w2 fun e w' => e = .returned (.bool true) ∧ w' = w2 := by
    go_enter Tryz.func260, Tryz.ntmps260
    go_wp2_with fail
    refine (HR.out _).mono ?_; rintro e w3 ⟨rfl, rfl⟩
    go_wp2_with fail
    go_ret
    exact ⟨rfl, rfl⟩
  go_wp2_with fail
  refine HE.mono ?_; rintro e w3 ⟨rfl, rfl⟩
  go_wp2_with fail
  refine upon_method (f := 260) (y := .string ⟨text.toArray⟩) (by kernel_rfl) ?_
  go_wp2_with fail
  refine HG.mono ?_; rintro e w4 ⟨rfl, rfl⟩
  go_wp2_with fail
  go_ret
  exact ⟨rfl, HB2.out⟩
/-! The document's space. -/
theorem run_appnil {P : Program} (w : World) (t tx ty e e' : TypeId) (i : TypeInfo) (ht : P.underlying t = some (.slice e)) (hk : P.underlying tx = some (.slice e')) (hi : P.info? e = some i) :
    (Builtin.append_ #[t, tx] ty #[.slice none 0 0, .slice none 0 0]).run P w = .ok (.slice none 0 0) w := by
  have hs := Src.ofNil (P := P) (w := w) (size := i.size) hk 0
  simp [Builtin.append_, run_underlying ht, run_underlying hk, sizeOf, typeInfo, hi, hs.len, hs.cells]
set_option maxRecDepth 10000 in
theorem xEmpty_ok (w : World) (s : List UInt8) : Calls Tryz.prog 169 #[tvV s] w fun e w' => e = .returned (.bool false) ∧ Below w.heap.size w w' := by
  go_enter Tryz.func169, Tryz.ntmps169
  go_wp2_with fail
  go_ret
  exact ⟨rfl, (Below.refl _ _).alloc (Nat.le_refl _) _⟩
set_option maxRecDepth 10000 in
theorem xfields_ok (w : World) : Calls Tryz.prog 171 #[.slice none 0 0] w fun e w' => e = .returned (.bool true) ∧ w' = w := by
  go_enter Tryz.func171, Tryz.ntmps171
  go_wp2_with fail
  go_loopw [3] (fun i wr => i = .int .i64 0 ∧ wr = w) (fun _ _ => 0)
  case atStart => exact ⟨rfl, rfl⟩
  case round =>
    obtain ⟨rfl, rfl⟩ := hrel
    go_wp2_with fail
    go_ret
    exact ⟨rfl, rfl⟩
set_option maxRecDepth 10000 in
theorem rfOf_ok (w : World) : Calls Tryz.prog 193 #[.slice none 0 0] w fun e w' => e = .returned (.slice none 0 0) ∧ w' = w := by
  go_enter Tryz.func193, Tryz.ntmps193
  go_wp2_with fail
  go_loopw [3, 4] (fun l i wr => l = .slice none 0 0 ∧ i = .int .i64 0 ∧ wr = w) (fun _ _ _ => 0)
  case atStart => exact ⟨rfl, rfl, rfl⟩
  case round =>
    obtain ⟨rfl, rfl, rfl⟩ := hrel
    go_wp2_with fail
    go_ret
    exact ⟨rfl, rfl⟩
set_option maxRecDepth 10000 in
theorem xranked_ok (w : World) : Calls Tryz.prog 172 #[.slice none 0 0] w fun e w' => e = .returned (.bool true) ∧ w' = w := by
  have HO := Lib.hid (rfOf_ok w)
  go_enter Tryz.func172, Tryz.ntmps172
  go_wp2_with fail
  go_loopw [3, 4] (fun l i wr => l = .slice none 0 0 ∧ i = .int .i64 0 ∧ wr = w) (fun _ _ _ => 0)
  case atStart => exact ⟨rfl, rfl, rfl⟩
  case round =>
    obtain ⟨rfl, rfl, rfl⟩ := hrel
    go_wp2_with fail
    refine HO.out.mono ?_; rintro e w3 ⟨rfl, rfl⟩
    go_wp2_with fail
    go_ret
    exact ⟨rfl, rfl⟩
set_option maxRecDepth 10000 in
set_option maxHeartbeats 2000000 in
theorem xCheck_ok (w : World) (s : List UInt8) (hs : s.length ≤ 1048576) : Calls Tryz.prog 142 #[tvV s] w fun e w' => e = .returned (.int .i64 0) ∧ Below w.heap.size w w' := by
  have d0 : decide ((1048576 : Int) < s.length) = false := decide_eq_false (by omega)
  have HE := Lib.hid (fun W => xEmpty_ok W s)
  have HF := Lib.hid (fun W => xfields_ok W)
  have HR := Lib.hid (fun W => xranked_ok W)
  have hb : Blk none0 (w.alloc (.cells #[.int .i64 1, .string ⟨s.toArray⟩, .slice none 0 0, .slice none 0 0, .slice none 0 0] 49)) [] w.heap.size #[.int .i64 1, .string ⟨s.toArray⟩, .slice none 0 0, .slice none 0 0, .slice none 0 0] 49 := ⟨heap_alloc_new w _, rfl⟩
  have Hb := Lib.hid hb
  clear hb
  obtain ⟨b, q1, q2⟩ : ∃ b, (s == []) = b ∧ (s != []) = !b := ⟨_, rfl, rfl⟩
  cases b
  all_goals (
    simp only [Bool.not_true, Bool.not_false] at q2
    go_enter Tryz.func142, Tryz.ntmps142
    go_wp2_with fail
    refine (HE.out _).mono ?_; rintro e w2 ⟨rfl, hB2⟩
    have hb2 := Hb.out.below hB2
    have hc2 := hb2.cell
    have HB2 := Lib.hid (((Below.refl w.heap.size w).alloc (Nat.le_refl _) _).trans (hB2.mono (by simp)))
    clear hB2 hb2 HE Hb
    go_wp2_with fail
    refine (HF.out _).mono ?_; rintro e w3 ⟨rfl, rfl⟩
    go_wp2_with fail
    refine (HR.out _).mono ?_; rintro e w4 ⟨rfl, rfl⟩
    go_wp2_with fail
    go_loopw [3] (fun i wr => i = .int .i64 0 ∧ wr = w4) (fun _ _ => 0)
    case atStart => exact ⟨rfl, rfl⟩
    case round =>
      obtain ⟨rfl, rfl⟩ := hrel
      go_wp2_with fail
      go_ret
      exact ⟨rfl, HB2.out⟩)
set_option maxRecDepth 10000 in
theorem xFit_ok (w : World) (s : List UInt8) (hs : s.length ≤ 1048576) : Calls Tryz.prog 93 #[tvV s, .int .i64 0] w fun e w' => e = .returned (.int .i64 0) ∧ Below w.heap.size w w' := by
  have HC := Lib.hid (fun W => xCheck_ok W s hs)
  go_enter Tryz.func93, Tryz.ntmps93
  go_wp2_with fail
  refine (HC.out _).mono ?_; rintro e w2 ⟨rfl, hB2⟩
  have HB2 := Lib.hid (((Below.refl w.heap.size w).alloc (Nat.le_refl _) _).trans (hB2.mono (by simp)))
  clear hB2 HC
  go_wp2_with fail
  go_ret
  exact ⟨rfl, HB2.out⟩
theorem infoFd : (Tryz.prog.info? 186).isSome = true := by kernel_rfl
theorem infoSc : (Tryz.prog.info? 189).isSome = true := by kernel_rfl
set_option maxRecDepth 10000 in
set_option maxHeartbeats 1000000 in
theorem xCopy_ok (w : World) (s : List UInt8) : Calls Tryz.prog 94 #[tvV s] w fun e w' => e = .returned (tvV s) ∧ Below w.heap.size w w' := by
  obtain ⟨i1, hi1, _⟩ := info_parts infoS
  obtain ⟨i2, hi2⟩ := Option.isSome_iff_exists.1 infoFd
  obtain ⟨i3, hi3⟩ := Option.isSome_iff_exists.1 infoSc
  have h1 := fun W => run_appnil (P := Tryz.prog) W 22 22 22 9 9 i1 Tryz.underlying22 Tryz.underlying22 hi1
  have h2 := fun W => run_appnil (P := Tryz.prog) W 46 46 46 186 186 i2 Tryz.underlying46 Tryz.underlying46 hi2
  have h3 := fun W => run_appnil (P := Tryz.prog) W 47 47 47 189 189 i3 Tryz.underlying47 Tryz.underlying47 hi3
  have H1 := Lib.hid h1
  have H2 := Lib.hid h2
  have H3 := Lib.hid h3
  clear h1 h2 h3 hi1 hi2 hi3
  go_enter Tryz.func94, Tryz.ntmps94
  go_wp2_with (first
    | (at_builtin
       refine Lib.wpList_append_run _ rfl _ _ 22 22 rfl _ _ rfl rfl _ _ (H1.out _) ?_)
    | (at_builtin
       refine Lib.wpList_append_run _ rfl _ _ 46 46 rfl _ _ rfl rfl _ _ (H2.out _) ?_)
    | (at_builtin
       refine Lib.wpList_append_run _ rfl _ _ 47 47 rfl _ _ rfl rfl _ _ (H3.out _) ?_))
  refine bodyPost_ret (v := tvV s) (by simp [results, Tryz.results94, go_sem]) rfl ⟨rfl, ?_⟩
  repeat (first | refine Below.setCell ?_ (by first | (simp; done) | (simp; omega)) _ | refine Below.alloc ?_ (by first | (simp; done) | (simp; omega)) _)
  exact Below.refl _ _
abbrev xsC (l : Value) (n : Nat) : Array Value := #[l, .int .u64 n, .bool false, .slice none 0 0, .int .u64 0, .slice none 0 0, .slice none 0 0]
set_option maxRecDepth 10000 in
theorem xnote_ok {o : Roles} {w : World} {r : List Nat} {x : Nat} {l : Value} {n : Nat} (h : Blk o w r x (xsC l n) 83) (k : List UInt8) (hn : n ≤ 4611686018427387904) : Calls Tryz.prog 95 #[.pointer (some ⟨x, 0, none⟩), txt k] w fun e w' => e = .returned (.tuple #[]) ∧ w' = w.setCell ⟨x, 1, none⟩ (.int .u64 ((n + 1 : Nat) : Int)) := by
  have hcl := h.cell
  have hf := h.free
  have e0 : IntKind.u64.wrap ((n : Int) + 1) = (n : Int) + 1 := by rw [IntKind.wrap_u64]; omega
  clear h
  unfold txt
  go_enter Tryz.func95, Tryz.ntmps95
  go_wp2
  exact bodyPost_ret (v := .tuple #[]) (by simp [results, Tryz.results95]) rfl ⟨rfl, by simp⟩
set_option maxRecDepth 10000 in
theorem xFind_nil (w : World) (k : List UInt8) : Calls Tryz.prog 116 #[.slice none 0 0, txt k] w fun e w' => e = .returned (.tuple #[.int .i64 0, .bool false]) ∧ Below w.heap.size w w' := by
  unfold txt
  go_enter Tryz.func116, Tryz.ntmps116
  go_wp2_with fail
  go_loopw [6, 7] (fun i j wr => i = .int .i64 0 ∧ j = .int .i64 0 ∧ wr = w) (fun _ _ _ => 0)
  case atStart => exact ⟨rfl, rfl, rfl⟩
  case round =>
    obtain ⟨rfl, rfl, rfl⟩ := hrel
    go_wp2_with fail
    go_quiet (fail)
    go_wp2_with fail
    go_ret2
    exact ⟨rfl, below_drewN (Below.refl _ _) _⟩
abbrev zEnt : Value := .agg #[.string ⟨#[]⟩, .int .i64 0, .string ⟨#[]⟩, .slice none 0 0, .slice none 0 0, .slice none 0 0, .int .i64 0, .int .u64 0]
theorem infoEnt : (Tryz.prog.info? 99).map (fun i => (i.zero, i.size, i.bytes)) = some (some zEnt, 8, 128) := by kernel_rfl
abbrev entC (k s : List UInt8) (n : Int) : List Value := [.string ⟨k.toArray⟩, .int .i64 1, .string ⟨s.toArray⟩, .slice none 0 0, .slice none 0 0, .slice none 0 0, .int .i64 0, .int .u64 n]
set_option maxRecDepth 10000 in
set_option maxHeartbeats 2000000 in
theorem xwith_nil (w : World) (k s : List UInt8) (n : Int) : Calls Tryz.prog 96 #[.slice none 0 0, .agg (entC k s n).toArray] w fun e w' => (∃ a m c, e = .returned (.slice a m c)) ∧ Below w.heap.size w w' := by
  obtain ⟨i0, hi0, hz0, hz1, hz2⟩ := info_parts infoEnt
  have h1 := fun W => run_appnil (P := Tryz.prog) W 81 81 81 99 99 i0 Tryz.underlying81 Tryz.underlying81 hi0
  have hs1 : ∀ W, (Instr.slice 81 (.slice none 0 0) none (some (.int .i64 0)) none).run Tryz.prog W = .ok (.slice none 0 0) W := fun W => by
    simp [Instr.slice, run_underlying Tryz.underlying81, Instr.sliceBounds, Instr.sliceBound, asIntOf, sizeOf, typeInfo, hi0]
  have hs2 : ∀ W, (Instr.slice 81 (.slice none 0 0) (some (.int .i64 0)) none none).run Tryz.prog W = .ok (.slice none 0 0) W := fun W => by
    simp [Instr.slice, run_underlying Tryz.underlying81, Instr.sliceBounds, Instr.sliceBound, asIntOf, sizeOf, typeInfo, hi0]
  have HFI := Lib.hid (fun W => xFind_nil W k)
  unfold txt at HFI
  have H1 := Lib.hid h1
  have hb : Blk none0 (w.alloc (.cells (entC k s n).toArray 99)) [] w.heap.size (entC k s n).toArray 99 := ⟨heap_alloc_new w _, rfl⟩
  have Hb := Lib.hid hb
  clear hb h1
  go_enter Tryz.func96, Tryz.ntmps96
  go_wp2_with fail
  refine (HFI.out _).mono ?_; rintro e w2 ⟨rfl, hB2⟩
  have hb2 := Hb.out.below hB2
  have hc2 := hb2.cell
  have HB2 := Lib.hid (((Below.refl w.heap.size w).alloc (Nat.le_refl _) _).trans (hB2.mono (by simp)))
  clear hB2 hb2 HFI Hb
  have hB3 := Lib.hid ((Below.refl w2.heap.size w2).alloc (Nat.le_refl _) (.cells #[.string ⟨k.toArray⟩, .int .i64 1, .string ⟨s.toArray⟩, .slice none 0 0, .slice none 0 0, .slice none 0 0, .int .i64 0, .int .u64 n] 99))
  have HSRC := Lib.hid ((vw_newK w2 #[.string ⟨k.toArray⟩, .int .i64 1, .string ⟨s.toArray⟩, .slice none 0 0, .slice none 0 0, .slice none 0 0, .int .i64 0, .int .u64 n] 99 8 rfl).src (P := Tryz.prog) Tryz.underlying81 (by
    intro u hu
    simp only [List.mem_cons, List.not_mem_nil, or_false] at hu
    rcases hu with rfl | rfl | rfl | rfl | rfl | rfl | rfl | rfl <;> rfl))
  have HROW := Lib.hid (Row.nil none0 (w2.alloc (.cells #[.string ⟨k.toArray⟩, .int .i64 1, .string ⟨s.toArray⟩, .slice none 0 0, .slice none 0 0, .slice none 0 0, .int .i64 0, .int .u64 n] 99)) [9] 99 8)
  have hm1 : 0 + 1 ≤ maxLen := by unfold maxLen; omega
  have hm2 : 0 + 1 + 0 ≤ maxLen := by unfold maxLen; omega
  have hm3 : (0 + 1) * 128 ≤ 140737488355328 := by omega
  have hm4 : (0 + 1 + 0) * 128 ≤ 140737488355328 := by omega
  have HM1 := Lib.hid hm1
  have HM2 := Lib.hid hm2
  have HM3 := Lib.hid hm3
  have HM4 := Lib.hid hm4
  clear hm1 hm2 hm3 hm4
  go_wp2_with (first
    | (at_builtin
       refine Lib.wpList_append_run _ rfl _ _ 81 81 rfl _ _ rfl rfl _ _ (H1.out _) ?_
       clear H1)
    | (at_builtin
       refine wpList_app _ rfl _ _ 81 81 rfl 99 i0 _ 8 128 Tryz.underlying81 hi0 hz0 hz1 hz2 rfl rfl HROW.out rfl HSRC.out HM1.out HM3.out ?_
       intro v4 w4 o4 hr4 hs4
       obtain ⟨a4, c4, rfl, _⟩ := id hr4.slice
       have HR4 := Lib.hid hr4
       have HS4 := Lib.hid hs4
       clear hr4 hs4 HROW HSRC)
    | (at_builtin
       refine wpList_app _ rfl _ _ 81 81 rfl 99 i0 _ 8 128 Tryz.underlying81 hi0 hz0 hz1 hz2 rfl rfl HR4.out rfl (Src.ofNil _ Tryz.underlying81 0) HM2.out HM4.out ?_
       intro v5 w5 o5 hr5 hs5
       obtain ⟨a5, c5, rfl, _⟩ := id hr5.slice
       have HB5 := Lib.hid (HB2.out.trans ((hB3.out.trans ((HS4.out.trans hs5).below0.mono hB3.out.size)).mono HB2.out.size))
       clear hr5 hs5))
  go_ret
  exact ⟨⟨_, _, _, rfl⟩, HB5.out⟩
set_option maxRecDepth 10000 in
theorem xchange_ok {o : Roles} {w : World} {r : List Nat} {x : Nat} {l : Value} {n : Nat} (h : Blk o w r x (xsC l n) 83) (x0 x1 x2 x3 x4 x5 x6 x7 : Value) : Calls Tryz.prog 97 #[.pointer (some ⟨x, 0, none⟩), .agg #[x0, x1, x2, x3, x4, x5, x6, x7]] w fun e w' => e = .returned (.tuple #[]) ∧ Below w.heap.size w w' := by
  have hcl := h.cell
  have hl := h.lt
  clear h
  go_enter Tryz.func97, Tryz.ntmps97
  go_wp2
  go_end0
  exact ⟨rfl, (Below.refl _ _).alloc (Nat.le_refl _) _⟩
end Go.Proofs.YtgmmeeikjofefaaGreatDoor
namespace Go.Proofs.YtgmmeeikjofefaaGreatDoor
open Go Go.RowKit
/-! The document's Put of a first text; Begun of one start; Counter. -/
set_option maxRecDepth 10000 in
set_option maxHeartbeats 4000000 in
theorem xPut_ok {o : Roles} {w : World} {r : List Nat} {x : Nat} (h : Blk o w r x (xsC (.slice none 0 0) 0) 83) (k s : List UInt8) (hs : s.length ≤ 1048576) :
    Calls Tryz.prog 45 #[.pointer (some ⟨x, 0, none⟩), txt k, tvV s, .int .i64 0] w fun e w' => e = .returned (.int .i64 0) ∧ Stp r o w o w' := by
  have hb : Blk none0 (w.alloc (.cells #[.int .i64 1, .string ⟨s.toArray⟩, .slice none 0 0, .slice none 0 0, .slice none 0 0] 49)) [] w.heap.size #[.int .i64 1, .string ⟨s.toArray⟩, .slice none 0 0, .slice none 0 0, .slice none 0 0] 49 := ⟨heap_alloc_new w _, rfl⟩
  have hB1 : Below w.heap.size w (w.alloc (.cells #[.int .i64 1, .string ⟨s.toArray⟩, .slice none 0 0, .slice none 0 0, .slice none 0 0] 49)) := (Below.refl _ _).alloc (Nat.le_refl _) _
  have HFI := Lib.hid (fun W => xFit_ok W s hs)
  have HCO := Lib.hid (fun W => xCopy_ok W s)
  have HWI := Lib.hid (fun W n => xwith_nil W k s n)
  have HX := Lib.hid h
  have hlt := h.lt
  have HXL := Lib.hid hlt
  have Hb := Lib.hid hb
  have HB1 := Lib.hid hB1
  clear h hb hB1 hlt
  unfold txt
  go_enter Tryz.func45, Tryz.ntmps45
  go_wp2_with fail
  refine (HFI.out _).mono ?_; rintro e w2 ⟨rfl, hB2⟩
  have hb2 := Hb.out.below hB2
  have hc2 := hb2.cell
  have Hb2 := Lib.hid hb2
  have HB2 := Lib.hid (HB1.out.trans (hB2.mono HB1.out.size))
  clear hB2 hb2 HFI Hb HB1
  go_wp2_with fail
  refine (HCO.out _).mono ?_; rintro e w3 ⟨rfl, hB3⟩
  have hb3 := Hb2.out.below hB3
  have hc3 := hb3.cell
  have hf3 := hb3.free
  have Hb3 := Lib.hid hb3
  have HB3 := Lib.hid (HB2.out.trans (hB3.mono HB2.out.size))
  clear hB3 hb3 HCO Hb2 HB2 hc2
  go_wp2_with fail
  refine (xnote_ok (o := o) (r := r) (l := .slice none 0 0) (n := 0) ?_ k (by omega)).mono ?_
  · iterate 5 refine Blk.setOther ?_ _ _ (by have := HXL.out; show x ≠ w.heap.size; omega)
    exact HX.out.below HB3.out
  rintro e w4 ⟨rfl, hw4⟩
  have hx4 : Blk o w4 r x (xsC (.slice none 0 0) 1) 83 := by
    rw [hw4]
    refine Blk.setCell (cs := xsC (.slice none 0 0) 0) ?_ 1 _
    iterate 5 refine Blk.setOther ?_ _ _ (by have := HXL.out; show x ≠ w.heap.size; omega)
    exact HX.out.below HB3.out
  have hb4 : Blk none0 w4 [] w.heap.size #[.int .i64 1, .string ⟨s.toArray⟩, .slice none 0 0, .slice none 0 0, .slice none 0 0] 49 := by
    rw [hw4]
    refine Blk.setOther ?_ _ _ (by have := HXL.out; show w.heap.size ≠ x; omega)
    exact (((((Hb3.out.setCell 0 _).setCell 1 _).setCell 2 _).setCell 3 _).setCell 4 _)
  have hs4 : Stp r o w o w4 := by
    rw [hw4]
    refine Stp.setCell (Stp.ofBelow r o ?_) (by show r <+: o x; rw [HX.out.role]; exact List.prefix_refl _) _
    iterate 5 refine Below.setCell ?_ (by exact Nat.le_refl _) _
    exact HB3.out
  have hc4 := hx4.cell
  have hbc4 := hb4.cell
  have HX4 := Lib.hid hx4
  have HB4 := Lib.hid hb4
  have HS4 := Lib.hid hs4
  clear hw4 hx4 hb4 hs4 hc3 hf3 Hb3 HB3 HX
  go_wp2_with fail
  go_region_with (
    go_at_call 96
    (with_reducible refine (HWI.out _ _).mono ?_)
    rintro e w6 ⟨⟨a, m, c, rfl⟩, hB6⟩
    have hB6' : Below w4.heap.size w4 w6 := (Below.refl _ w4).drew.trans hB6
    have hx6 := HX4.out.below hB6'
    have hb6 := HB4.out.below hB6'
    have hc6 := hx6.cell
    have hf6 := hx6.free
    have hbc6 := hb6.cell
    have HX6 := Lib.hid hx6
    have HS6 := Lib.hid (HS4.out.trans (Stp.ofBelow r o hB6'))
    clear hB6 hB6' hx6 hb6)
  all_goals (
    clear HWI HX4 HB4 HS4
    have hne1 : ¬ (w.heap.size = x) := by have := HXL.out; omega
    have hne2 : ¬ (x = w.heap.size) := by have := HXL.out; omega
    go_wp2_with fail
    refine (xchange_ok (o := o) (r := r) (l := .slice a m c) (n := 1) (HX6.out.setCell 0 _) _ _ _ _ _ _ _ _).mono ?_
    rintro e w7 ⟨rfl, hB7⟩
    have D := Lib.hid (show Stp r o w o w7 from (HS6.out.setCell (by show r <+: o x; rw [HX6.out.role]; exact List.prefix_refl _) _).trans (Stp.ofBelow r o hB7))
    clear hB7
    go_wp2_with fail
    go_ret
    exact ⟨rfl, D.out⟩)
theorem sCounter_at {w : World} {p : Nat} {n : Int} (hc : w.cell? ⟨p, 2, none⟩ = some (.int .u64 n)) : Calls Tryz.prog 24 #[.pointer (some ⟨p, 0, none⟩)] w fun e w' => e = .returned (.int .u64 n) ∧ w' = w := by
  go_enter Tryz.func24, Tryz.ntmps24
  go_wp2_with fail
  go_ret
  exact ⟨rfl, rfl⟩
theorem SpJ.counter {o : Roles} {w : World} {q : List Nat} {p : Nat} {S : SP} {c : Cnt} (h : SpJ o w q p S c) : w.cell? ⟨p, 2, none⟩ = some (.int .u64 (c.num : Int)) := by
  obtain ⟨m, d, m2, a, kvs, h⟩ := h
  rw [h.blk.cell]; rfl
/-- One start's cells. -/
def StartAt (w : World) (g : Nat) (k s : List UInt8) : Prop :=
  w.cell? ⟨g, 0, none⟩ = some (.string ⟨k.toArray⟩) ∧ w.cell? ⟨g, 1, none⟩ = some (.int .i64 1) ∧ w.cell? ⟨g, 2, none⟩ = some (.string ⟨s.toArray⟩) ∧ w.cell? ⟨g, 3, none⟩ = some (.slice none 0 0) ∧ w.cell? ⟨g, 4, none⟩ = some (.slice none 0 0) ∧ w.cell? ⟨g, 5, none⟩ = some (.slice none 0 0) ∧ w.cell? ⟨g, 6, none⟩ = some (.int .i64 0)
theorem StartAt.below {w w' : World} {g : Nat} {k s : List UInt8} (h : StartAt w g k s) (hB : Below w.heap.size w w') : StartAt w' g k s := by
  have hl : g < w.heap.size := World.block_lt_of_cell? _ _ h.1
  obtain ⟨h0, h1, h2, h3, h4, h5, h6⟩ := h
  have e := (bcell hB).1
  exact ⟨by rw [e _ _ hl]; exact h0, by rw [e _ _ hl]; exact h1, by rw [e _ _ hl]; exact h2, by rw [e _ _ hl]; exact h3, by rw [e _ _ hl]; exact h4, by rw [e _ _ hl]; exact h5, by rw [e _ _ hl]; exact h6⟩
abbrev oneS (k s : List UInt8) : SP := SP.put (fun _ => none) k ⟨textV s, 0, 1⟩
def BegR (w : World) (p x : Nat) (k s : List UInt8) (i : Value) (wr : World) : Prop :=
  ∃ o : Roles, Stp [1] none0 w o wr ∧ ((i = .int .i64 0 ∧ SpJ o wr [1, 0] p (fun _ => none) ⟨0, 0⟩ ∧ Blk o wr [1, 2] x (xsC (.slice none 0 0) 0) 83) ∨ (i = .int .i64 1 ∧ SpJ o wr [1, 0] p (oneS k s) ⟨1, 1⟩))
def BegunDid (w : World) (k s : List UInt8) (e : Ending) (w' : World) : Prop :=
  ∃ p x o, e = .returned (.tuple #[.pointer (some ⟨p, 0, none⟩), .pointer (some ⟨x, 0, none⟩)]) ∧ SpJ o w' [1, 0] p (oneS k s) ⟨1, 1⟩ ∧ Stp [1] none0 w o w'
set_option maxRecDepth 10000 in
set_option maxHeartbeats 8000000 in
theorem begun_ok {w : World} {g : Nat} {k s : List UInt8} (h : StartAt w g k s) (hs : s.length ≤ 1048576) : Calls Tryz.prog 23 #[.slice (some ⟨g, 0, none⟩) 1 1] w (BegunDid w k s) := by
  have HN := Lib.hid (jnew_ok none0 w [1, 0])
  have HST := Lib.hid h
  clear h
  go_enter Tryz.func23, Tryz.ntmps23
  go_wp2_with fail
  refine HN.out.mono ?_; rintro e w1 ⟨p, o1, rfl, hj, hst⟩
  have hat : BegR w p w1.heap.size k s (.int .i64 0) (w1.alloc (.cells (xsC (.slice none 0 0) 0) 83)) := by
    have s1 : Stp [1, 2] o1 w1 (o1.put w1.heap.size [1, 2]) (w1.alloc (.cells (xsC (.slice none 0 0) 0) 83)) := (Stp.refl _ _ _).alloc (r' := [1, 2]) _ w1.heap.size rfl
    exact ⟨_, (hst.wide (by decide)).trans (s1.wide (by decide)), .inl ⟨rfl, hj.keep s1 (Apart.tail (Apart.head (by decide) _ _) _), Blk.new _ _ _ _ _ _ rfl⟩⟩
  have HAT := Lib.hid hat
  clear hj hst HN hat
  go_wp2_with fail
  go_loopw [6] (fun i wr => BegR w p w1.heap.size k s i wr) (fun i _ => 1 - (intOf i).toNat)
  case atStart => exact HAT.out
  case round =>
    clear HAT
    generalize w1.heap.size = x at *
    obtain ⟨o, hst, ⟨rfl, hj, hx⟩ | ⟨rfl, hj⟩⟩ := hrel
    · have hsa := HST.out.below hst.below0
      obtain ⟨c0, c1, c2, c3, c4, c5, c6⟩ := id hsa
      have HP := Lib.hid (fun W (hW : Below wr.heap.size wr W) => jput_ok (hj.below hW) k (val3_text (fun _ => False) W s) ⟨by show s.length ≤ _; omega, by simp, by simp, by simp⟩ (fun b hb => hb.elim) 0 rfl (fun W2 hW2 => vcheck_text (val3_text (fun _ => False) W2 s) rfl rfl rfl rfl hs) (by simp))
      have HX := Lib.hid hx
      have HS := Lib.hid hst
      have HSA := Lib.hid hsa
      unfold txt at HP
      clear hj hx hst hsa
      go_wp2_with fail
      have HA0 := Lib.hid (HSA.out.below ((Below.refl _ wr).drew))
      clear c0 c1 c2 c3 c4 c5 c6
      go_region_held (fun W => W.cell? ⟨g, 0, none⟩ = some (.string ⟨k.toArray⟩) ∧ W.cell? ⟨g, 1, none⟩ = some (.int .i64 1) ∧ W.cell? ⟨g, 2, none⟩ = some (.string ⟨s.toArray⟩) ∧ W.cell? ⟨g, 3, none⟩ = some (.slice none 0 0) ∧ W.cell? ⟨g, 4, none⟩ = some (.slice none 0 0) ∧ W.cell? ⟨g, 5, none⟩ = some (.slice none 0 0) ∧ W.cell? ⟨g, 6, none⟩ = some (.int .i64 0))
        (first | exact HA0.out | exact HA4.out | exact HA5.out) (first
        | (go_at_call 44
           (with_reducible refine (HP.out _ ((Below.refl _ wr).drew)).mono ?_)
           rintro e w4 ⟨rfl, o4, hj4, hs4⟩
           have hx4 := HX.out.keep (hs4.from1) (Apart.tail (Apart.head (by decide) _ _) _).not
           have hst4 := HS.out.trans ((hs4.from1).wide (by decide))
           have HA4 := Lib.hid (HST.out.below hst4.below0)
           have HP2 := Lib.hid (xPut_ok hx4 k s hs)
           unfold txt at HP2
           have HJ4 := Lib.hid hj4
           have HS4 := Lib.hid hst4
           clear hj4 hs4 hx4 hst4)
        | (go_at_call 45
           (with_reducible refine HP2.out.mono ?_)
           rintro e w5 ⟨rfl, hs5⟩
           have hst5 := HS4.out.trans (hs5.wide (by decide))
           have HA5 := Lib.hid (HST.out.below hst5.below0)
           have D := Lib.hid (show BegR w p x k s (.int .i64 1) w5 from ⟨o4, hst5, .inr ⟨rfl, HJ4.out.keep hs5 (Apart.tail (Apart.head (by decide) _ _) _)⟩⟩)
           clear hs5 hst5))
      all_goals (
        clear HP HX HS HSA HP2 HJ4 HS4
        go_wp2_with fail
        go_roundw
        case rel => exact D.out
        case measure => simp [intOf])
    · have D := Lib.hid (show BegunDid w k s (.returned (.tuple #[.pointer (some ⟨p, 0, none⟩), .pointer (some ⟨x, 0, none⟩)])) wr from ⟨p, x, o, rfl, hj, hst⟩)
      clear hj hst
      go_wp2_with fail
      go_ret2
      exact D.out
end Go.Proofs.YtgmmeeikjofefaaGreatDoor
namespace Go.Proofs.YtgmmeeikjofefaaGreatDoor
open Go Go.RowKit
/-! ListcmdNames' walk. -/
abbrev namesA : Array Value := (namesL.map txt).toArray
theorem names_vw {w : World} {b : Nat} (h : Blk none0 w [] b namesA 9) : Vw (fun k => k = b) w (.slice (some ⟨b, 0, none⟩) 16 16) 1 namesL.length (namesL.map txt) := by
  refine ⟨⟨some ⟨b, 0, none⟩, 16, rfl, by decide, by unfold maxLen; omega, .inr ⟨b, 0, rfl, h.lt, rfl, fun k u hk => ?_⟩⟩, by decide⟩
  rw [Nat.zero_add, h.cell]
  simpa using hk
theorem names_same {w : World} {b c : Nat} (h : Blk none0 w [] b namesA 9) (k : Blk none0 w [] c namesA 9) :
    Calls Tryz.prog 20 #[.slice (some ⟨b, 0, none⟩) 16 16, .slice (some ⟨c, 0, none⟩) 16 16] w fun e w' => e = .returned (.bool true) ∧ Below w.heap.size w w' :=
  same_eq (names_vw h) (names_vw k) (by decide)
theorem names_new (w w' : World) (h : w' = w.alloc (.cells namesA 9)) : Below w.heap.size w w' ∧ Blk none0 w' [] w.heap.size namesA 9 := by
  subst h
  exact ⟨lit_below w _, heap_alloc_new w _, rfl⟩
/-- What stands behind the store into the first list. -/
structure NamR (w0 : World) (b2 b3 : Nat) (w : World) : Prop where
  below : Below w0.heap.size w0 w
  two : Blk none0 w [] b2 namesA 9
  three : Blk none0 w [] b3 namesA 9
  new2 : w0.heap.size ≤ b2
  new3 : w0.heap.size ≤ b3
theorem NamR.next {w0 w w' : World} {b2 b3 : Nat} (h : NamR w0 b2 b3 w) (hB : Below w.heap.size w w') : NamR w0 b2 b3 w' := ⟨h.below.trans (hB.mono h.below.size), h.two.below hB, h.three.below hB, h.new2, h.new3⟩
theorem names_at (at_ : Int) : ∃ j : Nat, j < 16 ∧ ((at_ < 0 ∧ j = 0) ∨ (∃ u : Nat, at_ = (u : Int) ∧ u % 16 = j)) := by
  by_cases h : at_ < 0
  · exact ⟨0, by decide, .inl ⟨h, rfl⟩⟩
  · obtain ⟨u, rfl⟩ := Int.eq_ofNat_of_zero_le (show 0 ≤ at_ by omega)
    exact ⟨u % 16, Nat.mod_lt _ (by decide), .inr ⟨u, rfl, rfl⟩⟩
set_option maxRecDepth 10000 in
set_option maxHeartbeats 20000000 in
theorem names_law {w0 : World} (hT : Tbl w0) {va : Value} {l : List (List UInt8)} (ha : Vw (Old w0) w0 va 1 l.length (l.map txt)) (hsl : ∀ x ∈ l, x.length ≤ 1048576) (hll : l.length ≤ 1048576) (at_ : Int) :
    Calls Tryz.prog 5 #[va, .int .i64 at_] w0 fun e w' => e = .returned (.bool true) ∧ Below w0.heap.size w0 w' := by
  obtain ⟨aa, ca, rfl, _⟩ := id ha.slice
  have hsl2 : ∀ x ∈ l, x.length ≤ 1099511627776 := fun x hx => Nat.le_trans (hsl x hx) (by decide)
  have hll2 : l.length ≤ 1099511627776 := by omega
  have HT := Lib.hid hT
  have HA := Lib.hid ha
  have HSL := Lib.hid hsl2
  have HLL := Lib.hid hll2
  obtain ⟨j, hj16, hat⟩ := names_at at_
  have hjI : (0 : Int) ≤ j ∧ (j : Int) < 16 := by omega
  obtain ⟨hj0, hj1⟩ := hjI
  clear hT ha hsl hll hsl2 hll2
  go_enter Tryz.func5, Tryz.ntmps5
  go_wp2_with fail
  refine (lNames_ok _).mono ?_; rintro e w1 ⟨rfl, hw1⟩
  obtain ⟨hB1, hb1⟩ := names_new _ _ hw1
  clear hw1
  go_wp2_with fail
  refine (lNames_ok _).mono ?_; rintro e w2 ⟨rfl, hw2⟩
  obtain ⟨hB2, hb2⟩ := names_new _ _ hw2
  clear hw2
  go_wp2_with fail
  refine (rfNames_ok _).mono ?_; rintro e w3 ⟨rfl, hw3⟩
  obtain ⟨hB3, hb3⟩ := names_new _ _ hw3
  clear hw3
  have hn12 : w0.heap.size < w1.heap.size := hb1.lt
  have hn23 : w1.heap.size < w2.heap.size := hb2.lt
  have hb13 := (hb1.below hB2).below hB3
  have hr3 : NamR w0 w1.heap.size w2.heap.size w3 := ⟨(hB1.trans (hB2.mono hB1.size)).trans (hB3.mono (by omega)), hb2.below hB3, hb3, by omega, by omega⟩
  have HB13 := Lib.hid hb13
  have HR3 := Lib.hid hr3
  have HN1 := Lib.hid hn12
  have HN2 := Lib.hid hn23
  clear hB1 hb1 hB2 hb2 hB3 hb3 hn12 hn23 hb13 hr3
  generalize w1.heap.size = b2 at *
  generalize w2.heap.size = b3 at *
  go_wp2_with fail
  refine (names_same HB13.out HR3.out.three).mono ?_; rintro e w4 ⟨rfl, hB4⟩
  have HAW := Lib.hid (awake_ok (HT.out.below (HR3.out.next hB4).below))
  have HR4 := Lib.hid (HR3.out.next hB4)
  have HB14 := Lib.hid (HB13.out.below hB4)
  clear hB4 HR3 HB13
  go_wp2_with fail
  refine HAW.out.mono ?_; rintro e w5 ⟨rfl, hB5⟩
  have HR5 := Lib.hid (HR4.out.next hB5)
  have hb15 := HB14.out.below hB5
  have hfr := hb15.free
  have hcl : ∃ u, w5.cell? ⟨w0.heap.size, j, none⟩ = some u := by
    rw [hb15.cell]
    exact ⟨_, Array.getElem?_eq_getElem (show j < namesA.size from hj16)⟩
  obtain ⟨u5, hcl⟩ := hcl
  have HR6 : ∀ v, NamR w0 b2 b3 (w5.setCell ⟨w0.heap.size, j, none⟩ v) := fun v =>
    ⟨HR5.out.below.setCell (Nat.le_refl _) _, HR5.out.two.setOther _ _ (by have := HN1.out; show b2 ≠ w0.heap.size; omega), HR5.out.three.setOther _ _ (by have := HN1.out; have := HN2.out; show b3 ≠ w0.heap.size; omega), HR5.out.new2, HR5.out.new3⟩
  have HR6 := Lib.hid HR6
  clear hB5 hb15 HR4 HB14 HAW HR5
  have HV := Lib.hid (fun (W : World) (hW : Below w0.heap.size w0 W) => (HA.out.below hW).imp (B := Old W) (fun b hb => Nat.lt_of_lt_of_le hb hW.size))
  clear HA
  obtain ⟨u0, hu0⟩ : ∃ u : Nat, ((at_ < 0 ∧ u = 0) ∨ (0 ≤ at_ ∧ at_ = (u : Int))) ∧ Int.tmod (u : Int) 16 = (j : Int) := by
    rcases hat with ⟨h, rfl⟩ | ⟨u, rfl, rfl⟩
    · exact ⟨0, .inl ⟨h, rfl⟩, rfl⟩
    · exact ⟨u, .inr ⟨by omega, rfl⟩, rfl⟩
  obtain ⟨hu0, hmod⟩ := hu0
  clear hat
  go_upto_if 26 with fail
  go_cut [1] (fun s1 wx => wx = w5 ∧ s1 = .int .i64 (u0 : Int))
  case first =>
    clear HR6 HV hcl hfr HT HSL HLL hmod
    rcases hu0 with ⟨hneg, rfl⟩ | ⟨hpos, rfl⟩
    · have d0 : decide (at_ < 0) = true := decide_eq_true hneg
      go_wp2_with fail
      go_meet
      exact ⟨rfl, rfl⟩
    · have d0 : decide ((u0 : Int) < 0) = false := decide_eq_false (by omega)
      go_wp2_with fail
      go_meet
      exact ⟨rfl, rfl⟩
  case rest =>
    obtain ⟨rfl, rfl⟩ := hcut
    clear hu0 at_
    go_wp2_with fail
    refine (lRun_nil (HV.out _ (HR6.out _).below)).mono ?_; rintro e w7 ⟨rfl, hB7⟩
    have hr7 := (HR6.out _).next hB7
    have hR0 : w0.heap.size ≤ w7.heap.size := hr7.below.size
    have HR7 := Lib.hid hr7
    have hb7 : Blk none0 (w7.alloc (.cells zRepC 29)) [] w7.heap.size zRepC 29 := ⟨heap_alloc_new w7 _, rfl⟩
    have hr8 := hr7.next (lit_below w7 (.cells zRepC 29))
    have HB7 := Lib.hid hb7
    have HR8 := Lib.hid hr8
    clear hB7 hr7 hb7 hr8 HR6 hcl hfr hmod
    go_wp2_with fail
    refine (names_same HR8.out.two HR8.out.three).mono ?_; rintro e w9 ⟨rfl, hB9⟩
    have HR9 := Lib.hid (HR8.out.next hB9)
    have HB9 := Lib.hid (HB7.out.below hB9)
    clear hB9 HR8 HB7
    go_wp2_with fail
    refine (lNames_ok _).mono ?_; rintro e w10 ⟨rfl, hw10⟩
    obtain ⟨hB10, hb10⟩ := names_new _ _ hw10
    clear hw10
    have HR10 := Lib.hid (HR9.out.next hB10)
    have HB10 := Lib.hid (HB9.out.below hB10)
    have Hb10 := Lib.hid hb10
    clear hB10 hb10 HR9 HB9
    go_wp2_with fail
    refine (names_same Hb10.out HR10.out.three).mono ?_; rintro e w11 ⟨rfl, hB11⟩
    have HR11 := Lib.hid (HR10.out.next hB11)
    have HB11 := Lib.hid (HB10.out.below hB11)
    clear hB11 HR10 HB10 Hb10
    obtain ⟨mb, hmb⟩ : ∃ mb, mineL namesL l = mb := ⟨_, rfl⟩
    have hmine := mine_ok (names_vw HR11.out.three) (HV.out _ HR11.out.below) HSL.out HLL.out (by decide)
    rw [hmb] at hmine
    have HMI := Lib.hid hmine
    have HMB := Lib.hid hmb
    clear hmine hmb
    go_wp2_with fail
    refine HMI.out.mono ?_; rintro e w12 ⟨⟨t, rfl⟩, hB12⟩
    have HR12 := Lib.hid (HR11.out.next hB12)
    have HB12 := Lib.hid (HB11.out.below hB12)
    clear hB12 HR11 HB11 HMI
    unfold txt
    cases mb with
    | true =>
      clear HV HT HSL HLL HMB HB12
      go_wp2_with fail
      go_ret
      exact ⟨rfl, HR12.out.below⟩
    | false =>
      go_wp2_with fail
      refine (begun_ok (k := [97]) (s := [49]) ?_ (by decide)).mono ?_
      · refine ⟨?_, ?_, ?_, ?_, ?_, ?_, ?_⟩ <;> (unfold World.cell?; rw [heap_alloc_new]; rfl)
      rintro e w14 ⟨p, x, o, rfl, hj, hst⟩
      have hB13 := lit_below w12 (.cells #[.string ⟨#[97]⟩, .int .i64 1, .string ⟨#[49]⟩, .slice none 0 0, .slice none 0 0, .slice none 0 0, .int .i64 0] 51)
      have HR14 := Lib.hid ((HR12.out.next hB13).next hst.below0)
      have hb13 := HB12.out.below hB13
      have HB14 := Lib.hid (hb13.below hst.below0)
      have hpR : p ≠ w7.heap.size := by
        intro e
        have h1 := hj.role.1
        have h2 := hst.old w7.heap.size hb13.lt
        rw [e] at h1
        rw [h1] at h2
        cases h2
      have hcp := hj.counter
      have hpl := hj.role.2
      have HCP := Lib.hid hcp
      clear hst hj hB13 hb13 HR12 HB12 hcp
      go_wp2_with fail
      refine (lRun_not (HV.out _ HR14.out.below) HSL.out HLL.out HMB.out).mono ?_; rintro e w15 ⟨rfl, hB15⟩
      have hR15 := HR14.out.next hB15
      have hb15 := HB14.out.below hB15
      have c15 : w15.cell? ⟨p, 2, none⟩ = some (.int .u64 1) := by rw [(bcell hB15).1 _ _ hpl]; exact HCP.out
      have hrc := hb15.cell
      have hrf := hb15.free
      have HR15 := Lib.hid hR15
      have C15 := Lib.hid c15
      clear hB15 hR15 hb15 c15 HR14 HB14 HV HT HSL HLL HMB HCP hpl
      go_wp2_with fail
      refine (sCounter_at (n := 1) ?_).mono ?_
      · iterate 4 rw [World.cell?_setCell_other _ _ _ _ (by intro e; injection e with e1 _ _; first | exact hpR e1 | exact hpR e1.symm)]
        exact C15.out
      rintro e w16 ⟨rfl, rfl⟩
      go_wp2_with fail
      go_ret
      refine ⟨rfl, ?_⟩
      iterate 4 refine Below.setCell ?_ hR0 _
      exact HR15.out.below
theorem names_con (w0 : World) (hT : Tbl w0) (l : List (List UInt8)) (va : Value) (ha : Vw (Old w0) w0 va 1 l.length (l.map txt)) (hsl : ∀ x ∈ l, x.length ≤ 1048576) (hll : l.length ≤ 1048576) (at_ : Int) :
    Calls Tryz.prog 5 #[va, .int .i64 at_] w0 fun e w' => e = .returned (.bool true) ∧ Below w0.heap.size w0 w' := names_law hT ha hsl hll at_
end Go.Proofs.YtgmmeeikjofefaaGreatDoor
