import Derived.Test.YthojmgjgmbnopaaGreatDoorRc
import Derived.Test.YthojmgjgmbnopaaGreatDoorNy
import Derived.Test.YthojmgjgmbnopaaGreatDoorAw
import Derived.Deep.QuietTactic
import Derived.BigQuiet
namespace Go.Proofs.YthojmgjgmbnopaaGreatDoor
open Go Go.RowKit
/-! The names of the commands; what is no request of one. -/
theorem rfNames_ok (w : World) : Calls Tryz.prog 52 #[] w fun e w' => e = .returned (.slice (some ⟨w.heap.size, 0, none⟩) 24 24) ∧ w' = w.alloc (.cells (namesL.map txt).toArray 9) := by
  go_enter Tryz.func52, Tryz.ntmps52
  go_wp2_with fail
  go_ret
  exact ⟨rfl, rfl⟩
set_option maxRecDepth 10000 in
set_option maxHeartbeats 1000000 in
theorem same_eq {A B : Nat → Prop} {w : World} {va vb : Value} {l : List (List UInt8)} (ha : Vw A w va 1 l.length (l.map txt)) (hb : Vw B w vb 1 l.length (l.map txt)) (hl : l.length ≤ 1099511627776) :
    Calls Tryz.prog 53 #[va, vb] w fun e w' => e = .returned (.bool true) ∧ Below w.heap.size w w' := by
  obtain ⟨a1, cap1, rfl, hcap1, _⟩ := id ha.slice
  obtain ⟨a2, cap2, rfl, hcap2, _⟩ := id hb.slice
  have HA := Lib.hid ha
  have HB := Lib.hid hb
  clear ha hb
  go_enter Tryz.func53, Tryz.ntmps53
  go_wp2_with fail
  go_loopw [5] (fun i wr => ∃ k q : Nat, k ≤ l.length ∧ i = .int .i64 (k : Int) ∧ wr = w.drewN q) (fun i _ => l.length - (intOf i).toNat)
  case atStart => exact ⟨0, 0, Nat.zero_le _, rfl, rfl⟩
  case round =>
    obtain ⟨k, q, hk, rfl, rfl⟩ := hrel
    by_cases hkl : k < l.length
    · obtain ⟨x, hx⟩ : ∃ x, l[k]? = some x := ⟨_, List.getElem?_eq_getElem hkl⟩
      obtain ⟨b1, off1, rfl, _, _, hg1⟩ := vw_get HA.out (by omega)
      obtain ⟨b2, off2, rfl, _, _, hg2⟩ := vw_get HB.out (by omega)
      have hc1 := hg1 k x hx
      have hc2 := hg2 k x hx
      have hkI : (0 : Int) ≤ k ∧ (k : Int) < l.length := by omega
      obtain ⟨hk0, hk1⟩ := hkI
      clear hg1 hg2 hx HA HB
      go_wp2_with fail
      go_quiet (fail)
      go_wp2_with fail
      go_roundw
      case rel => exact ⟨k + 1, _, hkl, by go_num, by first | rfl | exact World.drewN_drewN _ _ _⟩
      case measure => simp [intOf]; omega
    · obtain rfl : k = l.length := by omega
      clear HA HB
      go_wp2_with fail
      go_ret
      exact ⟨rfl, below_drewN (Below.refl _ _) q⟩
/-- Is that a request of one of these commands? -/
def mineL (names : List (List UInt8)) (args : List (List UInt8)) : Bool := chkL args && (match args with | [] => false | nm :: _ => decide (lowL nm ∈ names))
def MineRel (w : World) (N : List (List UInt8)) (low : List UInt8) (i : Value) (wr : World) : Prop :=
  ∃ k : Nat, k ≤ N.length ∧ i = .int .i64 (k : Int) ∧ Below w.heap.size w wr ∧ ∀ j x, j < k → N[j]? = some x → x ≠ low
set_option maxRecDepth 10000 in
set_option maxHeartbeats 4000000 in
theorem mine_ok {A B : Nat → Prop} {w : World} {vn va : Value} {N args : List (List UInt8)} (hN : Vw A w vn 1 N.length (N.map txt)) (ha : Vw B w va 1 args.length (args.map txt)) (hn : ∀ x ∈ args, x.length ≤ 1099511627776) (hl : args.length ≤ 1099511627776) (hNl : N.length ≤ 1000) :
    Calls Tryz.prog 54 #[vn, va] w fun e w' => (∃ t, e = .returned (.tuple #[txt t, .bool (mineL N args)])) ∧ Below w.heap.size w w' := by
  obtain ⟨a1, cap1, rfl, hcap1, _⟩ := id hN.slice
  obtain ⟨a2, cap2, rfl, hcap2, _⟩ := id ha.slice
  rcases hc : chkL args with _ | _
  · have HC := Lib.hid (rcheck_no ha hn hl hc)
    have hm : mineL N args = false := by unfold mineL; rw [hc]; rfl
    rw [hm]
    clear hN ha hc hm
    go_enter Tryz.func54, Tryz.ntmps54
    go_wp2_with fail
    refine HC.out.mono ?_; rintro e w2 ⟨c, t, rfl, hB⟩
    have HB := Lib.hid hB
    clear hB HC
    go_wp2_with fail
    go_ret2
    exact ⟨⟨[], rfl⟩, HB.out⟩
  · cases args with
    | nil => cases hc
    | cons nm rest =>
      have hC0 := rcheck_yes ha hn hl hc
      obtain ⟨b, off, cap', he, hcap, hbl, hk⟩ := vw_head1 (n := rest.length) ha
      injection he with e1 e2 e3
      subst e1 e3
      have hlb : b < w.heap.size := World.block_lt_of_cell? _ _ hk
      have hm : mineL N (nm :: rest) = decide (lowL nm ∈ N) := by unfold mineL; rw [hc]; rfl
      rw [hm]
      have HLO := Lib.hid (fun W => rlower_ok nm W (hn nm (by simp)))
      have HN := Lib.hid hN
      have hn1 : 0 < (nm :: rest).length := by simp
      obtain ⟨n, hnn⟩ : ∃ n, (nm :: rest).length = n := ⟨_, rfl⟩
      rw [hnn] at hC0 hl hn1 ⊢
      have HC := Lib.hid hC0
      clear hN ha hc hm hn e2 hnn hC0
      generalize lowL nm = low at *
      unfold txt at HLO
      go_enter Tryz.func54, Tryz.ntmps54
      go_wp2_with fail
      refine HC.out.mono ?_; rintro e w2 ⟨rfl, hB⟩
      have HB := Lib.hid hB
      have hk2 : w2.cell? ⟨b, off, none⟩ = some (.string ⟨nm.toArray⟩) := by rw [(bcell hB).1 _ _ hlb]; exact hk
      clear hB HC hk
      go_wp2_with fail
      refine (HLO.out _).mono ?_; rintro e w3 ⟨rfl, hB3⟩
      have hat : MineRel w N low (.int .i64 0) w3 := ⟨0, Nat.zero_le _, rfl, HB.out.trans (hB3.mono HB.out.size), fun j x hj => absurd hj (Nat.not_lt_zero _)⟩
      clear hB3 HLO hk2 HB
      go_wp2_with fail
      go_loopw [7] (fun i wr => MineRel w N low i wr) (fun i _ => N.length - (intOf i).toNat)
      case atStart => exact hat
      case round =>
        obtain ⟨k, hk, rfl, hB, hno⟩ := hrel
        clear hat
        by_cases hkl : k < N.length
        · obtain ⟨x, hx⟩ : ∃ x, N[k]? = some x := ⟨_, List.getElem?_eq_getElem hkl⟩
          obtain ⟨b1, off1, rfl, _, _, hg1⟩ := vw_get HN.out (by omega)
          have hc0 := hg1 k x hx
          have hlb1 : b1 < w.heap.size := World.block_lt_of_cell? _ _ hc0
          have hc1 : wr.cell? ⟨b1, off1 + k, none⟩ = some (.string ⟨x.toArray⟩) := by rw [(bcell hB).1 _ _ hlb1]; exact hc0
          have hkI : (0 : Int) ≤ k ∧ (k : Int) < N.length := by omega
          obtain ⟨hk0, hk1⟩ := hkI
          have HB := Lib.hid hB
          by_cases hxl : x = low
          · subst hxl
            have D := Lib.hid (show decide (x ∈ N) = true from decide_eq_true (List.mem_of_getElem? hx))
            clear hg1 hx hc0 hno hB HN
            go_wp2_with fail
            go_ret2
            exact ⟨⟨x, by rw [D.out]; rfl⟩, HB.out⟩
          · have hne : (x == low) = false := by simpa using hxl
            have D := Lib.hid (show MineRel w N low (.int .i64 ((k + 1 : Nat) : Int)) wr from ⟨k + 1, hkl, rfl, hB, fun j y hj hy => by
              rcases Nat.lt_or_ge j k with h | h
              · exact hno j y h hy
              · obtain rfl : j = k := by omega
                rw [hx] at hy
                cases hy
                exact hxl⟩)
            clear hg1 hx hc0 hno hB HN hxl
            go_wp2_with fail
            go_roundw
            case rel => exact D.out
            case measure => simp [intOf]; omega
        · obtain rfl : k = N.length := by omega
          have D := Lib.hid (show decide (low ∈ N) = false from decide_eq_false (fun hm => by
            obtain ⟨j, hj, e⟩ := List.mem_iff_getElem.1 hm
            exact hno j low hj (by rw [List.getElem?_eq_getElem hj, e]) rfl))
          have HB := Lib.hid hB
          clear hno hB HN
          go_wp2_with fail
          go_ret2
          exact ⟨⟨[], by rw [D.out]; rfl⟩, HB.out⟩
/-- What is no request of this layer's is not done. -/
def NotDid (w : World) (e : Ending) (w' : World) : Prop := e = .returned (.tuple #[repV 0 [] 0 (.slice none 0 0), .bool false]) ∧ Below w.heap.size w w'
set_option maxRecDepth 10000 in
set_option maxHeartbeats 2000000 in
theorem lRun_nil {A : Nat → Prop} {w : World} {va : Value} {n : Nat} {xs : List Value} (ha : Vw A w va 1 n xs) : Calls Tryz.prog 23 #[.pointer none, .int .i64 0, va] w (NotDid w) := by
  obtain ⟨a1, cap1, rfl, hcap1, _⟩ := id ha.slice
  have hr : Blk none0 (w.alloc (.cells zRepC 30)) [] w.heap.size zRepC 30 := ⟨heap_alloc_new w _, rfl⟩
  have HR := Lib.hid hr
  clear ha hr
  go_enter Tryz.func23, Tryz.ntmps23
  go_wp2_with fail
  refine bodyPost_ret (v := .tuple #[repV 0 [] 0 (.slice none 0 0), .bool false]) (by simp [results, Tryz.results23, go_sem]) rfl ⟨rfl, ?_⟩
  repeat (refine Below.setCell ?_ (by exact Nat.le_refl _) _)
  exact (Below.refl _ _).alloc (Nat.le_refl _) _
set_option maxRecDepth 10000 in
set_option maxHeartbeats 8000000 in
theorem lRun_not {w : World} {p : Nat} {va : Value} {args : List (List UInt8)} (ha : Vw (Old w) w va 1 args.length (args.map txt)) (hn : ∀ x ∈ args, x.length ≤ 1099511627776) (hl : args.length ≤ 1099511627776) (hm : mineL namesL args = false) :
    Calls Tryz.prog 23 #[.pointer (some ⟨p, 0, none⟩), .int .i64 0, va] w (NotDid w) := by
  have hr : Blk none0 (w.alloc (.cells zRepC 30)) [] w.heap.size zRepC 30 := ⟨heap_alloc_new w _, rfl⟩
  have hB0 : Below w.heap.size w (w.alloc (.cells zRepC 30)) := (Below.refl _ _).alloc (Nat.le_refl _) _
  rcases hc : chkL args with _ | _
  · obtain ⟨a1, cap1, rfl, hcap1, _⟩ := id ha.slice
    have HC := Lib.hid (tcheck_no (ha.below hB0) hn hl hc)
    have HR := Lib.hid hr
    have HB0 := Lib.hid hB0
    clear ha hr hB0 hm hc
    go_enter Tryz.func23, Tryz.ntmps23
    go_wp2_with fail
    refine HC.out.mono ?_; rintro e w2 ⟨c, t, rfl, hB⟩
    have hr2 := HR.out.below hB
    have hrc := hr2.cell
    have hrf := hr2.free
    have HB := Lib.hid (HB0.out.trans (hB.mono HB0.out.size))
    clear hB HC hr2
    go_wp2_with fail
    refine bodyPost_ret (v := .tuple #[repV 0 [] 0 (.slice none 0 0), .bool false]) (by simp [results, Tryz.results23, go_sem, hrc]) rfl ⟨rfl, ?_⟩
    have hB := HB.out
    iterate 4 refine Below.setCell ?_ (by exact Nat.le_refl _) _
    exact hB
  · cases args with
    | nil => cases hc
    | cons nm rest =>
      have hmm : lowL nm ∉ namesL := by
        unfold mineL at hm
        rw [hc] at hm
        simpa using hm
      obtain ⟨s, hsp, hsa, hsb⟩ : ∃ s, specOf (lowL nm) = some s ∧ ((0 ≤ s.arity ∧ ((nm :: rest).length : Int) = s.arity) ∨ (s.arity < 0 ∧ - s.arity ≤ ((nm :: rest).length : Int))) ∧ -9223372036854775808 < s.arity := by
        have hc : (match specOf (lowL nm) with | none => false | some s => fitA s (rest.length + 1)) = true := hc
        cases hs : specOf (lowL nm) with
        | none => rw [hs] at hc; cases hc
        | some s =>
          rw [hs] at hc
          dsimp only at hc
          refine ⟨s, rfl, ?_, (arity_low s (specOf_mem hs)).1⟩
          unfold fitA at hc
          by_cases h0 : 0 ≤ s.arity
          · rw [if_pos h0] at hc
            exact .inl ⟨h0, of_decide_eq_true hc⟩
          · rw [if_neg h0] at hc
            exact .inr ⟨by omega, of_decide_eq_true hc⟩
      have HCK := Lib.hid (check_ok (ha.below hB0) (hn nm (by simp)) hsp hsa hl hsb)
      have HLO := Lib.hid (fun W => lower_ok nm W (hn nm (by simp)))
      obtain ⟨b, off, cap, a', c', rfl, hk, hbl, _, hsl⟩ := vw_rest (xs := rest) ha
      replace hbl : b < w.heap.size := hbl
      have HR := Lib.hid hr
      have HB0 := Lib.hid hB0
      generalize lowL nm = low at *
      have hnone : mfind (putAll [] cmdL) low = none := by
        cases hf : mfind (putAll [] cmdL) low with
        | none => rfl
        | some v => exact absurd (by rw [← names_key]; exact (ofL_mem _ _).2 (mfind_in (by rw [hf]; simp))) hmm
      have hnz : (nm :: rest).length = rest.length + 1 := rfl
      rw [hnz] at *
      have HNO := Lib.hid hnone
      clear ha hr hB0 hm hc hmm hsp hsa hsb hn hnz hnone
      unfold txt at HLO
      have hn3 : ((rest.length + 1 : Nat) : Int) = ((rest.length + 1 : Nat) : Int) := rfl
      have hn1 : 0 < rest.length + 1 := by omega
      have hn4 : 1 ≤ rest.length + 1 := by omega
      generalize rest.length + 1 = N at *
      clear hn3
      go_enter Tryz.func23, Tryz.ntmps23
      go_wp2_with fail
      refine HCK.out.mono ?_; rintro e w2 ⟨rfl, hB2⟩
      have HB2 := Lib.hid hB2
      have hB02 := HB0.out.trans (hB2.mono HB0.out.size)
      have hk2 : w2.cell? ⟨b, off, none⟩ = some (.string ⟨nm.toArray⟩) := by rw [(bcell hB02).1 _ _ hbl]; exact hk
      clear hB2 hk hB02 HCK
      go_wp2_with fail
      refine (HLO.out _).mono ?_; rintro e w3 ⟨rfl, hB3⟩
      have HB3 := Lib.hid (HB2.out.trans (hB3.mono HB2.out.size))
      clear hB3 HB2 HLO
      go_wp2_with fail
      refine (commands_ok _).mono ?_; rintro e w4 ⟨tb, rfl, hmb, hB4⟩
      have hlk := run_look (P := Tryz.prog) hmb Tryz.underlying104 Tryz.underlying9 low true (z := .agg #[.nilFunc]) (by kernel_rfl)
      rw [HNO.out] at hlk
      simp only [Option.getD_none, Option.isSome_none] at hlk
      unfold txt at hlk
      have HB4 := Lib.hid (HB3.out.trans (hB4.mono HB3.out.size))
      have hB5 := HB4.out.alloc (Nat.le_trans (Nat.le_of_eq rfl) HB4.out.size) (.cells #[.nilFunc] 102)
      have hr4 := HR.out.below hB5
      have hrc := hr4.cell
      have hrf := hr4.free
      have hrl := HR.out.lt
      have HB5 := Lib.hid (HB0.out.trans (hB5.mono HB0.out.size))
      have hbA : Blk none0 (w4.alloc (.cells #[.nilFunc] 102)) [] w4.heap.size #[.nilFunc] 102 := ⟨heap_alloc_new w4 _, rfl⟩
      have hcA := hbA.cell
      have hfA := hbA.free
      have hst : (store ⟨w4.heap.size, 0, none⟩ .nilFunc).run Tryz.prog (w4.alloc (.cells #[.nilFunc] 102)) = .ok () ((w4.alloc (.cells #[.nilFunc] 102)).setCell ⟨w4.heap.size, 0, none⟩ .nilFunc) := by
        rw [run_store _ _ _ _ _ rfl]
        simp [hcA, hfA]
      clear hmb hB4 hB5 hr4 HB4 HB3 HNO hsl hk2 hbA
      go_wp2_with fail
      refine bodyPost_ret (v := .tuple #[repV 0 [] 0 (.slice none 0 0), .bool false]) (by simp [results, Tryz.results23, go_sem, hrc]) rfl ⟨rfl, ?_⟩
      have hB := HB5.out
      iterate 4 refine Below.setCell ?_ (by exact Nat.le_refl _) _
      exact hB
end Go.Proofs.YthojmgjgmbnopaaGreatDoor
