import Derived.Test.YthojmgjgmbnopaaGreatDoorHa
import Derived.Deep.QuietTactic
import Derived.BigQuiet
namespace Go.Proofs.YthojmgjgmbnopaaGreatDoor
open Go Go.RowKit
/-! sort.SearchStrings. -/
set_option maxRecDepth 10000 in
theorem sortF_ok {A : Nat → Prop} {w : World} {a b cap : Nat} {av : Option Addr} {L : List Tx} {x : Tx} (ha : w.cell? ⟨a, 0, none⟩ = some (.slice av L.length cap)) (hb : w.cell? ⟨b, 0, none⟩ = some (.string ⟨x.toArray⟩))
    (hL : Vw A w (.slice av L.length cap) 1 L.length (L.map txt)) {k : Nat} {y : Tx} (hy : L[k]? = some y) :
    Calls Tryz.prog 123 #[.int .i64 k, .pointer (some ⟨a, 0, none⟩), .pointer (some ⟨b, 0, none⟩)] w fun e w' => e = .returned (.bool (!ltB y x)) ∧ ∃ n, w' = w.drewN n := by
  have hk : k < L.length := (List.getElem?_eq_some_iff.1 hy).1
  obtain ⟨g, off, rfl, _, hcap, hg⟩ := vw_get hL (by omega)
  have hc := hg k y hy
  have hkI : (0 : Int) ≤ k ∧ (k : Int) < L.length := by omega
  obtain ⟨hk0, hk1⟩ := hkI
  clear hg hy hL
  unfold ltB
  obtain ⟨bl, hbl⟩ : ∃ bl, Op.bytesLess y x = bl := ⟨_, rfl⟩
  rw [hbl]
  go_enter Tryz.func123, Tryz.ntmps123
  go_wp2_with fail
  go_quiet (fail)
  go_wp2_with fail
  go_ret
  exact ⟨by first | rfl | (rw [hbl]), _, rfl⟩
/-- How far the search has come. -/
def SrRel (w : World) (L : List Tx) (x : Tx) (iv jv : Value) (wr : World) : Prop :=
  ∃ i j n : Nat, i ≤ j ∧ j ≤ L.length ∧ iv = .int .i64 (i : Int) ∧ jv = .int .i64 (j : Int) ∧ wr = w.drewN n ∧ (∀ k y, k < i → L[k]? = some y → ltB y x = true) ∧ (∀ k y, j ≤ k → L[k]? = some y → ltB y x = false)
set_option maxRecDepth 10000 in
set_option maxHeartbeats 2000000 in
theorem sortSearch_ok {A : Nat → Prop} {w : World} {a b cap : Nat} {av : Option Addr} {L : List Tx} {x : Tx} (ha : w.cell? ⟨a, 0, none⟩ = some (.slice av L.length cap)) (hb : w.cell? ⟨b, 0, none⟩ = some (.string ⟨x.toArray⟩))
    (hL : Vw A w (.slice av L.length cap) 1 L.length (L.map txt)) (hs : Asc L) (hl : L.length ≤ 1099511627776) :
    Calls Tryz.prog 122 #[.int .i64 (L.length : Int), .func (.func 123) #[] #[.pointer (some ⟨a, 0, none⟩), .pointer (some ⟨b, 0, none⟩)]] w
      fun e w' => ∃ i : Nat, e = .returned (.int .i64 (i : Int)) ∧ i ≤ L.length ∧ (∀ k y, k < i → L[k]? = some y → ltB y x = true) ∧ (∀ k y, i ≤ k → L[k]? = some y → ltB y x = false) ∧ Below w.heap.size w w' := by
  have HF := Lib.hid (fun (n k : Nat) (y : Tx) (hy : L[k]? = some y) => sortF_ok (w := w.drewN n) (by simpa using ha) (by simpa using hb) (hL.below (below_drewN (Below.refl _ _) n)) hy)
  have HS := Lib.hid hs
  clear ha hb hL hs
  go_enter Tryz.func122, Tryz.ntmps122
  go_wp2_with fail
  go_loopw [5, 6] (fun i j wr => SrRel w L x i j wr) (fun i j _ => (intOf j).toNat - (intOf i).toNat)
  case atStart => exact ⟨0, L.length, 0, Nat.zero_le _, Nat.le_refl _, rfl, rfl, rfl, fun k y hk => absurd hk (Nat.not_lt_zero _), fun k y hk hy => absurd (List.getElem?_eq_some_iff.1 hy).1 (by omega)⟩
  case round =>
    obtain ⟨i, j, n, hij, hj, rfl, rfl, rfl, hlo, hhi⟩ := hrel
    by_cases hlt : i < j
    · obtain ⟨m, hm⟩ : ∃ m, m = (i + j) / 2 := ⟨_, rfl⟩
      have hm1 : i ≤ m ∧ m < j := by omega
      obtain ⟨y, hy⟩ : ∃ y, L[m]? = some y := ⟨_, List.getElem?_eq_getElem (by omega)⟩
      have hF := HF.out n m y hy
      have em : ((i : Int) + (j : Int)) / 2 = (m : Int) := by omega
      have HLO := Lib.hid hlo
      have HHI := Lib.hid hhi
      have HM := Lib.hid hm1
      have HY := Lib.hid hy
      have hmI : (m : Int) ≤ 1099511627776 ∧ (0 : Int) ≤ m := by omega
      obtain ⟨hm3, hm4⟩ := hmI
      rcases hb : ltB y x with _ | _
      · rw [hb] at hF
        simp only [Bool.not_false] at hF
        have HF2 := Lib.hid hF
        have HB := Lib.hid hb
        clear hF hb hlo hhi hm1 hy HF hm
        go_wp2_with fail
        refine HF2.out.mono ?_; rintro e w2 ⟨rfl, n2, rfl⟩
        have D := Lib.hid (show SrRel w L x (.int .i64 (i : Int)) (.int .i64 (m : Int)) (w.drewN (n + n2)) from ⟨i, m, _, HM.out.1, by have := HM.out.2; omega, rfl, rfl, rfl, HLO.out, fun k z hk hz => by
          rcases Nat.lt_or_ge m k with h | h
          · cases hc : ltB z x with
            | false => rfl
            | true =>
              have h1 : ltB y z = true := by
                have hp := List.pairwise_iff_getElem.1 HS.out
                have e1 := (List.getElem?_eq_some_iff.1 HY.out)
                have e2 := (List.getElem?_eq_some_iff.1 hz)
                have := hp m k e1.1 e2.1 h
                rw [e1.2, e2.2] at this; exact this
              have h2 : ltB y x = true := less_trans y z x h1 hc
              rw [HB.out] at h2; cases h2
          · have : k = m := by omega
            subst this
            rw [HY.out] at hz; cases hz; exact HB.out⟩)
        clear HLO HHI HF2
        go_wp2_with fail
        go_roundw
        case rel => exact D.out
        case measure => have := HM.out; simp [intOf]; omega
      · rw [hb] at hF
        simp only [Bool.not_true] at hF
        have HF2 := Lib.hid hF
        have HB := Lib.hid hb
        clear hF hb hlo hhi hm1 hy HF hm
        go_wp2_with fail
        refine HF2.out.mono ?_; rintro e w2 ⟨rfl, n2, rfl⟩
        have D := Lib.hid (show SrRel w L x (.int .i64 ((m + 1 : Nat) : Int)) (.int .i64 (j : Int)) (w.drewN (n + n2)) from ⟨m + 1, j, _, HM.out.2, hj, rfl, rfl, rfl, fun k z hk hz => by
          rcases Nat.lt_or_ge k m with h | h
          · have h1 : ltB z y = true := by
              have hp := List.pairwise_iff_getElem.1 HS.out
              have e1 := (List.getElem?_eq_some_iff.1 HY.out)
              have e2 := (List.getElem?_eq_some_iff.1 hz)
              have := hp k m e2.1 e1.1 h
              rw [e1.2, e2.2] at this; exact this
            exact less_trans z y x h1 HB.out
          · have : k = m := by omega
            subst this
            rw [HY.out] at hz; cases hz; exact HB.out, HHI.out⟩)
        clear HLO HHI HF2
        go_wp2_with fail
        go_roundw
        case rel => exact D.out
        case measure => have := HM.out; simp [intOf]; omega
    · obtain rfl : i = j := by omega
      have HLO := Lib.hid hlo
      have HHI := Lib.hid hhi
      clear hlo hhi HF
      go_wp2_with fail
      go_ret
      exact ⟨i, rfl, hj, HLO.out, HHI.out, below_drewN (Below.refl _ _) n⟩
set_option maxRecDepth 10000 in
theorem searchStrings_ok {A : Nat → Prop} {w : World} {cap : Nat} {av : Option Addr} {L : List Tx} {x : Tx} (hL : Vw A w (.slice av L.length cap) 1 L.length (L.map txt)) (hs : Asc L) (hl : L.length ≤ 1099511627776) :
    Calls Tryz.prog 65 #[.slice av L.length cap, txt x] w
      fun e w' => ∃ i : Nat, e = .returned (.int .i64 (i : Int)) ∧ i ≤ L.length ∧ (∀ k y, k < i → L[k]? = some y → ltB y x = true) ∧ (∀ k y, i ≤ k → L[k]? = some y → ltB y x = false) ∧ Below w.heap.size w w' := by
  have hB1 := lit_below0 w (.cells #[.slice av L.length cap] 39)
  have hB2 := hB1.trans ((lit_below0 (w.alloc (.cells #[.slice av L.length cap] 39)) (.cells #[.string ⟨x.toArray⟩] 9)).mono hB1.size)
  have hca : ((w.alloc (.cells #[.slice av L.length cap] 39)).alloc (.cells #[.string ⟨x.toArray⟩] 9)).cell? ⟨w.heap.size, 0, none⟩ = some (.slice av L.length cap) := by
    refine cell_below (lit_below0 _ _) ?_
    unfold World.cell?; rw [heap_alloc_new]; rfl
  have hcb : ((w.alloc (.cells #[.slice av L.length cap] 39)).alloc (.cells #[.string ⟨x.toArray⟩] 9)).cell? ⟨w.heap.size + 1, 0, none⟩ = some (.string ⟨x.toArray⟩) := by
    have e : (w.alloc (.cells #[.slice av L.length cap] 39)).heap.size = w.heap.size + 1 := by simp
    unfold World.cell?
    dsimp only
    rw [← e, heap_alloc_new]; rfl
  have HS := Lib.hid (sortSearch_ok hca hcb (hL.below hB2) hs hl)
  have HB2 := Lib.hid hB2
  clear hca hcb hL hs hB1 hB2
  unfold txt
  go_enter Tryz.func65, Tryz.ntmps65
  go_wp2_with fail
  refine HS.out.mono ?_; rintro e w2 ⟨i, rfl, hi, h1, h2, hB⟩
  have HD := Lib.hid (And.intro hi (And.intro h1 (And.intro h2 (HB2.out.trans (hB.mono HB2.out.size)))))
  clear hi h1 h2 hB HS HB2
  go_wp2_with fail
  go_ret
  exact ⟨i, rfl, HD.out.1, HD.out.2.1, HD.out.2.2.1, HD.out.2.2.2⟩
end Go.Proofs.YthojmgjgmbnopaaGreatDoor
