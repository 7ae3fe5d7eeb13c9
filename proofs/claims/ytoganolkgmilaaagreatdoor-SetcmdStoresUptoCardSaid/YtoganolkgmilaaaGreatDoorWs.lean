import Derived.Test.YtoganolkgmilaaaGreatDoorWs0
import Derived.Test.YtoganolkgmilaaaGreatDoorWs1
import Derived.Test.YtoganolkgmilaaaGreatDoorWs2
namespace Go.Proofs.YtoganolkgmilaaaGreatDoor
open Go Go.RowKit
set_option maxRecDepth 10000 in
set_option maxHeartbeats 20000000 in
theorem setLawStores_few {w0 : World} {va : Value} {a : List Tx} (ha : Vw (Old w0) w0 va 1 a.length (a.map txt)) {vb : Value} {b : List Tx} (hb : Vw (Old w0) w0 vb 1 b.length (b.map txt)) (vn : Value) (hab : a = [] ∨ b = []) :
    Calls Tryz.prog 3 #[va, vb, vn] w0 fun e w' => e = .returned (.bool true) ∧ Below w0.heap.size w0 w' := by
  obtain ⟨aa, ca, rfl, _⟩ := id ha.slice
  obtain ⟨ab, cb, rfl, _⟩ := id hb.slice
  have HN := Lib.hid (jnew_ok none0 w0 [1])
  have hab' : ((a.length : Int) == 0) = true ∨ ((a.length : Int) == 0) = false ∧ ((b.length : Int) == 0) = true := by
    rcases hab with rfl | rfl
    · exact .inl rfl
    · cases a with
      | nil => exact .inl rfl
      | cons x t => exact .inr ⟨beq_eq_false_iff_ne.2 (by simp; omega), rfl⟩
  clear ha hb hab
  generalize a.length = na at *
  generalize b.length = nb at *
  go_enter Tryz.func3, Tryz.ntmps3
  go_wp2_with fail
  refine HN.out.mono ?_; rintro e w1 ⟨p, o1, rfl, hj, hs⟩
  have HB1 := Lib.hid hs.below0
  clear hj hs HN
  go_wp2_with fail
  refine awake_ok.mono ?_; rintro e w2 ⟨rfl, hB2⟩
  have HB2 := Lib.hid (HB1.out.trans (hB2.mono HB1.out.size))
  clear hB2
  rcases hab' with h0 | h0
  · go_wp2_with fail
    refine awake_ok.mono ?_; rintro e w3 ⟨rfl, hB3⟩
    have HB3 := Lib.hid (HB2.out.trans (hB3.mono HB2.out.size))
    clear hB3
    go_wp2_with fail
    go_ret
    exact ⟨rfl, HB3.out⟩
  · obtain ⟨h0, h1⟩ := h0
    go_wp2_with fail
    refine awake_ok.mono ?_; rintro e w3 ⟨rfl, hB3⟩
    have HB3 := Lib.hid (HB2.out.trans (hB3.mono HB2.out.size))
    clear hB3
    go_wp2_with fail
    go_ret
    exact ⟨rfl, HB3.out⟩
theorem stores_con (w0 : World) (_ : Tbl w0) (a : List (List UInt8)) (va : Value) (ha : Vw (Old w0) w0 va 1 a.length (a.map txt)) (hsa : ∀ x ∈ a, x.length ≤ 1048576) (hla : a.length ≤ 1048576)
    (b : List (List UInt8)) (vb : Value) (hb : Vw (Old w0) w0 vb 1 b.length (b.map txt)) (hsb : ∀ x ∈ b, x.length ≤ 1048576) (hlb : b.length ≤ 1048576) (n : Int) :
    Calls Tryz.prog 3 #[va, vb, .int .i64 n] w0 fun e w' => e = .returned (.bool true) ∧ Below w0.heap.size w0 w' := by
  by_cases h0a : a = []
  · exact setLawStores_few ha hb _ (.inl h0a)
  by_cases h0b : b = []
  · exact setLawStores_few ha hb _ (.inr h0b)
  have hrm : -3 < n.tmod 3 ∧ n.tmod 3 < 3 := by
    have h1 := Int.tmod_lt_of_pos n (show (0 : Int) < 3 by decide)
    have h2 := Int.lt_tmod_of_pos n (show (0 : Int) < 3 by decide)
    omega
  have h4 : 0 ≤ (n.tmod 3 + 3).tmod 3 ∧ (n.tmod 3 + 3).tmod 3 < 3 := by
    have h5 : 0 ≤ n.tmod 3 + 3 := by omega
    rw [Int.tmod_eq_emod_of_nonneg h5]
    omega
  rcases (show (n.tmod 3 + 3).tmod 3 = 0 ∨ (n.tmod 3 + 3).tmod 3 = 1 ∨ (n.tmod 3 + 3).tmod 3 = 2 by omega) with h | h | h
  · exact stores_w0 ha hb n hsa hsb hla hlb h0a h0b hrm h
  · exact stores_w1 ha hb n hsa hsb hla hlb h0a h0b hrm h
  · exact stores_w2 ha hb n hsa hsb hla hlb h0a h0b hrm h
end Go.Proofs.YtoganolkgmilaaaGreatDoor
