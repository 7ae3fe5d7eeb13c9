import Derived.Test.YthojmgjgmbnopaaGreatDoorXM
import Derived.Test.YthojmgjgmbnopaaGreatDoorSi
namespace Go.Proofs.YthojmgjgmbnopaaGreatDoor
open Go Go.RowKit
/-! Sums; a number's text; blob.Incr. -/
def inR (n : Int) : Bool := decide (-9223372036854775808 ≤ n) && decide (n ≤ 9223372036854775807)
def SumDid (w : World) (n : Int) (e : Ending) (w' : World) : Prop := e = .returned (.tuple #[.int .i64 (if inR n then n else 0), .int .i64 (if inR n then 0 else 11)]) ∧ w' = w
set_option maxRecDepth 10000 in
theorem nadd_ok (w : World) {a b : Int} (ha : -9223372036854775808 ≤ a ∧ a ≤ 9223372036854775807) (hb : -9223372036854775808 ≤ b ∧ b ≤ 9223372036854775807) : Calls Tryz.prog 250 #[.int .i64 a, .int .i64 b] w (SumDid w (a + b)) := by
  unfold SumDid
  by_cases hp : 0 < b
  · have e1 : IntKind.i64.wrap (9223372036854775807 - b) = 9223372036854775807 - b := by rw [IntKind.wrap_i64]; omega
    have hn : ¬ b < 0 := by omega
    by_cases ho : 9223372036854775807 - b < a
    · have er : inR (a + b) = false := by unfold inR; simp; omega
      rw [er]
      go_enter Tryz.func250, Tryz.ntmps250
      go_wp2_with fail
      go_ret2
      exact ⟨rfl, rfl⟩
    · have er : inR (a + b) = true := by unfold inR; simp; omega
      have e2 : IntKind.i64.wrap (a + b) = a + b := by rw [IntKind.wrap_i64]; omega
      rw [er]
      go_enter Tryz.func250, Tryz.ntmps250
      go_wp2_with fail
      go_ret2
      exact ⟨rfl, rfl⟩
  · by_cases hn : b < 0
    · have e1 : IntKind.i64.wrap (-9223372036854775808 - b) = -9223372036854775808 - b := by rw [IntKind.wrap_i64]; omega
      by_cases ho : a < -9223372036854775808 - b
      · have er : inR (a + b) = false := by unfold inR; simp; omega
        rw [er]
        go_enter Tryz.func250, Tryz.ntmps250
        go_wp2_with fail
        go_ret2
        exact ⟨rfl, rfl⟩
      · have er : inR (a + b) = true := by unfold inR; simp; omega
        have e2 : IntKind.i64.wrap (a + b) = a + b := by rw [IntKind.wrap_i64]; omega
        rw [er]
        go_enter Tryz.func250, Tryz.ntmps250
        go_wp2_with fail
        go_ret2
        exact ⟨rfl, rfl⟩
    · obtain rfl : b = 0 := by omega
      have er : inR (a + 0) = true := by unfold inR; simp; omega
      have e2 : IntKind.i64.wrap (a + 0) = a + 0 := by rw [IntKind.wrap_i64]; omega
      have e3 : IntKind.i64.wrap a = a := by rw [IntKind.wrap_i64]; omega
      rw [er]
      go_enter Tryz.func250, Tryz.ntmps250
      go_wp2_with fail
      go_ret2
      exact ⟨by simp, rfl⟩
set_option maxRecDepth 10000 in
theorem nprint_ok {w : World} (hT : Tbl w) {n : Int} (hn : -9223372036854775808 ≤ n ∧ n ≤ 9223372036854775807) : Calls Tryz.prog 251 #[.int .i64 n] w fun e w' => e = .returned (txt (Lib.itoa n)) ∧ Below w.heap.size w w' := by
  have H := Lib.hid (Tryz.strconv_Itoa n hn.1 hn.2 w hT.pow)
  unfold txt
  go_enter Tryz.func251, Tryz.ntmps251
  go_wp2_with fail
  refine H.out.mono ?_; rintro e w1 ⟨rfl, hw⟩
  have HB := Lib.hid (grow_below hw)
  clear hw
  go_wp2_with fail
  go_ret
  exact ⟨rfl, HB.out⟩
theorem parseN_range {s : List UInt8} {m : Int} (h : parseN s = some m) : -9223372036854775808 ≤ m ∧ m ≤ 9223372036854775807 := by
  unfold parseN at h
  split at h
  · rename_i v hv
    split at h
    · cases h; exact parse64_range hv
    · cases h
  · cases h
def IncDid (w : World) (n : Int) (e : Ending) (w' : World) : Prop := e = .returned (.tuple #[txt (if inR n then Lib.itoa n else []), .int .i64 (if inR n then n else 0), .int .i64 (if inR n then 0 else 11)]) ∧ Below w.heap.size w w'
set_option maxRecDepth 10000 in
theorem bincr_ok {w : World} (hT : Tbl w) {s : List UInt8} {m by_ : Int} (hm : parseN s = some m) (hs : s.length ≤ 1099511627776) (hb : -9223372036854775808 ≤ by_ ∧ by_ ≤ 9223372036854775807) : Calls Tryz.prog 186 #[txt s, .int .i64 by_] w (IncDid w (m + by_)) := by
  have hmr := parseN_range hm
  have hp := parse_ok hT s hs
  rw [hm] at hp
  unfold ParseDid at hp
  simp only [Option.getD_some, Option.isSome_some, if_true] at hp
  have HPA := Lib.hid hp
  have hadd := fun W => nadd_ok W hmr hb
  unfold SumDid at hadd
  have HPR := Lib.hid (fun (W : World) (hW : Below w.heap.size w W) (hr : inR (m + by_) = true) => nprint_ok (hT.below hW) (n := m + by_) (by unfold inR at hr; simpa using hr))
  unfold IncDid
  unfold txt at HPA HPR ⊢
  clear hp hmr hb hm hs hT
  obtain ⟨r, hr⟩ : ∃ r, inR (m + by_) = r := ⟨_, rfl⟩
  rw [hr] at hadd ⊢
  have HR := Lib.hid hr
  clear hr
  generalize m + by_ = n at *
  cases r with
  | false =>
    have HAD := Lib.hid hadd
    clear hadd HPR HR
    go_enter Tryz.func186, Tryz.ntmps186
    go_wp2_with fail
    refine HPA.out.mono ?_; rintro e w1 ⟨rfl, hB1⟩
    have HB1 := Lib.hid hB1
    clear hB1 HPA
    go_wp2_with fail
    refine (HAD.out _).mono ?_; rintro e w2 ⟨rfl, rfl⟩
    go_wp2_with fail
    go_ret3
    exact ⟨rfl, HB1.out⟩
  | true =>
    have HAD := Lib.hid hadd
    have HPR := Lib.hid (fun W hW => HPR.out W hW HR.out)
    clear hadd HR
    go_enter Tryz.func186, Tryz.ntmps186
    go_wp2_with fail
    refine HPA.out.mono ?_; rintro e w1 ⟨rfl, hB1⟩
    have HB1 := Lib.hid hB1
    clear hB1 HPA
    go_wp2_with fail
    refine (HAD.out _).mono ?_; rintro e w2 ⟨rfl, rfl⟩
    go_wp2_with fail
    refine (HPR.out _ HB1.out).mono ?_; rintro e w3 ⟨rfl, hB3⟩
    have HB3 := Lib.hid (HB1.out.trans (hB3.mono HB1.out.size))
    clear hB3 HPR
    go_wp2_with fail
    go_ret3
    exact ⟨rfl, HB3.out⟩
end Go.Proofs.YthojmgjgmbnopaaGreatDoor
