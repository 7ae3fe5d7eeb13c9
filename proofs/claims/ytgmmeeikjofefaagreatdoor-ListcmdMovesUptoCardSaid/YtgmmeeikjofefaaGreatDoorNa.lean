import Derived.Test.YtgmmeeikjofefaaGreatDoorTl
import Derived.Test.YtgmmeeikjofefaaGreatDoorSn
namespace Go.Proofs.YtgmmeeikjofefaaGreatDoor
open Go Go.RowKit
/-! num.Parse, two. -/
theorem bytes_below {w w' : World} {t : TypeId} (h : w' = w ∨ ∃ s, w' = Lib.bytesWorld w t s) : Below w.heap.size w w' := by
  rcases h with rfl | ⟨s, rfl⟩
  · exact Below.refl _ _
  · exact ⟨rfl, rfl, rfl, by rw [Lib.bytesWorld_size]; omega, fun b hb => Lib.bytesWorld_at_old w _ _ b hb⟩
theorem grow_below {w w' : World} (h : ∃ k os, w' = Sort.grow (w.drewN k) os) : Below w.heap.size w w' := by
  obtain ⟨k, os, rfl⟩ := h
  exact ⟨rfl, rfl, rfl, by simp [Sort.grow], fun b hb => Sort.heap_grow_old _ _ hb⟩
/-- The number that a text is the one text of. -/
def parseN (s : List UInt8) : Option Int := match Lib.parseIntB 64 s with
  | .ok v => if Lib.itoa v = s then some v else none
  | _ => none
def ParseDid (w : World) (r : Option Int) (e : Ending) (w' : World) : Prop := e = .returned (.tuple #[.int .i64 (r.getD 0), .int .i64 (if r.isSome then 0 else 10)]) ∧ Below w.heap.size w w'
theorem parse64_range {s : List UInt8} {v : Int} (h : Lib.parseIntB 64 s = .ok v) : -9223372036854775808 ≤ v ∧ v ≤ 9223372036854775807 := by
  unfold Lib.parseIntB at h
  split at h
  · cases h
  · dsimp only at h
    split at h
    · cases h
    · cases h
    · split at h
      · cases h
      · split at h
        · cases h
        · cases h
          rename_i u _ h1 h2
          have h3 : (2 : Nat) ^ (64 - 1) = 9223372036854775808 := by decide
          rw [h3] at h1 h2
          split <;> rename_i h4
          · simp only [h4, true_and] at h2; omega
          · simp only [h4, not_false_iff, true_and] at h1; omega
set_option maxRecDepth 10000 in
set_option maxHeartbeats 1000000 in
theorem parse_ok {w : World} (hT : Tbl w) (s : List UInt8) (hs : s.length ≤ 1099511627776) : Calls Tryz.prog 68 #[txt s] w (ParseDid w (parseN s)) := by
  have hsz : (⟨s.toArray⟩ : ByteArray).size = s.length := by simp [ByteArray.size]
  obtain ⟨ev1, hv1, hn1⟩ := hT.es
  obtain ⟨ev2, hv2, hn2⟩ := hT.er
  rcases hp : Lib.parseIntB 64 s with v | _ | _
  · skip
    obtain ⟨hr1, hr2⟩ := parse64_range hp
    have HP := Lib.hid (Tryz.strconv_ParseInt_10_at64_ok ⟨s.toArray⟩ (by rw [hsz]; omega) v hp w)
    have HF := Lib.hid (fun (W : World) (hB : Below w.heap.size w W) => Tryz.strconv_FormatInt_10 v hr1 hr2 W (hT.below hB).pow)
    have hpn : parseN s = if Lib.itoa v = s then some v else none := by unfold parseN; rw [hp]
    by_cases he : Lib.itoa v = s
    · rw [if_pos he] at hpn
      rw [hpn]
      have hne : (Lib.itoa v == s) = true := by simp [he]
      clear hpn hp hT hv1 hv2 hn1 hn2 hsz he
      unfold txt
      go_enter Tryz.func68, Tryz.ntmps68
      go_wp2_with fail
      refine HP.out.mono ?_; rintro e w1 ⟨rfl, hw⟩
      have hB1 := bytes_below hw
      go_wp2_with fail
      refine (HF.out w1 hB1).mono ?_; rintro e w2 ⟨rfl, hw2⟩
      have HB := Lib.hid (hB1.trans ((grow_below hw2).mono hB1.size))
      clear hw hB1 hw2 HP HF
      go_wp2_with fail
      go_ret2
      exact ⟨rfl, HB.out⟩
    · rw [if_neg he] at hpn
      rw [hpn]
      have hne : (Lib.itoa v == s) = false := by simp [he]
      clear hpn hp hT hv1 hv2 hn1 hn2 hsz he
      unfold txt
      go_enter Tryz.func68, Tryz.ntmps68
      go_wp2_with fail
      refine HP.out.mono ?_; rintro e w1 ⟨rfl, hw⟩
      have hB1 := bytes_below hw
      go_wp2_with fail
      refine (HF.out w1 hB1).mono ?_; rintro e w2 ⟨rfl, hw2⟩
      have HB := Lib.hid (hB1.trans ((grow_below hw2).mono hB1.size))
      clear hw hB1 hw2 HP HF
      go_wp2_with fail
      go_ret2
      exact ⟨rfl, HB.out⟩
  · skip
    have HP := Lib.hid (Tryz.strconv_ParseInt_10_at64_syntax ⟨s.toArray⟩ (by rw [hsz]; omega) hp ev1 w hv1 hn1)
    have hpn : parseN s = none := by unfold parseN; rw [hp]
    rw [hpn]
    clear hpn hp hT hv1 hv2 hn1 hn2 hsz
    unfold txt
    go_enter Tryz.func68, Tryz.ntmps68
    go_wp2_with fail
    refine HP.out.mono ?_; rintro e w1 ⟨N, rfl, _, _, hB1⟩
    have HB := Lib.hid hB1
    clear hB1 HP
    go_wp2_with fail
    go_ret2
    exact ⟨rfl, HB.out⟩
  · skip
    have HP := Lib.hid (Tryz.strconv_ParseInt_10_at64_range ⟨s.toArray⟩ (by rw [hsz]; omega) hp ev2 w hv2 hn2)
    have hpn : parseN s = none := by unfold parseN; rw [hp]
    rw [hpn]
    clear hpn hp hT hv1 hv2 hn1 hn2 hsz
    unfold txt
    generalize Lib.intSat 64 _ = iv at HP
    go_enter Tryz.func68, Tryz.ntmps68
    go_wp2_with fail
    refine HP.out.mono ?_; rintro e w1 ⟨N, rfl, _, _, hB1⟩
    have HB := Lib.hid hB1
    clear hB1 HP
    go_wp2_with fail
    go_ret2
    exact ⟨rfl, HB.out⟩
def TwoDid (w : World) (a b : Option Int) (e : Ending) (w' : World) : Prop := e = .returned (.tuple #[.int .i64 (a.getD 0), .int .i64 (b.getD 0), .bool (a.isSome && b.isSome)]) ∧ Below w.heap.size w w'
set_option maxRecDepth 10000 in
set_option maxHeartbeats 1000000 in
theorem two_ok {w : World} (hT : Tbl w) (x y : List UInt8) (hx : x.length ≤ 1099511627776) (hy : y.length ≤ 1099511627776) : Calls Tryz.prog 76 #[txt x, txt y] w (TwoDid w (parseN x) (parseN y)) := by
  have HX := Lib.hid (parse_ok hT x hx)
  have HY := Lib.hid (fun (W : World) (hB : Below w.heap.size w W) => parse_ok (hT.below hB) y hy)
  clear hT
  generalize parseN x = a at *
  generalize parseN y = b at *
  unfold txt at *
  unfold ParseDid at *
  rcases a with _ | a <;> rcases b with _ | b <;> simp only [Option.isSome_none, Option.isSome_some, if_true, Bool.false_eq_true, if_false] at HX HY <;> (
    go_enter Tryz.func76, Tryz.ntmps76
    go_wp2_with fail
    refine HX.out.mono ?_; rintro e w1 ⟨rfl, hB1⟩
    go_wp2_with fail
    refine (HY.out w1 hB1).mono ?_; rintro e w2 ⟨rfl, hB2⟩
    have HB := Lib.hid (hB1.trans (hB2.mono hB1.size))
    clear hB1 hB2 HX HY
    go_wp2_with fail
    go_ret3
    exact ⟨rfl, HB.out⟩)
end Go.Proofs.YtgmmeeikjofefaaGreatDoor
