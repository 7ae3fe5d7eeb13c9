import Derived.Test.YthojmgjgmbnopaaGreatDoorNm
import Derived.Test.YthojmgjgmbnopaaGreatDoorNr
import Derived.Test.YthojmgjgmbnopaaGreatDoorAw
namespace Go.Proofs.YthojmgjgmbnopaaGreatDoor
open Go Go.RowKit
/-! ListcmdNames' walk. -/
theorem names_same {w : World} {b c : Nat} (h : NamB w b) (k : NamB w c) :
    Calls Tryz.prog 53 #[.slice (some ⟨b, 0, none⟩) 24 24, .slice (some ⟨c, 0, none⟩) 24 24] w fun e w' => e = .returned (.bool true) ∧ Below w.heap.size w w' :=
  same_eq h.vw k.vw (by decide)
theorem names_new (w w' : World) (h : w' = w.alloc (.cells (namesL.map txt).toArray 9)) : Below w.heap.size w w' ∧ NamB w' w.heap.size := by
  subst h
  refine ⟨lit_below0 w _, by simp, fun k hk => ?_⟩
  have hb : Blk none0 (w.alloc (.cells (namesL.map txt).toArray 9)) [] w.heap.size (namesL.map txt).toArray 9 := ⟨heap_alloc_new w _, rfl⟩
  exact ⟨by rw [hb.cell]; simp, hb.free k⟩
/-- What stands behind the store into the first list. -/
structure NamR (w0 : World) (b2 b3 : Nat) (w : World) : Prop where
  below : Below w0.heap.size w0 w
  two : NamB w b2
  three : NamB w b3
  new2 : w0.heap.size ≤ b2
  new3 : w0.heap.size ≤ b3
theorem NamR.next {w0 w w' : World} {b2 b3 : Nat} (h : NamR w0 b2 b3 w) (hB : Below w.heap.size w w') : NamR w0 b2 b3 w' := ⟨h.below.trans (hB.mono h.below.size), h.two.below hB, h.three.below hB, h.new2, h.new3⟩
theorem names_at (at_ : Int) : ∃ j : Nat, j < 24 ∧ ((at_ < 0 ∧ j = 0) ∨ (∃ u : Nat, at_ = (u : Int) ∧ u % 24 = j)) := by
  by_cases h : at_ < 0
  · exact ⟨0, by decide, .inl ⟨h, rfl⟩⟩
  · obtain ⟨u, rfl⟩ := Int.eq_ofNat_of_zero_le (show 0 ≤ at_ by omega)
    exact ⟨u % 24, Nat.mod_lt _ (by decide), .inr ⟨u, rfl, rfl⟩⟩
set_option maxRecDepth 10000 in
set_option maxHeartbeats 20000000 in
theorem names_law {w0 : World} (hT : Tbl w0) {va : Value} {l : List (List UInt8)} (ha : Vw (Old w0) w0 va 1 l.length (l.map txt)) (hsl : ∀ x ∈ l, x.length ≤ 1048576) (hll : l.length ≤ 1048576) (at_ : Int) :
    Calls Tryz.prog 12 #[va, .int .i64 at_] w0 fun e w' => e = .returned (.bool true) ∧ Below w0.heap.size w0 w' := by
  obtain ⟨aa, ca, rfl, _⟩ := id ha.slice
  have hsl2 : ∀ x ∈ l, x.length ≤ 1099511627776 := fun x hx => Nat.le_trans (hsl x hx) (by decide)
  have hll2 : l.length ≤ 1099511627776 := by omega
  have HT := Lib.hid hT
  have HA := Lib.hid ha
  have HSL := Lib.hid hsl2
  have HLL := Lib.hid hll2
  obtain ⟨j, hj16, hat⟩ := names_at at_
  have hjI : (0 : Int) ≤ j ∧ (j : Int) < 24 := by omega
  obtain ⟨hj0, hj1⟩ := hjI
  clear hT ha hsl hll hsl2 hll2
  go_enter Tryz.func12, Tryz.ntmps12
  go_wp2_with fail
  refine (tnames_ok _).mono ?_; rintro e w1 ⟨g1, rfl, hg1, hb1, hB1⟩
  go_wp2_with fail
  refine (tnames_ok _).mono ?_; rintro e w2 ⟨b2, rfl, hg2, hb2, hB2⟩
  go_wp2_with fail
  refine (rfNames_ok _).mono ?_; rintro e w3 ⟨rfl, hw3⟩
  obtain ⟨hB3, hb3⟩ := names_new _ _ hw3
  clear hw3
  have hn12 : g1 < b2 := Nat.lt_of_lt_of_le hb1.1 hg2
  have hn23 : g1 < w2.heap.size := Nat.lt_of_lt_of_le hb1.1 hB2.size
  have hb13 := (hb1.below hB2).below hB3
  have hr3 : NamR w0 b2 w2.heap.size w3 := ⟨(hB1.trans (hB2.mono hB1.size)).trans (hB3.mono (Nat.le_trans hB1.size hB2.size)), hb2.below hB3, hb3, by omega, Nat.le_trans hB1.size hB2.size⟩
  have HB13 := Lib.hid hb13
  have HR3 := Lib.hid hr3
  have HN1 := Lib.hid hn12
  have HN2 := Lib.hid hn23
  have HG1 := Lib.hid hg1
  clear hB1 hb1 hB2 hb2 hB3 hb3 hn12 hn23 hb13 hr3 hg2 hg1
  generalize w2.heap.size = b3 at *
  go_wp2_with fail
  refine (names_same HB13.out HR3.out.three).mono ?_; rintro e w4 ⟨rfl, hB4⟩
  have HAW := Lib.hid (fun (W : World) (hW : Below w0.heap.size w0 W) => awake_ok (HT.out.below hW))
  have HR4 := Lib.hid (HR3.out.next hB4)
  have HB14 := Lib.hid (HB13.out.below hB4)
  clear hB4 HR3 HB13
  go_wp2_with fail
  refine (HAW.out _ HR4.out.below).mono ?_; rintro e w5 ⟨rfl, hB5⟩
  have HR5 := Lib.hid (HR4.out.next hB5)
  have hb15 := HB14.out.below hB5
  have hfr := fun k hk => (hb15.2 k hk).2
  have hfr := hfr j hj16
  have hcl : ∃ u, w5.cell? ⟨g1, j, none⟩ = some u := by
    rw [(hb15.2 j hj16).1]
    exact ⟨_, List.getElem?_eq_getElem (show j < (namesL.map txt).length from hj16)⟩
  obtain ⟨u5, hcl⟩ := hcl
  have HR6 : ∀ v, NamR w0 b2 b3 (w5.setCell ⟨g1, j, none⟩ v) := fun v =>
    ⟨HR5.out.below.setCell HG1.out _, HR5.out.two.setOther _ _ (by have := HN1.out; show b2 ≠ g1; omega), HR5.out.three.setOther _ _ (by have := HN2.out; show b3 ≠ g1; omega), HR5.out.new2, HR5.out.new3⟩
  have HR6 := Lib.hid HR6
  clear hB5 hb15 HR4 HB14 HAW HR5
  have HV := Lib.hid (fun (W : World) (hW : Below w0.heap.size w0 W) => (HA.out.below hW).imp (B := Old W) (fun b hb => Nat.lt_of_lt_of_le hb hW.size))
  clear HA
  obtain ⟨u0, hu0⟩ : ∃ u : Nat, ((at_ < 0 ∧ u = 0) ∨ (0 ≤ at_ ∧ at_ = (u : Int))) ∧ Int.tmod (u : Int) 24 = (j : Int) := by
    rcases hat with ⟨h, rfl⟩ | ⟨u, rfl, rfl⟩
    · exact ⟨0, .inl ⟨h, rfl⟩, rfl⟩
    · exact ⟨u, .inr ⟨by omega, rfl⟩, rfl⟩
  obtain ⟨hu0, hmod⟩ := hu0
  clear hat
  go_upto_if 26 with fail
  go_cut [1] (fun s1 wx => wx = w5 ∧ s1 = .int .i64 (u0 : Int))
  case first =>
    clear HR6 HV hcl hfr HT HSL HLL hmod
    rcases hu0 with ⟨hneg, rfl⟩ | ⟨hpos, rfl⟩
    · have d0 : decide (at_ < 0) = true := decide_eq_true hneg
      go_wp2_with fail
      go_meet
      exact ⟨rfl, rfl⟩
    · have d0 : decide ((u0 : Int) < 0) = false := decide_eq_false (by omega)
      go_wp2_with fail
      go_meet
      exact ⟨rfl, rfl⟩
  case rest =>
    obtain ⟨rfl, rfl⟩ := hcut
    clear hu0 at_
    go_wp2_with fail
    refine (lRun_nil (HV.out _ (HR6.out _).below)).mono ?_; rintro e w7 ⟨rfl, hB7⟩
    have hr7 := (HR6.out _).next hB7
    have hR0 : w0.heap.size ≤ w7.heap.size := hr7.below.size
    have HR7 := Lib.hid hr7
    have hb7 : Blk none0 (w7.alloc (.cells zRepC 30)) [] w7.heap.size zRepC 30 := ⟨heap_alloc_new w7 _, rfl⟩
    have hr8 := hr7.next (lit_below0 w7 (.cells zRepC 30))
    have HB7 := Lib.hid hb7
    have HR8 := Lib.hid hr8
    clear hB7 hr7 hb7 hr8 HR6 hcl hfr hmod
    go_wp2_with fail
    refine (names_same HR8.out.two HR8.out.three).mono ?_; rintro e w9 ⟨rfl, hB9⟩
    have HR9 := Lib.hid (HR8.out.next hB9)
    have HB9 := Lib.hid (HB7.out.below hB9)
    clear hB9 HR8 HB7
    go_wp2_with fail
    refine (tnames_ok _).mono ?_; rintro e w10 ⟨g10, rfl, _, hb10, hB10⟩
    have HR10 := Lib.hid (HR9.out.next hB10)
    have HB10 := Lib.hid (HB9.out.below hB10)
    have Hb10 := Lib.hid hb10
    clear hB10 hb10 HR9 HB9
    go_wp2_with fail
    refine (names_same Hb10.out HR10.out.three).mono ?_; rintro e w11 ⟨rfl, hB11⟩
    have HR11 := Lib.hid (HR10.out.next hB11)
    have HB11 := Lib.hid (HB10.out.below hB11)
    clear hB11 HR10 HB10 Hb10
    obtain ⟨mb, hmb⟩ : ∃ mb, mineL namesL l = mb := ⟨_, rfl⟩
    have hmine := mine_ok HR11.out.three.vw (HV.out _ HR11.out.below) HSL.out HLL.out (by decide)
    rw [hmb] at hmine
    have HMI := Lib.hid hmine
    have HMB := Lib.hid hmb
    clear hmine hmb
    go_wp2_with fail
    refine HMI.out.mono ?_; rintro e w12 ⟨⟨t, rfl⟩, hB12⟩
    have HR12 := Lib.hid (HR11.out.next hB12)
    have HB12 := Lib.hid (HB11.out.below hB12)
    clear hB12 HR11 HB11 HMI
    unfold txt
    cases mb with
    | true =>
      clear HV HT HSL HLL HMB HB12
      go_wp2_with fail
      go_ret
      exact ⟨rfl, HR12.out.below⟩
    | false =>
      go_wp2_with fail
      refine (begun_ok (k := [97]) (s := [49]) (d := 0) ?_ (by decide) (by decide)).mono ?_
      · refine ⟨?_, ?_, ?_, ?_, ?_, ?_, ?_⟩ <;> (unfold World.cell?; rw [heap_alloc_new]; rfl)
      rintro e w14 ⟨p, x, o, rfl, hj, hst⟩
      have hB13 := lit_below0 w12 (.cells #[.string ⟨#[97]⟩, .int .i64 1, .string ⟨#[49]⟩, .slice none 0 0, .slice none 0 0, .slice none 0 0, .int .i64 0] 45)
      have HR14 := Lib.hid ((HR12.out.next hB13).next hst.below0)
      have hb13 := HB12.out.below hB13
      have HB14 := Lib.hid (hb13.below hst.below0)
      have hpR : p ≠ w7.heap.size := by
        intro e
        have h1 := hj.role.1
        have h2 := hst.old w7.heap.size hb13.lt
        rw [e] at h1
        rw [h1] at h2
        cases h2
      have hcp := hj.counter
      have hpl := hj.role.2
      have HCP := Lib.hid hcp
      clear hst hj hB13 hb13 HR12 HB12 hcp
      go_wp2_with fail
      refine (lRun_not (HV.out _ HR14.out.below) HSL.out HLL.out HMB.out).mono ?_; rintro e w15 ⟨rfl, hB15⟩
      have hR15 := HR14.out.next hB15
      have hb15 := HB14.out.below hB15
      have c15 : w15.cell? ⟨p, 2, none⟩ = some (.int .u64 1) := by rw [(bcell hB15).1 _ _ hpl]; exact HCP.out
      have hrc := hb15.cell
      have hrf := hb15.free
      have HR15 := Lib.hid hR15
      have C15 := Lib.hid c15
      clear hB15 hR15 hb15 c15 HR14 HB14 HV HT HSL HLL HMB HCP hpl
      go_wp2_with fail
      refine (sCounter_at (n := 1) ?_).mono ?_
      · iterate 4 rw [World.cell?_setCell_other _ _ _ _ (by intro e; injection e with e1 _ _; first | exact hpR e1 | exact hpR e1.symm)]
        exact C15.out
      rintro e w16 ⟨rfl, rfl⟩
      go_wp2_with fail
      go_ret
      refine ⟨rfl, ?_⟩
      iterate 4 refine Below.setCell ?_ hR0 _
      exact HR15.out.below
theorem names_con (w0 : World) (hT : Tbl w0) (l : List (List UInt8)) (va : Value) (ha : Vw (Old w0) w0 va 1 l.length (l.map txt)) (hsl : ∀ x ∈ l, x.length ≤ 1048576) (hll : l.length ≤ 1048576) (at_ : Int) :
    Calls Tryz.prog 12 #[va, .int .i64 at_] w0 fun e w' => e = .returned (.bool true) ∧ Below w0.heap.size w0 w' := names_law hT ha hsl hll at_
end Go.Proofs.YthojmgjgmbnopaaGreatDoor
