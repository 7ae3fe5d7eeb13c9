import Derived.Test.YthojmgjgmbnopaaGreatDoorHd
import Derived.Test.YthojmgjgmbnopaaGreatDoorHf
import Derived.WalkMore
namespace Go.Proofs.YthojmgjgmbnopaaGreatDoor
open Go Go.RowKit
/-! keycmd: the deadline that an expire asks for; an expire that is refused for its number. -/
abbrev expireB : Tx := [101, 120, 112, 105, 114, 101]
abbrev pexpireatB : Tx := [112, 101, 120, 112, 105, 114, 101, 97, 116]
abbrev numbErr : Tx := [69, 82, 82, 32, 97, 32, 110, 117, 109, 98, 101, 114, 32, 105, 115, 32, 119, 97, 110, 116, 101, 100]
section
variable {o : Roles} {w : World} {q : List Nat} {p : Nat} {c : Cnt} {S : SP} {cb : Nat} {ρ : List Nat} {now : Int} {sv : Value} {nm : Tx}
/-- What comes of a number: whole seconds ahead of a tick; a tick itself. -/
def DeadIs (nm : Tx) (now n at_ : Int) : Prop := (nm = expireB ∧ 0 ≤ now ∧ now ≤ 9007199254740992 ∧ 0 ≤ n ∧ n * 1000 + now ≤ 9007199254740992 ∧ at_ = n * 1000 + now ∧ 0 < now) ∨ (nm = pexpireatB ∧ 0 ≤ n ∧ n ≤ 9007199254740992 ∧ at_ = n)
set_option maxRecDepth 10000 in
set_option maxHeartbeats 2000000 in
theorem kdead_ok (hcb : Blk o w ρ cb (callC p now nm sv) 112) {n at_ : Int} (hd : DeadIs nm now n at_) : Calls Tryz.prog 126 #[.pointer (some ⟨cb, 0, none⟩), .int .i64 n] w fun e w' => e = .returned (.tuple #[.int .i64 at_, .bool true]) ∧ w' = w := by
  have hcc := hcb.cell
  have hcl := hcb.lt
  clear hcb
  rcases hd with ⟨rfl, h1, h2, h3, h4, hat, h5⟩ | ⟨rfl, h1, h2, hat⟩
  · rw [hat]
    clear hat
    have e1 : IntKind.i64.wrap (9007199254740992 - now) = 9007199254740992 - now := by rw [IntKind.wrap_i64]; omega
    have e2 : Int.tdiv (9007199254740992 - now) 1000 = (9007199254740992 - now) / 1000 := Int.tdiv_eq_ediv_of_nonneg (by omega)
    have e3 : max n (-9007199254740) = n := by omega
    have e4 : IntKind.i64.wrap (n * 1000) = n * 1000 := by rw [IntKind.wrap_i64]; omega
    have e5 : max (n * 1000) (-9007199254740992) = n * 1000 := by omega
    have e6 : IntKind.i64.wrap (n * 1000 + now) = n * 1000 + now := by rw [IntKind.wrap_i64]; omega
    have d1 : decide ((9007199254740992 - now) / 1000 < n) = false := decide_eq_false (by omega)
    have d2 : decide (9007199254740992 - now < n * 1000) = false := decide_eq_false (by omega)
    have d3 : decide (9007199254740992 - now < 9007199254740992) = true := decide_eq_true (by omega)
    go_enter Tryz.func126, Tryz.ntmps126
    go_wp2_with fail
    go_ret2
    exact ⟨rfl, rfl⟩
  · rw [hat]
    clear hat
    have e5 : max n (-9007199254740992) = n := by omega
    have d2 : decide (9007199254740992 < n) = false := decide_eq_false (by omega)
    go_enter Tryz.func126, Tryz.ntmps126
    go_wp2_with fail
    go_ret2
    exact ⟨rfl, rfl⟩
set_option maxRecDepth 10000 in
set_option maxHeartbeats 4000000 in
theorem kexp_bad (h : SpJ o w q p S c) (hq : q ≠ []) (hTb : Tbl w) {k y : Tx} (hcb : Blk o w ρ cb (callC p now nm sv) 112)
    (hv : Vw (Old w) w sv 1 2 ([k, y].map txt)) (hy : parseN y = none) (hyl : y.length ≤ 1099511627776) :
    Calls Tryz.prog 66 #[.pointer (some ⟨cb, 0, none⟩)] w (RepJ o w q p S c ⟨2, numbErr, 0⟩) := by
  obtain ⟨o1, m1, hbg, hj⟩ := begin_roles h hq
  have hfr0 := Fj.begin hbg hj hcb
  have hcc := hcb.cell
  have hcl := hcb.lt
  obtain ⟨a0, cap, rfl, hcap, _, _⟩ := id hv.slice
  obtain ⟨b, off, rfl, hbl, hcap, hg⟩ := vw_get hv (by omega)
  replace hbl : b < w.heap.size := hbl
  have hk1' := hg 1 y rfl
  have hkb : (w.alloc (.cells zRepC 30)).cell? ⟨b, off + 1, none⟩ = some (.string ⟨y.toArray⟩) := cell_below hbg.res.2 hk1'
  have hp1 := parse_ok (hTb.below hbg.res.2) y hyl
  unfold ParseDid at hp1
  rw [hy] at hp1
  simp only [Option.getD_none, Option.isSome_none, Bool.false_eq_true, if_false] at hp1
  have HF := Lib.hid hfr0
  have HPA := Lib.hid hp1
  have HBG := Lib.hid hbg
  have HFA := Lib.hid (fun W => kfail_ok W numbErr)
  clear h hcb hv hbg hj hfr0 hg hTb hy hp1
  unfold txt at HPA HFA
  go_enter Tryz.func66, Tryz.ntmps66
  go_wp2_with fail
  go_step3
  go_wp2_with fail
  refine HPA.out.mono ?_; rintro e w3 ⟨rfl, hB3⟩
  have HF3 := Lib.hid (HF.out.below hB3)
  clear hB3 HPA HF hcc hk1' hkb
  go_wp2_with fail
  refine (HFA.out _).mono ?_; rintro e w8 ⟨rfl, hB8⟩
  have hf8 := HF3.out.below hB8
  have HF8 := Lib.hid hf8
  have hrc := hf8.res.cell
  have hrf := hf8.res.free
  clear hB8 hf8 HF3 HFA
  go_wp2_with fail
  obtain ⟨hj9, hs9⟩ := HF8.out.fin HBG.out (.int .i64 2) (.string ⟨numbErr.toArray⟩) (.int .i64 0) (.slice none 0 0)
  exact bodyPost_ret (v := repV 2 numbErr 0 (.slice none 0 0)) (by simp [results, Tryz.results66, go_sem, hrc]) rfl ⟨rfl, o1, hj9, hs9⟩
end
end Go.Proofs.YthojmgjgmbnopaaGreatDoor
