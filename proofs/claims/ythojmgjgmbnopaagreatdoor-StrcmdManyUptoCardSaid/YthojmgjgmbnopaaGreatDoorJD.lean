/- Contracts of the library at this program, as the kit's tools have laid them (some of them). -/
import Derived.Shelf.LaysC
import Derived.Shelf.LaysM
import Derived.Shelf.Strconv.Itoa4
import Derived.Shelf.Small.Bits
import Derived.Test.YthojmgjgmbnopaaGreatDoorProg
import Derived.Test.YthojmgjgmbnopaaGreatDoorXM
import Derived.Test.YthojmgjgmbnopaaGreatDoorJB
namespace Go.Proofs
open Go.Shelf Go.RowKit Go.Sort Go.Lib
def Tryz.lays131_ren : Go.Shelf.Ren := ⟨fun | 131 => 249 | 126 => 274 | n => n, fun | 5 => 5 | 3 => 3 | 9 => 9 | n => n, fun | n => n⟩
theorem Tryz.lays131 : Go.Proofs.Lays.n131 Tryz.prog Tryz.lays131_ren := {
  mixed := by kernel_rfl
  f126 := Tryz.func274.trans (congrArg some (by kernel_rfl))
  f131 := Tryz.func249.trans (congrArg some (by kernel_rfl))
  t3 := Tryz.underlying3
  a3 := Tryz.isAgg3
  z3 := Tryz.sizeOf3
  v3 := Tryz.zeroValue3
  t5 := Tryz.underlying5
  a5 := Tryz.isAgg5
  z5 := Tryz.sizeOf5
  v5 := Tryz.zeroValue5
  t9 := Tryz.underlying9
  a9 := Tryz.isAgg9
  z9 := Tryz.sizeOf9
  v9 := Tryz.zeroValue9 }
theorem Tryz.bits_LeadingZeros8 (x : Int) (w : World) (h0 : 0 ≤ x) (h1 : x ≤ 255) :
    Calls Tryz.prog 249 #[.int .u8 x] w fun e w' => e = .returned (.int .i64 (8 - (Lib.bitLen x.toNat : Int))) ∧ w' = w := Any.bits_LeadingZeros8 Tryz.lays131 x w h0 h1
def Tryz.lays135_ren : Go.Shelf.Ren := ⟨fun | 135 => 247 | n => n, fun | 5 => 5 | 3 => 3 | 9 => 9 | n => n, fun | n => n⟩
theorem Tryz.lays135 : Go.Proofs.Lays.n135 Tryz.prog Tryz.lays135_ren := {
  mixed := by kernel_rfl
  f135 := Tryz.func247.trans (congrArg some (by kernel_rfl))
  t3 := Tryz.underlying3
  a3 := Tryz.isAgg3
  z3 := Tryz.sizeOf3
  v3 := Tryz.zeroValue3
  t5 := Tryz.underlying5
  a5 := Tryz.isAgg5
  z5 := Tryz.sizeOf5
  v5 := Tryz.zeroValue5
  t9 := Tryz.underlying9
  a9 := Tryz.isAgg9
  z9 := Tryz.sizeOf9
  v9 := Tryz.zeroValue9 }
theorem Tryz.bits_OnesCount8 (x : Int) (w : World) (h0 : 0 ≤ x) (h1 : x ≤ 255) :
    Calls Tryz.prog 247 #[.int .u8 x] w fun e w' => e = .returned (.int .i64 (Lib.onesCount x.toNat)) ∧ w' = w := Any.bits_OnesCount8 Tryz.lays135 x w h0 h1
def Tryz.laysM171_ren : Go.Shelf.Ren := ⟨fun | 171 => 275 | 243 => 298 | 246 => 255 | 283 => 281 | 284 => 282 | 285 => 283 | 286 => 284 | 129 => 233 | 317 => 303 | 318 => 304 | 319 => 305 | 320 => 306 | 337 => 311 | 338 => 312 | n => n, fun | 3 => 3 | 9 => 9 | 2 => 2 | 4 => 4 | 171 => 295 | 0 => 0 | 53 => 76 | 37 => 98 | 5 => 5 | 173 => 297 | 212 => 313 | 51 => 261 | 20 => 20 | 213 => 314 | 46 => 188 | 232 => 323 | 233 => 324 | n => n, fun | 17 => 3 | 18 => 4 | 19 => 5 | n => n⟩
theorem Tryz.laysM171 : Go.Proofs.LaysM.n171 Tryz.prog Tryz.laysM171_ren := {
  mixed := by kernel_rfl
  f129 := Tryz.func233.trans (congrArg some (by kernel_rfl))
  f171 := Tryz.func275.trans (congrArg some (by kernel_rfl))
  f243 := Tryz.func298.trans (congrArg some (by kernel_rfl))
  f246 := Tryz.func255.trans (congrArg some (by kernel_rfl))
  f283 := Tryz.func281.trans (congrArg some (by kernel_rfl))
  f284 := Tryz.func282.trans (congrArg some (by kernel_rfl))
  f285 := Tryz.func283.trans (congrArg some (by kernel_rfl))
  f286 := Tryz.func284.trans (congrArg some (by kernel_rfl))
  f317 := Tryz.func303.trans (congrArg some (by kernel_rfl))
  f318 := Tryz.func304.trans (congrArg some (by kernel_rfl))
  f319 := Tryz.func305.trans (congrArg some (by kernel_rfl))
  f320 := Tryz.func306.trans (congrArg some (by kernel_rfl))
  f337 := Tryz.func311.trans (congrArg some (by kernel_rfl))
  f338 := Tryz.func312.trans (congrArg some (by kernel_rfl))
  t0 := Tryz.underlying0
  a0 := Tryz.isAgg0
  z0 := Tryz.sizeOf0
  v0 := Tryz.zeroValue0
  t2 := Tryz.underlying2
  a2 := Tryz.isAgg2
  z2 := Tryz.sizeOf2
  v2 := Tryz.zeroValue2
  t3 := Tryz.underlying3
  a3 := Tryz.isAgg3
  z3 := Tryz.sizeOf3
  v3 := Tryz.zeroValue3
  t4 := Tryz.underlying4
  a4 := Tryz.isAgg4
  z4 := Tryz.sizeOf4
  v4 := Tryz.zeroValue4
  t5 := Tryz.underlying5
  a5 := Tryz.isAgg5
  z5 := Tryz.sizeOf5
  v5 := Tryz.zeroValue5
  t9 := Tryz.underlying9
  a9 := Tryz.isAgg9
  z9 := Tryz.sizeOf9
  v9 := Tryz.zeroValue9
  t20 := Tryz.underlying20
  a20 := Tryz.isAgg20
  z20 := Tryz.sizeOf20
  v20 := Tryz.zeroValue20
  t37 := Tryz.underlying98
  a37 := Tryz.isAgg98
  z37 := Tryz.sizeOf98
  v37 := Tryz.zeroValue98
  t46 := Tryz.underlying188
  a46 := Tryz.isAgg188
  z46 := Tryz.sizeOf188
  v46 := Tryz.zeroValue188
  t51 := Tryz.underlying261
  a51 := Tryz.isAgg261
  z51 := Tryz.sizeOf261
  v51 := Tryz.zeroValue261
  t53 := Tryz.underlying76
  a53 := Tryz.isAgg76
  z53 := Tryz.sizeOf76
  v53 := Tryz.zeroValue76
  t171 := Tryz.underlying295
  a171 := Tryz.isAgg295
  z171 := Tryz.sizeOf295
  v171 := Tryz.zeroValue295
  t173 := Tryz.underlying297
  a173 := Tryz.isAgg297
  z173 := Tryz.sizeOf297
  v173 := Tryz.zeroValue297
  t212 := Tryz.underlying313
  a212 := Tryz.isAgg313
  z212 := Tryz.sizeOf313
  v212 := Tryz.zeroValue313
  t213 := Tryz.underlying314
  a213 := Tryz.isAgg314
  z213 := Tryz.sizeOf314
  t232 := Tryz.underlying323
  a232 := Tryz.isAgg323
  z232 := Tryz.sizeOf323
  v232 := Tryz.zeroValue323
  t233 := Tryz.underlying324
  a233 := Tryz.isAgg324
  z233 := Tryz.sizeOf324
  v233 := Tryz.zeroValue324
  g17 := by kernel_rfl
  g18 := by kernel_rfl
  g19 := by kernel_rfl
  i0 := by kernel_rfl
  i2 := by kernel_rfl
  i3 := by kernel_rfl
  i4 := by kernel_rfl
  i5 := by kernel_rfl
  i9 := by kernel_rfl
  i20 := by kernel_rfl
  i37 := by kernel_rfl
  i46 := by kernel_rfl
  i51 := by kernel_rfl
  i53 := by kernel_rfl
  i171 := by kernel_rfl
  i173 := by kernel_rfl
  i212 := by kernel_rfl
  i232 := by kernel_rfl
  i233 := by kernel_rfl
  m17 := by kernel_rfl
  m18 := by kernel_rfl
  m19 := by kernel_rfl }
theorem Tryz.strconv_Itoa (n : Int) (h0 : -9223372036854775808 ≤ n) (h1 : n ≤ 9223372036854775807) (w : World) (htab : Lib.TabIs Tryz.prog w "internal/strconv.uint64pow10" .u64 Lib.pow10Tab) :
    Calls Tryz.prog 275 #[.int .i64 n] w fun e w' => e = .returned (.string ⟨(Lib.itoa n).toArray⟩) ∧ ∃ k os, w' = grow (w.drewN k) os := Any.strconv_Itoa Tryz.laysM171 n h0 h1 w htab
end Go.Proofs
namespace Go.Proofs.YthojmgjgmbnopaaGreatDoor
open Go Go.RowKit
/-! Sums; a number's text; blob.Incr. -/
def inR (n : Int) : Bool := decide (-9223372036854775808 ≤ n) && decide (n ≤ 9223372036854775807)
def SumDid (w : World) (n : Int) (e : Ending) (w' : World) : Prop := e = .returned (.tuple #[.int .i64 (if inR n then n else 0), .int .i64 (if inR n then 0 else 11)]) ∧ w' = w
set_option maxRecDepth 10000 in
theorem nadd_ok (w : World) {a b : Int} (ha : -9223372036854775808 ≤ a ∧ a ≤ 9223372036854775807) (hb : -9223372036854775808 ≤ b ∧ b ≤ 9223372036854775807) : Calls Tryz.prog 250 #[.int .i64 a, .int .i64 b] w (SumDid w (a + b)) := by
  unfold SumDid
  by_cases hp : 0 < b
  · have e1 : IntKind.i64.wrap (9223372036854775807 - b) = 9223372036854775807 - b := by rw [IntKind.wrap_i64]; omega
    have hn : ¬ b < 0 := by omega
    by_cases ho : 9223372036854775807 - b < a
    · have er : inR (a + b) = false := by unfold inR; simp; omega
      rw [er]
      go_enter Tryz.func250, Tryz.ntmps250
      go_wp2_with fail
      go_ret2
      exact ⟨rfl, rfl⟩
    · have er : inR (a + b) = true := by unfold inR; simp; omega
      have e2 : IntKind.i64.wrap (a + b) = a + b := by rw [IntKind.wrap_i64]; omega
      rw [er]
      go_enter Tryz.func250, Tryz.ntmps250
      go_wp2_with fail
      go_ret2
      exact ⟨rfl, rfl⟩
  · by_cases hn : b < 0
    · have e1 : IntKind.i64.wrap (-9223372036854775808 - b) = -9223372036854775808 - b := by rw [IntKind.wrap_i64]; omega
      by_cases ho : a < -9223372036854775808 - b
      · have er : inR (a + b) = false := by unfold inR; simp; omega
        rw [er]
        go_enter Tryz.func250, Tryz.ntmps250
        go_wp2_with fail
        go_ret2
        exact ⟨rfl, rfl⟩
      · have er : inR (a + b) = true := by unfold inR; simp; omega
        have e2 : IntKind.i64.wrap (a + b) = a + b := by rw [IntKind.wrap_i64]; omega
        rw [er]
        go_enter Tryz.func250, Tryz.ntmps250
        go_wp2_with fail
        go_ret2
        exact ⟨rfl, rfl⟩
    · obtain rfl : b = 0 := by omega
      have er : inR (a + 0) = true := by unfold inR; simp; omega
      have e2 : IntKind.i64.wrap (a + 0) = a + 0 := by rw [IntKind.wrap_i64]; omega
      have e3 : IntKind.i64.wrap a = a := by rw [IntKind.wrap_i64]; omega
      rw [er]
      go_enter Tryz.func250, Tryz.ntmps250
      go_wp2_with fail
      go_ret2
      exact ⟨by simp, rfl⟩
set_option maxRecDepth 10000 in
theorem nprint_ok {w : World} (hT : Tbl w) {n : Int} (hn : -9223372036854775808 ≤ n ∧ n ≤ 9223372036854775807) : Calls Tryz.prog 251 #[.int .i64 n] w fun e w' => e = .returned (txt (Lib.itoa n)) ∧ Below w.heap.size w w' := by
  have H := Lib.hid (Tryz.strconv_Itoa n hn.1 hn.2 w hT.pow)
  unfold txt
  go_enter Tryz.func251, Tryz.ntmps251
  go_wp2_with fail
  refine H.out.mono ?_; rintro e w1 ⟨rfl, hw⟩
  have HB := Lib.hid (grow_below hw)
  clear hw
  go_wp2_with fail
  go_ret
  exact ⟨rfl, HB.out⟩
theorem parseN_range {s : List UInt8} {m : Int} (h : parseN s = some m) : -9223372036854775808 ≤ m ∧ m ≤ 9223372036854775807 := by
  unfold parseN at h
  split at h
  · rename_i v hv
    split at h
    · cases h; exact parse64_range hv
    · cases h
  · cases h
def IncDid (w : World) (n : Int) (e : Ending) (w' : World) : Prop := e = .returned (.tuple #[txt (if inR n then Lib.itoa n else []), .int .i64 (if inR n then n else 0), .int .i64 (if inR n then 0 else 11)]) ∧ Below w.heap.size w w'
set_option maxRecDepth 10000 in
theorem bincr_ok {w : World} (hT : Tbl w) {s : List UInt8} {m by_ : Int} (hm : parseN s = some m) (hs : s.length ≤ 1099511627776) (hb : -9223372036854775808 ≤ by_ ∧ by_ ≤ 9223372036854775807) : Calls Tryz.prog 186 #[txt s, .int .i64 by_] w (IncDid w (m + by_)) := by
  have hmr := parseN_range hm
  have hp := parse_ok hT s hs
  rw [hm] at hp
  unfold ParseDid at hp
  simp only [Option.getD_some, Option.isSome_some, if_true] at hp
  have HPA := Lib.hid hp
  have hadd := fun W => nadd_ok W hmr hb
  unfold SumDid at hadd
  have HPR := Lib.hid (fun (W : World) (hW : Below w.heap.size w W) (hr : inR (m + by_) = true) => nprint_ok (hT.below hW) (n := m + by_) (by unfold inR at hr; simpa using hr))
  unfold IncDid
  unfold txt at HPA HPR ⊢
  clear hp hmr hb hm hs hT
  obtain ⟨r, hr⟩ : ∃ r, inR (m + by_) = r := ⟨_, rfl⟩
  rw [hr] at hadd ⊢
  have HR := Lib.hid hr
  clear hr
  generalize m + by_ = n at *
  cases r with
  | false =>
    have HAD := Lib.hid hadd
    clear hadd HPR HR
    go_enter Tryz.func186, Tryz.ntmps186
    go_wp2_with fail
    refine HPA.out.mono ?_; rintro e w1 ⟨rfl, hB1⟩
    have HB1 := Lib.hid hB1
    clear hB1 HPA
    go_wp2_with fail
    refine (HAD.out _).mono ?_; rintro e w2 ⟨rfl, rfl⟩
    go_wp2_with fail
    go_ret3
    exact ⟨rfl, HB1.out⟩
  | true =>
    have HAD := Lib.hid hadd
    have HPR := Lib.hid (fun W hW => HPR.out W hW HR.out)
    clear hadd HR
    go_enter Tryz.func186, Tryz.ntmps186
    go_wp2_with fail
    refine HPA.out.mono ?_; rintro e w1 ⟨rfl, hB1⟩
    have HB1 := Lib.hid hB1
    clear hB1 HPA
    go_wp2_with fail
    refine (HAD.out _).mono ?_; rintro e w2 ⟨rfl, rfl⟩
    go_wp2_with fail
    refine (HPR.out _ HB1.out).mono ?_; rintro e w3 ⟨rfl, hB3⟩
    have HB3 := Lib.hid (HB1.out.trans (hB3.mono HB1.out.size))
    clear hB3 HPR
    go_wp2_with fail
    go_ret3
    exact ⟨rfl, HB3.out⟩
end Go.Proofs.YthojmgjgmbnopaaGreatDoor
namespace Go.Proofs.YthojmgjgmbnopaaGreatDoor
open Go Go.RowKit
/-! INCRBY, DECRBY, INCR: where the key holds a number's text. -/
abbrev incrbyB : Tx := [105, 110, 99, 114, 98, 121]
abbrev decrbyB : Tx := [100, 101, 99, 114, 98, 121]
abbrev incrB : Tx := [105, 110, 99, 114]
abbrev overErr : Tx := [69, 82, 82, 32, 116, 104, 101, 32, 110, 117, 109, 98, 101, 114, 32, 119, 111, 117, 108, 100, 32, 108, 101, 97, 118, 101, 32, 105, 116, 115, 32, 114, 97, 110, 103, 101]
section
variable {o : Roles} {w : World} {q : List Nat} {p : Nat} {c : Cnt} {S : SP} {cb : Nat} {ρ : List Nat} {now : Int} {sv : Value}
/-- What a number's step makes of a space. -/
def SP.incS (S : SP) (c : Cnt) (now : Int) (k : Tx) (n : Int) : SP := if inR n then S.keepT now k (Lib.itoa n) (c.num + 1) else S
def Cnt.incS (c : Cnt) (n : Int) : Cnt := if inR n then c.next else c
def incF (n : Int) : Rf := if inR n then ⟨3, [], n⟩ else errF overErr
set_option maxRecDepth 10000 in
set_option maxHeartbeats 8000000 in
theorem tincrby_ok (h : SpJ o w q p S c) (hq : q ≠ []) (hρ : ¬ q <+: ρ) (hT : Tbl w) (dec : Bool) (hcb : Blk o w ρ cb (callC p now (if dec then decrbyB else incrbyB) sv) 108)
    {k y : Tx} (hv : Vw (Old w) w sv 1 2 ([k, y].map txt)) {n : Int} (hy : parseN y = some n) (hyl : y.length ≤ 1099511627776) (hdn : dec = true → n ≠ -9223372036854775808) {V : VV} (hV : ((S.at now k).getD hd0).v = V) (hok : (S.at now k).isSome = true) (hk1 : V.kind = 1) {m : Int} (hm : parseN V.text = some m)
    (hc : c.num ≤ 4611686018427387000) (hf : c.few ≤ 1099511627000) {s : Int} (hs : s = m + (if dec then -n else n)) :
    Calls Tryz.prog 102 #[.pointer (some ⟨cb, 0, none⟩)] w (RepJ o w q p (S.incS c now k s) (c.incS s) (incF s)) := by
  obtain ⟨o1, m1, hbg, hj⟩ := begin_roles h hq
  have hfr0 := Fr.begin hbg hj hcb
  have hcc := hcb.cell
  have hcl := hcb.lt
  obtain ⟨a0, cap, rfl, hcap, _, _⟩ := id hv.slice
  obtain ⟨b, off, rfl, hbl, hcap, hg⟩ := vw_get hv (by omega)
  replace hbl : b < w.heap.size := hbl
  have hk := hg 0 k rfl
  have hk1' := hg 1 y rfl
  rw [Nat.add_zero] at hk
  have hcapI : (2 : Int) ≤ (cap : Int) := by omega
  have hnr := parseN_range hy
  have hp := parse_ok (hT.below hbg.res.2) y hyl
  rw [hy] at hp
  unfold ParseDid at hp
  simp only [Option.getD_some, Option.isSome_some, if_true] at hp
  have hsm := h.small' now k
  rw [hV] at hsm
  have hst := fun (W : World) (hW : Below w.heap.size w W) => ctext_ok (h.below hW) (hcb.below hW) k
  unfold TextDid at hst
  rw [hV, hok] at hst
  have ewr : (true && V.kind != 1) = false := by rw [hk1]; rfl
  rw [ewr] at hst
  have hby : -9223372036854775808 ≤ (if dec then -n else n) ∧ (if dec then -n else n) ≤ 9223372036854775807 := by
    cases dec with
    | false => exact hnr
    | true => have := hdn rfl; simp only [if_true]; omega
  have hinc := fun (W : World) (hW : Below w.heap.size w W) => bincr_ok (hT.below hW) hm hsm.text hby
  rw [← hs] at hinc
  unfold IncDid at hinc
  have HINC := Lib.hid hinc
  have HTX := Lib.hid hst
  have HPA := Lib.hid hp
  have HFR := Lib.hid hfr0
  have HBG := Lib.hid hbg
  have HB1 := Lib.hid hbg.res.2
  have hitl : (Lib.itoa s).length ≤ 1048576 ∨ inR s = false := by
    by_cases hr : inR s = true
    · exact .inl (Nat.le_trans (itoa_len (by unfold inR at hr; simpa using hr)) (by decide))
    · exact .inr (by simpa using hr)
  have HIT := Lib.hid hitl
  obtain ⟨S1, hS1⟩ : ∃ S1, S1 = S.incS c now k s := ⟨_, rfl⟩
  obtain ⟨c1, hc1⟩ : ∃ c1, c1 = c.incS s := ⟨_, rfl⟩
  rw [← hS1, ← hc1]
  have HSC := Lib.hid (And.intro hS1 hc1)
  have hwn : dec = true → IntKind.i64.wrap (-n) = -n := fun hd => by have := hdn hd; rw [IntKind.wrap_i64]; omega
  have hne : dec = true → (n == -9223372036854775808) = false := fun hd => beq_eq_false_iff_ne.2 (hdn hd)
  clear h hcb hv hbg hj hfr0 hg hp hy hT hst hinc hm hnr hS1 hc1 hsm hV hok hk1 ewr hby hs hitl hdn
  unfold txt at HPA HTX HINC
  rcases dec with _ | _
  all_goals (
    try have hwn' := hwn rfl
    try have hne' := hne rfl
    clear hwn hne
    simp only [Bool.false_eq_true, if_false, if_true] at hcc HINC
    go_enter Tryz.func102, Tryz.ntmps102
    go_wp2_with fail
    refine HPA.out.mono ?_; rintro e w2 ⟨rfl, hB2⟩
    have hB2w : Below w.heap.size w w2 := HB1.out.trans (hB2.mono HB1.out.size)
    have hfr2 := HFR.out.below hB2
    have hcc2 := hfr2.call.cell
    have HT := Lib.hid (HTX.out w2 hB2w)
    have HB2 := Lib.hid hB2w
    have HF2 := Lib.hid hfr2
    have hk2 : w2.cell? ⟨b, off, none⟩ = some (.string ⟨k.toArray⟩) := cell_below hB2w hk
    clear hB2 hB2w hfr2 HTX HFR hcc hk hk1' HPA
    unfold txt at HT
    go_wp2_with fail
    refine HT.out.mono ?_; rintro e w3 ⟨rfl, hB3⟩
    have hB3w : Below w.heap.size w w3 := HB2.out.trans (hB3.mono HB2.out.size)
    have hfr3 := HF2.out.below hB3
    have hcc3 := hfr3.call.cell
    have HIN := Lib.hid (HINC.out w3 hB3w)
    have HB3 := Lib.hid hB3w
    have HF3 := Lib.hid hfr3
    have hk3 : w3.cell? ⟨b, off, none⟩ = some (.string ⟨k.toArray⟩) := cell_below hB3 hk2
    clear hB3 hB3w hfr3 HT HF2 hcc2 hk2 HINC HB2
    go_wp2_with fail
    have e1 := HSC.out.1
    have e2 := HSC.out.2
    unfold SP.incS at e1
    unfold Cnt.incS at e2
    rcases hr : inR s with _ | _
    · rw [hr, if_neg (by decide)] at e1 e2
      subst e1 e2
      have HI := HIN.out
      rw [hr] at HI
      simp only [Bool.false_eq_true, if_false] at HI
      refine HI.mono ?_; rintro e w4 ⟨rfl, hB4⟩
      have hf4 := HF3.out.below hB4
      have HF4 := Lib.hid hf4
      clear hB4 hf4 HF3 HIN HI HB3 hcc3 hk3
      go_wp2_with fail
      refine (lfault_ok _ _).mono ?_; rintro e w6 ⟨rfl, hB6⟩
      have hf6 := HF4.out.below hB6
      have HF6 := Lib.hid hf6
      have hrc := hf6.res.cell
      have hrf := hf6.res.free
      clear hB6 hf6 HF4
      go_wp2_with fail
      obtain ⟨hj7, hs7⟩ := HF6.out.fin HBG.out (.int .i64 2) (.string ⟨overErr.toArray⟩) (.int .i64 0) (.slice none 0 0)
      have ei : incF s = errF overErr := by unfold incF; rw [hr]; rfl
      rw [ei]
      exact bodyPost_ret (v := repV 2 overErr 0 (.slice none 0 0)) (by simp [results, Tryz.results102, go_sem, hrc]) rfl ⟨rfl, o1, hj7, hs7⟩
    · rw [hr, if_pos rfl] at e1 e2
      have HI := HIN.out
      rw [hr] at HI
      simp only [if_true] at HI
      refine HI.mono ?_; rintro e w4 ⟨rfl, hB4⟩
      have hf4 := HF3.out.below hB4
      have hcc4 := hf4.call.cell
      have hk4 : w4.cell? ⟨b, off, none⟩ = some (.string ⟨k.toArray⟩) := cell_below hB4 hk3
      have HF4 := Lib.hid hf4
      have HPUT := Lib.hid (tput_ok hf4.sp hf4.call k (Lib.itoa s) (HIT.out.resolve_right (by rw [hr]; decide)) (by omega) (by omega))
      rw [← e1, ← e2] at HPUT
      unfold txt at HPUT
      clear hB4 hf4 HF3 HIN HI HB3 hcc3 hk3
      go_wp2_with fail
      refine HPUT.out.mono ?_; rintro e w5 ⟨rfl, o5, hj5, hs5⟩
      have HF5 := Lib.hid (HF4.out.put HBG.out hρ hj5 hs5)
      clear hj5 hs5 HF4 HPUT hcc4 hk4
      go_wp2_with fail
      refine (lnumber_ok _ _).mono ?_; rintro e w6 ⟨rfl, hB6⟩
      have hf6 := HF5.out.below hB6
      have HF6 := Lib.hid hf6
      have hrc := hf6.res.cell
      have hrf := hf6.res.free
      clear hB6 hf6 HF5
      go_wp2_with fail
      obtain ⟨hj7, hs7⟩ := HF6.out.fin HBG.out (.int .i64 3) (.string ⟨#[]⟩) (.int .i64 s) (.slice none 0 0)
      have ei : incF s = ⟨3, [], s⟩ := by unfold incF; rw [hr]; rfl
      rw [ei]
      exact bodyPost_ret (v := repV 3 [] s (.slice none 0 0)) (by simp [results, Tryz.results102, go_sem, hrc]) rfl ⟨rfl, o5, hj7, hs7⟩)
theorem parseN_zero : parseN [48] = some 0 := by
  have h0 : Lib.itoa 0 = [48] := by kernel_rfl
  have h := parseN_itoa (n := 0) (by decide)
  rwa [h0] at h
theorem itoa_one : Lib.itoa 1 = [49] := by kernel_rfl
set_option maxRecDepth 10000 in
set_option maxHeartbeats 8000000 in
theorem tincr0_ok (h : SpJ o w q p S c) (hq : q ≠ []) (hρ : ¬ q <+: ρ) (hT : Tbl w) {k : Tx} (hcb : Blk o w ρ cb (callC p now incrB sv) 108)
    (hv : Vw (Old w) w sv 1 1 ([k].map txt)) (hok : S.at now k = none) (hc : c.num ≤ 4611686018427387000) (hf : c.few ≤ 1099511627000) :
    Calls Tryz.prog 102 #[.pointer (some ⟨cb, 0, none⟩)] w (RepJ o w q p (S.keepT now k [49] (c.num + 1)) c.next ⟨3, [], 1⟩) := by
  obtain ⟨o1, m1, hbg, hj⟩ := begin_roles h hq
  have hfr0 := Fr.begin hbg hj hcb
  have hcc := hcb.cell
  have hcl := hcb.lt
  obtain ⟨a0, cap, rfl, hcap, _, _⟩ := id hv.slice
  obtain ⟨b, off, rfl, hbl, hcap, hg⟩ := vw_get hv (by omega)
  replace hbl : b < w.heap.size := hbl
  have hk := hg 0 k rfl
  rw [Nat.add_zero] at hk
  have hcapI : (1 : Int) ≤ (cap : Int) := by omega
  have hk1 : (w.alloc (.cells zRepC 30)).cell? ⟨b, off, none⟩ = some (.string ⟨k.toArray⟩) := cell_below hbg.res.2 hk
  have HF := Lib.hid hfr0
  have hst := ctext_ok hfr0.sp hfr0.call k
  unfold TextDid at hst
  rw [hok] at hst
  have HTX := Lib.hid hst
  have hinc := fun (W : World) (hW : Below w.heap.size w W) => bincr_ok (m := 0) (s := [48]) (by_ := 1) (hT.below hW) parseN_zero (by decide) (by decide)
  unfold IncDid at hinc
  have HINC := Lib.hid hinc
  have HBG := Lib.hid hbg
  have HB1 := Lib.hid hbg.res.2
  obtain ⟨S1, hS1⟩ : ∃ S1, S1 = S.keepT now k [49] (c.num + 1) := ⟨_, rfl⟩
  rw [← hS1]
  have HSC := Lib.hid hS1
  clear h hcb hv hbg hj hfr0 hg hT hst hinc hS1 hok
  unfold txt at HTX HINC
  go_enter Tryz.func102, Tryz.ntmps102
  go_wp2_with fail
  refine HTX.out.mono ?_; rintro e w3 ⟨rfl, hB3⟩
  have hfr3 := HF.out.below hB3
  have hcc3 := hfr3.call.cell
  have HIN := Lib.hid (HINC.out w3 (HB1.out.trans (hB3.mono HB1.out.size)))
  have HF3 := Lib.hid hfr3
  have hk3 : w3.cell? ⟨b, off, none⟩ = some (.string ⟨k.toArray⟩) := cell_below hB3 hk1
  clear hB3 hfr3 HTX HF hcc hk hk1 HINC HB1
  go_wp2_with fail
  have HI := HIN.out
  rw [show inR (0 + 1) = true by decide, if_pos rfl, if_pos rfl, if_pos rfl, show (0 + 1 : Int) = 1 by decide, itoa_one] at HI
  refine HI.mono ?_; rintro e w4 ⟨rfl, hB4⟩
  have hf4 := HF3.out.below hB4
  have hcc4 := hf4.call.cell
  have hk4 : w4.cell? ⟨b, off, none⟩ = some (.string ⟨k.toArray⟩) := cell_below hB4 hk3
  have HF4 := Lib.hid hf4
  have HPUT := Lib.hid (tput_ok hf4.sp hf4.call k [49] (by decide) (by omega) (by omega))
  rw [← HSC.out] at HPUT
  unfold txt at HPUT
  clear hB4 hf4 HF3 HIN HI hcc3 hk3
  go_wp2_with fail
  refine HPUT.out.mono ?_; rintro e w5 ⟨rfl, o5, hj5, hs5⟩
  have HF5 := Lib.hid (HF4.out.put HBG.out hρ hj5 hs5)
  clear hj5 hs5 HF4 HPUT hcc4 hk4
  go_wp2_with fail
  refine (lnumber_ok _ _).mono ?_; rintro e w6 ⟨rfl, hB6⟩
  have hf6 := HF5.out.below hB6
  have HF6 := Lib.hid hf6
  have hrc := hf6.res.cell
  have hrf := hf6.res.free
  clear hB6 hf6 HF5
  go_wp2_with fail
  obtain ⟨hj7, hs7⟩ := HF6.out.fin HBG.out (.int .i64 3) (.string ⟨#[]⟩) (.int .i64 1) (.slice none 0 0)
  exact bodyPost_ret (v := repV 3 [] 1 (.slice none 0 0)) (by simp [results, Tryz.results102, go_sem, hrc]) rfl ⟨rfl, o5, hj7, hs7⟩
end
end Go.Proofs.YthojmgjgmbnopaaGreatDoor
namespace Go.Proofs.YthojmgjgmbnopaaGreatDoor
open Go Go.RowKit
/-! APPEND. -/
section
variable {o : Roles} {w : World} {q : List Nat} {p : Nat} {c : Cnt} {S : SP} {cb : Nat} {ρ : List Nat} {now : Int} {sv : Value} {nm : Tx}
set_option maxRecDepth 10000 in
set_option maxHeartbeats 8000000 in
theorem tappend_ok (h : SpJ o w q p S c) (hq : q ≠ []) (hρ : ¬ q <+: ρ) {k y : Tx} (hcb : Blk o w ρ cb (callC p now nm sv) 108)
    (hv : Vw (fun b => b < w.heap.size ∧ ¬ q <+: o b) w sv 1 2 ([k, y].map txt)) {V : VV} (hV : ((S.at now k).getD hd0).v = V) {ok : Bool} (hok : (S.at now k).isSome = ok) (hk1 : (ok && V.kind != 1) = false)
    (hl : V.text.length + y.length ≤ 1048576) (hc : c.num ≤ 4611686018427387000) (hf : c.few ≤ 1099511627000) :
    Calls Tryz.prog 98 #[.pointer (some ⟨cb, 0, none⟩)] w (RepJ o w q p (S.keepT now k (V.text ++ y) (c.num + 1)) c.next ⟨3, [], (V.text.length : Int) + (y.length : Int)⟩) := by
  obtain ⟨o1, m1, hbg, hj⟩ := begin_roles h hq
  have hfr0 := Fr.begin hbg hj hcb
  have hcc := hcb.cell
  have hcl := hcb.lt
  obtain ⟨a0, cap, rfl, hcap, _, _⟩ := id hv.slice
  obtain ⟨b, off, rfl, hbl, hcap, hg⟩ := vw_get hv (by omega)
  obtain ⟨hbl, hbq⟩ := hbl
  have hk := hg 0 k rfl
  have hk1' := hg 1 y rfl
  rw [Nat.add_zero] at hk
  have hcapI : (2 : Int) ≤ (cap : Int) := by omega
  have hka : (w.alloc (.cells zRepC 30)).cell? ⟨b, off, none⟩ = some (.string ⟨k.toArray⟩) := cell_below hbg.res.2 hk
  have hkb : (w.alloc (.cells zRepC 30)).cell? ⟨b, off + 1, none⟩ = some (.string ⟨y.toArray⟩) := cell_below hbg.res.2 hk1'
  have HF := Lib.hid hfr0
  have hst := ctext_ok hfr0.sp hfr0.call k
  unfold TextDid at hst
  rw [hok, hV, hk1] at hst
  have HTX := Lib.hid hst
  have HBG := Lib.hid hbg
  have HL := Lib.hid hl
  have hsum : V.text.length + y.length ≤ 9223372036854775807 := by omega
  have HVB := Lib.hid (fun (W : World) (oW : Roles) (hW : Stp q o w oW W) => show W.cell? ⟨b, off + 1, none⟩ = some (.string ⟨y.toArray⟩) by
    have hbb := hW.block b hbl hbq
    unfold World.cell? at hk1' ⊢
    rw [hbb]; exact hk1')
  have hpt := fun (W : World) (o2 : Roles) (h2 : SpJ o2 W q p S c) (hb2 : Blk o2 W ρ cb (callC p now nm (.slice (some ⟨b, off, none⟩) 2 cap)) 108) => tput_ok h2 hb2 k (V.text ++ y) (by rw [List.length_append]; exact hl) (by omega) (by omega)
  obtain ⟨S1, hS1⟩ : ∃ S1, S1 = S.keepT now k (V.text ++ y) (c.num + 1) := ⟨_, rfl⟩
  rw [← hS1] at hpt ⊢
  have HPT := Lib.hid hpt
  clear h hcb hv hbg hj hfr0 hg hst hok hV hk1 hpt hS1 hl
  unfold txt at HTX HPT
  rw [← ByteArray.mk_append_mk] at HPT
  generalize V.text = t at *
  go_enter Tryz.func98, Tryz.ntmps98
  go_wp2_with fail
  refine HTX.out.mono ?_; rintro e w3 ⟨rfl, hB3⟩
  have hf3 := HF.out.below hB3
  have hcc3 := hf3.call.cell
  have hk3 : w3.cell? ⟨b, off, none⟩ = some (.string ⟨k.toArray⟩) := cell_below hB3 hka
  have hk3' : w3.cell? ⟨b, off + 1, none⟩ = some (.string ⟨y.toArray⟩) := cell_below hB3 hkb
  have HF3 := Lib.hid hf3
  have HPUT := Lib.hid (HPT.out _ _ (hf3.sp.below (Below.refl _ w3).drew) (hf3.call.below (Below.refl _ w3).drew))
  clear hB3 hf3 HTX HF hcc hk hk1' hka hkb hbq
  go_wp2_with fail
  go_region_with (
    go_at_call 177
    (with_reducible refine HPUT.out.mono ?_)
    rintro e w5 ⟨rfl, o5, hj5, hs5⟩
    have hf5 := ((HF3.out.below (Below.refl _ w3).drew).put HBG.out hρ hj5 hs5)
    have hcc5 := hf5.call.cell
    have hk5' : w5.cell? ⟨b, off + 1, none⟩ = some (.string ⟨y.toArray⟩) := HVB.out w5 o5 hf5.st
    have HF5 := Lib.hid hf5
    clear hj5 hs5 hf5)
  all_goals (
    clear HPUT HF3 hcc3 hk3 hk3'
    go_wp2_with fail
    refine (lnumber_ok _ _).mono ?_; rintro e w6 ⟨rfl, hB6⟩
    have hf6 := HF5.out.below hB6
    have HF6 := Lib.hid hf6
    have hrc := hf6.res.cell
    have hrf := hf6.res.free
    clear hB6 hf6 HF5
    go_wp2_with fail
    obtain ⟨hj7, hs7⟩ := HF6.out.fin HBG.out (.int .i64 3) (.string ⟨#[]⟩) (.int .i64 ((t.length : Int) + (y.length : Int))) (.slice none 0 0)
    exact bodyPost_ret (v := repV 3 [] ((t.length : Int) + (y.length : Int)) (.slice none 0 0)) (by simp [results, Tryz.results98, go_sem, hrc]) rfl ⟨rfl, o5, hj7, hs7⟩)
end
end Go.Proofs.YthojmgjgmbnopaaGreatDoor
namespace Go.Proofs.YthojmgjgmbnopaaGreatDoor
open Go Go.RowKit
/-! GET, APPEND. -/
section
variable {o : Roles} {w : World} {q : List Nat} {p : Nat} {c : Cnt} {S : SP} {cb : Nat} {ρ : List Nat} {now : Int} {sv : Value} {nm : Tx}
set_option maxRecDepth 10000 in
set_option maxHeartbeats 8000000 in
theorem tget_ok (h : SpJ o w q p S c) (hq : q ≠ []) {k : Tx} (hcb : Blk o w ρ cb (callC p now nm sv) 108)
    (hv : Vw (Old w) w sv 1 1 ([k].map txt)) {V : VV} (hV : ((S.at now k).getD hd0).v = V) {ok : Bool} (hok : (S.at now k).isSome = ok) (hk1 : (ok && V.kind != 1) = false) :
    Calls Tryz.prog 103 #[.pointer (some ⟨cb, 0, none⟩)] w (RepJ o w q p S c (if ok then ⟨4, V.text, 0⟩ else ⟨5, [], 0⟩)) := by
  obtain ⟨o1, m1, hbg, hj⟩ := begin_roles h hq
  have hfr0 := Fr.begin hbg hj hcb
  have hcc := hcb.cell
  have hcl := hcb.lt
  obtain ⟨a0, cap, rfl, hcap, _, _⟩ := id hv.slice
  obtain ⟨b, off, rfl, hbl, hcap, hg⟩ := vw_get hv (by omega)
  replace hbl : b < w.heap.size := hbl
  have hk := hg 0 k rfl
  rw [Nat.add_zero] at hk
  have hcapI : (1 : Int) ≤ (cap : Int) := by omega
  have HF := Lib.hid hfr0
  have hst := ctext_ok hfr0.sp hfr0.call k
  unfold TextDid at hst
  rw [hok, hV, hk1] at hst
  have HTX := Lib.hid hst
  have HBG := Lib.hid hbg
  clear h hcb hv hbg hj hfr0 hg hst hok hV hk1
  unfold txt at HTX
  cases ok with
  | false =>
    simp only [Bool.false_eq_true, if_false]
    go_enter Tryz.func103, Tryz.ntmps103
    go_wp2_with fail
    refine HTX.out.mono ?_; rintro e w3 ⟨rfl, hB3⟩
    have HF3 := Lib.hid (HF.out.below hB3)
    have HOLD := Lib.hid (lold_ok w3 V.text false)
    unfold txt at HOLD
    clear hB3 HTX HF hcc hk
    go_wp2_with fail
    refine HOLD.out.mono ?_; rintro e w6 ⟨rfl, hB6⟩
    have hf6 := HF3.out.below hB6
    have HF6 := Lib.hid hf6
    have hrc := hf6.res.cell
    have hrf := hf6.res.free
    clear hB6 hf6 HF3 HOLD
    simp only [Bool.false_eq_true, if_false]
    go_wp2_with fail
    obtain ⟨hj7, hs7⟩ := HF6.out.fin HBG.out (.int .i64 5) (.string ⟨#[]⟩) (.int .i64 0) (.slice none 0 0)
    exact bodyPost_ret (v := repV 5 [] 0 (.slice none 0 0)) (by simp [results, Tryz.results103, go_sem, hrc]) rfl ⟨rfl, o1, hj7, hs7⟩
  | true =>
    simp only [if_true]
    go_enter Tryz.func103, Tryz.ntmps103
    go_wp2_with fail
    refine HTX.out.mono ?_; rintro e w3 ⟨rfl, hB3⟩
    have HF3 := Lib.hid (HF.out.below hB3)
    have HOLD := Lib.hid (lold_ok w3 V.text true)
    unfold txt at HOLD
    clear hB3 HTX HF hcc hk
    go_wp2_with fail
    refine HOLD.out.mono ?_; rintro e w6 ⟨rfl, hB6⟩
    have hf6 := HF3.out.below hB6
    have HF6 := Lib.hid hf6
    have hrc := hf6.res.cell
    have hrf := hf6.res.free
    clear hB6 hf6 HF3 HOLD
    simp only [if_true]
    go_wp2_with fail
    obtain ⟨hj7, hs7⟩ := HF6.out.fin HBG.out (.int .i64 4) (.string ⟨V.text.toArray⟩) (.int .i64 0) (.slice none 0 0)
    exact bodyPost_ret (v := repV 4 V.text 0 (.slice none 0 0)) (by simp [results, Tryz.results103, go_sem, hrc]) rfl ⟨rfl, o1, hj7, hs7⟩
end
end Go.Proofs.YthojmgjgmbnopaaGreatDoor
