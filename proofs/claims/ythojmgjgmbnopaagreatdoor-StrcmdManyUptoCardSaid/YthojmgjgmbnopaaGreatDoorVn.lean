import Derived.Test.YthojmgjgmbnopaaGreatDoorJF
import Derived.Deep.DeepCutAuto
import Derived.Deep.QuietTactic
import Derived.BigQuiet
namespace Go.Proofs.YthojmgjgmbnopaaGreatDoor
open Go Go.RowKit
/-! May a rank be? -/
abbrev Scr := List UInt8 × Int
def scrAt (l : List Scr) (j : Nat) : Bool := match l[j]? with
  | none => true
  | some f => shortB f.1 && decide (-9007199254740992 ≤ f.2) && decide (f.2 ≤ 9007199254740992) && decide (f.1 ∉ (l.take j).map Prod.fst) &&
    (match j with | 0 => true | i + 1 => decide ((l[i]?.getD ([], 0)).2 < f.2) || (decide ((l[i]?.getD ([], 0)).2 = f.2) && ltB ((l[i]?.getD ([], 0)).1) f.1))
theorem scr_zero {l : List Scr} {x : Tx} {sc : Int} (hx : l[0]? = some (x, sc)) : scrAt l 0 = (shortB x && decide (-9007199254740992 ≤ sc) && decide (sc ≤ 9007199254740992)) := by unfold scrAt; rw [hx]; simp
theorem scr_succ {l : List Scr} {i : Nat} {p x : Tx} {ps sc : Int} (hp : l[i]? = some (p, ps)) (hx : l[i + 1]? = some (x, sc)) :
    scrAt l (i + 1) = (shortB x && decide (-9007199254740992 ≤ sc) && decide (sc ≤ 9007199254740992) && decide (x ∉ (l.take (i + 1)).map Prod.fst) && (decide (ps < sc) || (decide (ps = sc) && ltB p x))) := by
  unfold scrAt; rw [hx]; simp only [hp, Option.getD_some]
def rankB (l : List Scr) : Bool := (List.range l.length).all (scrAt l)
theorem vw_scrs {A : Nat → Prop} {w : World} {a : Option Addr} {n cap : Nat} {L : List Scr} (h : Vw A w (.slice a n cap) 2 n (rankedC L)) {k : Nat} {y : Scr} (hy : L[k]? = some y) : ∃ b off, a = some ⟨b, off, none⟩ ∧ n ≤ cap ∧ b < w.heap.size ∧
    ∀ (k : Nat) (y : Scr), L[k]? = some y → w.cell? ⟨b, off + k * 2, none⟩ = some (.string ⟨y.1.toArray⟩) ∧ w.cell? ⟨b, off + k * 2 + 1, none⟩ = some (.int .i64 y.2) := by
  have hfl : ∀ l : List Scr, (rankedC l).length = l.length * 2 := fun l => by
    unfold rankedC
    induction l with
    | nil => rfl
    | cons x t ih => simp only [List.flatMap_cons, List.length_append, List.length_cons, List.length_nil, ih]; omega
  have hlen : L.length = n := by have := h.len; rw [hfl] at this; omega
  have hk : k < L.length := (List.getElem?_eq_some_iff.1 hy).1
  obtain ⟨⟨a', c', e, h1, h2, h3⟩, h4⟩ := h
  injection e with e1 e2 e3
  subst e1 e3
  rcases h3 with h3 | ⟨b, off, rfl, g5, g6, g7⟩
  · omega
  refine ⟨b, off, rfl, h1, g5, fun k y hy => ?_⟩
  have hk : k < L.length := (List.getElem?_eq_some_iff.1 hy).1
  have hd : L = L.take k ++ y :: L.drop (k + 1) := by
    have e1 : L.drop k = y :: L.drop (k + 1) := by
      rw [List.drop_eq_getElem_cons hk]
      congr 1
      rw [List.getElem?_eq_getElem hk] at hy
      cases hy; rfl
    rw [← e1, List.take_append_drop]
  have hc : ∀ j u, ([txt y.1, .int .i64 y.2] : List Value)[j]? = some u → w.cell? ⟨b, off + k * 2 + j, none⟩ = some u := by
    intro j u hj
    have hj2 : j < 2 := (List.getElem?_eq_some_iff.1 hj).1
    have happ : ∀ x z : List Scr, rankedC (x ++ z) = rankedC x ++ rankedC z := fun x z => by unfold rankedC; exact List.flatMap_append
    have := g7 (k * 2 + j) u (by
      rw [hd, happ, List.getElem?_append_right (by rw [hfl, List.length_take]; omega)]
      rw [hfl, List.length_take, Nat.min_eq_left (Nat.le_of_lt hk)]
      show ([txt y.1, .int .i64 y.2] ++ rankedC (L.drop (k + 1)))[_]? = _
      rw [show k * 2 + j - k * 2 = j by omega, List.getElem?_append_left (by simpa using hj2)]
      exact hj)
    rw [← Nat.add_assoc] at this; exact this
  exact ⟨hc 0 _ rfl, hc 1 _ rfl⟩
def oneKV (l : List Scr) : KV := l.map fun p => (p.1, .int .i64 1)
theorem mfind_one (l : List Scr) (x : Tx) : mfind (oneKV l) x = if x ∈ l.map Prod.fst then some (.int .i64 1) else none := by
  induction l with
  | nil => rfl
  | cons p t ih =>
    show (if x = p.1 then some (Value.int .i64 1) else mfind (oneKV t) x) = _
    rw [ih]
    by_cases h : x = p.1
    · simp [h]
    · simp only [List.map_cons, List.mem_cons, h, false_or, if_false]
theorem mput_one {l : List Scr} {p : Scr} (h : p.1 ∉ l.map Prod.fst) : mput (oneKV l) p.1 (.int .i64 1) = oneKV (l ++ [p]) := by
  have hn : midx (oneKV l) p.1 = none := by
    cases hm : midx (oneKV l) p.1 with
    | none => rfl
    | some x =>
      have h1 := midx_find (oneKV l) p.1
      rw [hm, mfind_one, if_neg h] at h1
      cases h1
  rw [(midx_none hn).1]
  unfold oneKV; simp
def RrRel (w : World) (L : List Scr) (m : Nat) (i : Value) (wr : World) : Prop := ∃ (k : Nat) (o : Roles), k ≤ L.length ∧ i = .int .i64 (k : Int) ∧ MBlk o wr [9] m (oneKV (L.take k)) ∧ Stp [9] none0 w o wr ∧ (List.range k).all (scrAt L) = true
set_option maxRecDepth 10000 in
set_option maxHeartbeats 4000000 in
theorem rright_any {A : Nat → Prop} {w : World} {v : Value} {L : List Scr} (h : Vw A w v 2 L.length (rankedC L)) (hn : L.length ≤ 1099511627776) :
    Calls Tryz.prog 353 #[v] w fun e w' => e = .returned (.bool (rankB L)) ∧ Below w.heap.size w w' := by
  obtain ⟨a, cap, rfl, _⟩ := id h.slice
  have HV := Lib.hid h
  clear h
  have hz : ∀ W, (zeroValue 3).run Tryz.prog W = .ok (.int .i64 0) W := fun W => by kernel_rfl
  have HZ := Lib.hid hz
  clear hz
  have hmm : (Instr.makeMap 166 (some (.int .i64 (L.length : Int)))).run Tryz.prog w = .ok (.map (some w.heap.size)) (w.alloc (.map #[] 0)) := by
    simp [Instr.makeMap, Go.run_underlying Tryz.underlying166, asInt, asIntOf]
  go_enter Tryz.func353, Tryz.ntmps353
  go_wp2_with fail
  have hat : RrRel w L w.heap.size (.int .i64 0) (w.alloc (.map #[] 0)) := by
    have m1 := MBlk.new none0 w [9] w.heap.size rfl
    have s1 := (Stp.refl [9] none0 w).alloc (r' := [9]) (.map #[] 0) w.heap.size rfl
    exact ⟨0, _, Nat.zero_le _, rfl, m1, s1, rfl⟩
  go_loopw [11] (fun i wr => RrRel w L w.heap.size i wr) (fun i _ => L.length - (intOf i).toNat)
  case atStart => exact hat
  case round =>
    clear hat
    obtain ⟨k, o1, hk, rfl, hm, hst, hall⟩ := hrel
    have hB := hst.below0
    by_cases hkl : k < L.length
    · obtain ⟨⟨x, sc⟩, hx⟩ : ∃ x, L[k]? = some x := ⟨_, List.getElem?_eq_getElem hkl⟩
      obtain ⟨b, off, rfl, hcap, hbl, hcs⟩ := vw_scrs HV.out hx
      have hc1 := cell_below hB (hcs k _ hx).1
      have hc2 := cell_below hB (hcs k _ hx).2
      have hkI : (0 : Int) ≤ k ∧ (k : Int) < L.length := by omega
      have HS1 := Lib.hid (fun W => vshort_ok x W)
      obtain ⟨w1, hw1⟩ : ∃ w1, w1 = wr.alloc (.cells #[.string ⟨x.toArray⟩, .int .i64 sc] 131) := ⟨_, rfl⟩
      have hB1 : Below wr.heap.size wr w1 := by rw [hw1]; exact (Below.refl _ _).alloc (Nat.le_refl _) _
      have hm1 : MBlk (o1.put wr.heap.size [8]) w1 [9] w.heap.size (oneKV (L.take k)) := by rw [hw1]; exact hm.alloc _ _ [8] rfl
      have hlk := run_look (P := Tryz.prog) hm1 Tryz.underlying166 Tryz.underlying9 x false (HZ.out w1)
      rw [mfind_one] at hlk
      simp only [Bool.false_eq_true, if_false] at hlk
      rw [hw1] at hlk
      have HB := Lib.hid (hB.trans (hB1.mono hB.size))
      have HALL := Lib.hid hall
      have e1 : decide (x.length ≤ 1048576) = shortB x := rfl
      rw [e1] at HS1
      unfold txt at HS1 hlk
      clear e1 hall
      have HX := Lib.hid hx
      have NO : ∀ (W : World), Below wr.heap.size wr W → scrAt L k = false → rankB L = false ∧ Below w.heap.size w W := fun W hW hf => ⟨all_range_false hkl hf, hB.trans (hW.mono hB.size)⟩
      have HNO := Lib.hid NO
      have hw1B : Below wr.heap.size wr (wr.alloc (.cells #[.string ⟨x.toArray⟩, .int .i64 sc] 131)) := by rw [← hw1]; exact hB1
      have HW1 := Lib.hid hw1B
      clear NO hw1B
      rcases hb1 : shortB x with _ | _
      · have hf : scrAt L k = false := by unfold scrAt; rw [hx]; simp [hb1]
        have D := Lib.hid (HNO.out _ HW1.out hf)
        rw [hb1] at HS1
        clear hf hb1 hlk hm1 hm hst hB hB1 hw1 hcs hx
        go_wp2_with fail
        refine (HS1.out _).mono ?_; rintro e W ⟨rfl, rfl⟩
        go_wp2_with fail
        go_ret
        exact ⟨by rw [D.out.1]; rfl, D.out.2⟩
      rw [hb1] at HS1
      by_cases hs1 : sc < -9007199254740992
      · have hf : scrAt L k = false := by unfold scrAt; rw [hx]; simp; intro _ h; omega
        have D := Lib.hid (HNO.out _ HW1.out hf)
        have d1 : decide (sc < -9007199254740992) = true := decide_eq_true hs1
        clear hf hb1 hlk hm1 hm hst hB hB1 hw1 hcs hx
        go_wp2_with fail
        refine (HS1.out _).mono ?_; rintro e W ⟨rfl, rfl⟩
        go_wp2_with fail
        go_ret
        exact ⟨by rw [D.out.1]; rfl, D.out.2⟩
      by_cases hs2 : 9007199254740992 < sc
      · have hf : scrAt L k = false := by unfold scrAt; rw [hx]; simp; intro _ _ h; omega
        have D := Lib.hid (HNO.out _ HW1.out hf)
        clear hf hb1 hlk hm1 hm hst hB hB1 hw1 hcs hx
        go_wp2_with fail
        refine (HS1.out _).mono ?_; rintro e W ⟨rfl, rfl⟩
        go_wp2_with fail
        go_ret
        exact ⟨by rw [D.out.1]; rfl, D.out.2⟩
      by_cases hin : x ∈ (L.take k).map Prod.fst
      · have hf : scrAt L k = false := by unfold scrAt; rw [hx]; simp only [decide_eq_false (not_not_intro hin), Bool.and_false, Bool.false_and]
        have D := Lib.hid (HNO.out _ HW1.out hf)
        rw [if_pos hin] at hlk
        simp only [Option.getD_some] at hlk
        clear hf hb1 hin hm1 hm hst hB hB1 hw1 hcs hx
        go_wp2_with fail
        refine (HS1.out _).mono ?_; rintro e W ⟨rfl, rfl⟩
        go_wp2_with fail
        go_ret
        exact ⟨by rw [D.out.1]; rfl, D.out.2⟩
      rw [if_neg hin] at hlk
      simp only [Option.getD_none] at hlk
      have HM1 := Lib.hid (show MBlk (o1.put wr.heap.size [8]) (wr.alloc (.cells #[.string ⟨x.toArray⟩, .int .i64 sc] 131)) [9] w.heap.size (oneKV (L.take k)) from by rw [← hw1]; exact hm1)
      have HST1 := Lib.hid (show Stp [9] none0 w (o1.put wr.heap.size [8]) (wr.alloc (.cells #[.string ⟨x.toArray⟩, .int .i64 sc] 131)) from hst.alloc (r' := [8]) _ _ rfl)
      have HB5 := Lib.hid (show Blk (o1.put wr.heap.size [8]) (wr.alloc (.cells #[.string ⟨x.toArray⟩, .int .i64 sc] 131)) [8] wr.heap.size #[.string ⟨x.toArray⟩, .int .i64 sc] 131 from Blk.new o1 wr [8] _ _ _ rfl)
      have HPUT := Lib.hid (show mput (oneKV (L.take k)) x (.int .i64 1) = oneKV (L.take (k + 1)) from by rw [List.take_add_one, hx]; exact mput_one (p := (x, sc)) hin)
      have HCS := Lib.hid hcs
      have HE := Lib.hid (show decide (-9007199254740992 ≤ sc) = true ∧ decide (sc ≤ 9007199254740992) = true ∧ decide (x ∉ (L.take k).map Prod.fst) = true from ⟨decide_eq_true (by omega), decide_eq_true (by omega), decide_eq_true hin⟩)
      have HSB := Lib.hid hb1
      clear hb1 hin hm1 hm hst hB hB1 hw1 hcs hx HNO HW1 HV
      go_wp2_with fail
      refine (HS1.out _).mono ?_; rintro e W ⟨rfl, rfl⟩
      go_wp2_with (
        refine wpList_put rfl _ _ _ 166 rfl Tryz.underlying166 Tryz.underlying9 HM1.out rfl (k := x) rfl rfl ?_
        intro w2 hm2 st2
        replace hm2 : MBlk (o1.put wr.heap.size [8]) w2 [9] w.heap.size (mput (oneKV (L.take k)) x (.int .i64 1)) := hm2
        rw [HPUT.out] at hm2
        have HM2 := Lib.hid hm2
        have HST2 := Lib.hid (HST1.out.trans st2)
        have hb5 := HB5.out.keep st2 (by decide)
        have h5c := hb5.cell
        clear hm2 st2 hb5 HM1 HST1 HB5 hlk hc1 hc2)
      cases k with
      | zero =>
        have D := Lib.hid (show (List.range (0 + 1)).all (scrAt L) = true from by rw [all_range_succ, HALL.out, scr_zero HX.out, HSB.out, HE.out.1, HE.out.2.1]; rfl)
        refine region_walk (S := fun W => W = w2.drew) [(some 40, .int .i64 ((0 : Nat) : Int)), (some 41, .bool false), (some 42, .bool false), (some 43, undef), (some 44, undef), (some 45, undef), (some 46, undef), (some 47, undef), (some 48, undef), (some 49, undef), (some 50, undef), (some 51, undef), (some 52, undef), (some 53, undef), (some 54, undef), (some 55, undef), (some 56, undef), (some 57, undef), (some 58, undef), (some 59, undef), (some 60, undef), (some 61, undef), (some 62, undef), (some 63, undef), (some 64, undef), (some 65, undef), (some 66, undef), (some 67, undef), (some 68, undef), (some 69, undef), (some 70, undef), (some 71, undef), (some 72, undef), (some 73, undef), (some 74, .bool false)] (by simp only [zFin, Act.put, List.setIfInBounds_toArray, List.set_cons_zero, List.set_cons_succ]; exact rfl) (by kernel_rfl) (by kernel_rfl) (by kernel_rfl) (by kernel_rfl) rfl (by kernel_rfl) rfl
          ⟨ZStep.val (by kernel_rfl) (fun W _ => by kernel_rfl),
                  ZStep.val (by kernel_rfl) (fun W _ => by kernel_rfl),
                  ZStep.val (by kernel_rfl) (fun W _ => by kernel_rfl),
                  ZStep.skip (by kernel_rfl),
                  ZStep.skip (by kernel_rfl),
                  ZStep.skip (by kernel_rfl),
                  ZStep.skip (by kernel_rfl),
                  ZStep.skip (by kernel_rfl),
                  ZStep.skip (by kernel_rfl),
                  ZStep.skip (by kernel_rfl),
                  ZStep.skip (by kernel_rfl),
                  ZStep.skip (by kernel_rfl),
                  ZStep.skip (by kernel_rfl),
                  ZStep.skip (by kernel_rfl),
                  ZStep.skip (by kernel_rfl),
                  ZStep.skip (by kernel_rfl),
                  ZStep.skip (by kernel_rfl),
                  ZStep.skip (by kernel_rfl),
                  ZStep.skip (by kernel_rfl),
                  ZStep.skip (by kernel_rfl),
                  ZStep.skip (by kernel_rfl),
                  ZStep.skip (by kernel_rfl),
                  ZStep.skip (by kernel_rfl),
                  ZStep.skip (by kernel_rfl),
                  ZStep.skip (by kernel_rfl),
                  ZStep.skip (by kernel_rfl),
                  ZStep.skip (by kernel_rfl),
                  ZStep.skip (by kernel_rfl),
                  ZStep.skip (by kernel_rfl),
                  ZStep.skip (by kernel_rfl),
                  ZStep.skip (by kernel_rfl),
                  ZStep.skip (by kernel_rfl),
                  ZStep.skip (by kernel_rfl),
                  ZStep.skip (by kernel_rfl),
                  ZStep.val (by kernel_rfl) (fun W _ => by kernel_rfl), trivial⟩ ?fin
        case fin =>
          rintro W rfl
          go_wp2_with fail
          go_roundw
          case rel => exact ⟨0 + 1, _, hkl, by go_num, (HM2.out.drewN 1), HST2.out.drew, D.out⟩
          case measure => simp [intOf]; omega
      | succ i =>
        obtain ⟨⟨p1, ps⟩, hp⟩ : ∃ x, L[i]? = some x := ⟨_, List.getElem?_eq_getElem (by omega)⟩
        have y1 := cell_below HST2.out.below0 (HCS.out i _ hp).1
        have y2 := cell_below HST2.out.below0 (HCS.out i _ hp).2
        dsimp only at y1 y2
        have hi2 : (0 : Int) < ((i + 1 : Nat) : Int) := by omega
        have hi3 : IntKind.i64.wrap (((i + 1 : Nat) : Int) - 1) = (i : Int) := by rw [IntKind.wrap_i64]; omega
        have hi4 : (0 : Int) ≤ (i : Int) ∧ (i : Int) < L.length := by omega
        obtain ⟨hi6, hi7⟩ := hi4
        have hi5 : IntKind.i64.wrap (i : Int) = (i : Int) := by rw [IntKind.wrap_i64]; omega
        have hsc := scr_succ hp HX.out
        rw [HSB.out, HE.out.1, HE.out.2.1, HE.out.2.2] at hsc
        have HSC := Lib.hid hsc
        have HP := Lib.hid hp
        clear hsc hp HCS
        by_cases h1 : sc < ps
        · have D := Lib.hid (show rankB L = false from all_range_false hkl (by rw [HSC.out, decide_eq_false (show ¬ ps < sc by omega), decide_eq_false (show ¬ ps = sc by omega)]; rfl))
          refine region_walk (S := fun W => W = w2.drew) [(some 40, .int .i64 ((i + 1 : Nat) : Int)), (some 41, .bool true), (some 42, .bool true), (some 43, .slice (some ⟨b, off, none⟩) L.length cap), (some 44, .int .i64 ((i + 1 : Nat) : Int)), (some 45, .int .i64 (i : Int)), (some 46, .pointer (some ⟨b, off + i * 2, none⟩)), (some 47, .pointer (some ⟨b, off + i * 2 + 1, none⟩)), (some 48, .int .i64 ps), (some 49, .pointer (some ⟨wr.heap.size, 1, none⟩)), (some 50, .int .i64 sc), (some 51, .bool true), (some 52, .bool true), (some 53, undef), (some 54, undef), (some 55, undef), (some 56, undef), (some 57, undef), (some 58, undef), (some 59, undef), (some 60, undef), (some 61, undef), (some 62, undef), (some 63, undef), (some 64, undef), (some 65, undef), (some 66, undef), (some 67, undef), (some 68, undef), (some 69, undef), (some 70, undef), (some 71, undef), (some 72, undef), (some 73, .bool true), (some 74, .bool true)] (by simp only [zFin, Act.put, List.setIfInBounds_toArray, List.set_cons_zero, List.set_cons_succ]; exact rfl) (by kernel_rfl) (by kernel_rfl) (by kernel_rfl) (by kernel_rfl) rfl (by kernel_rfl) rfl
            ⟨ZStep.val (by kernel_rfl) (fun W _ => by kernel_rfl),
                    ZStep.val (by kernel_rfl) (fun W hW => by go_simp; done),
                    ZStep.val (by kernel_rfl) (fun W _ => by kernel_rfl),
                    ZStep.val (by kernel_rfl) (fun W _ => by kernel_rfl),
                    ZStep.val (by kernel_rfl) (fun W _ => by kernel_rfl),
                    ZStep.val (by kernel_rfl) (fun W hW => by go_simp; done),
                    ZStep.val (by kernel_rfl) (fun W hW => by go_simp; done),
                    ZStep.val (by kernel_rfl) (fun W _ => by kernel_rfl),
                    ZStep.val (by kernel_rfl) (fun W hW => by subst hW; go_simp; done),
                    ZStep.val (by kernel_rfl) (fun W _ => by kernel_rfl),
                    ZStep.val (by kernel_rfl) (fun W hW => by subst hW; go_simp; done),
                    ZStep.val (by kernel_rfl) (fun W hW => by go_simp; done),
                    ZStep.val (by kernel_rfl) (fun W _ => by kernel_rfl),
                    ZStep.skip (by kernel_rfl),
                    ZStep.skip (by kernel_rfl),
                    ZStep.skip (by kernel_rfl),
                    ZStep.skip (by kernel_rfl),
                    ZStep.skip (by kernel_rfl),
                    ZStep.skip (by kernel_rfl),
                    ZStep.skip (by kernel_rfl),
                    ZStep.skip (by kernel_rfl),
                    ZStep.skip (by kernel_rfl),
                    ZStep.skip (by kernel_rfl),
                    ZStep.skip (by kernel_rfl),
                    ZStep.skip (by kernel_rfl),
                    ZStep.skip (by kernel_rfl),
                    ZStep.skip (by kernel_rfl),
                    ZStep.skip (by kernel_rfl),
                    ZStep.skip (by kernel_rfl),
                    ZStep.skip (by kernel_rfl),
                    ZStep.skip (by kernel_rfl),
                    ZStep.skip (by kernel_rfl),
                    ZStep.skip (by kernel_rfl),
                    ZStep.val (by kernel_rfl) (fun W _ => by kernel_rfl),
                    ZStep.val (by kernel_rfl) (fun W _ => by kernel_rfl), trivial⟩ ?fin
          case fin =>
            rintro W rfl
            go_wp2_with fail
            go_ret
            exact ⟨by rw [D.out]; rfl, HST2.out.below0.drew⟩
        by_cases h2 : ps = sc
        · subst h2
          have h1' : ¬ ps < ps := h1
          rcases hb3 : Op.bytesLess p1 x with _ | _
          · have D := Lib.hid (show rankB L = false from all_range_false hkl (by rw [HSC.out, decide_eq_false h1, show ltB p1 x = _ from hb3]; simp))
            refine region_walk (S := fun W => W = w2.drew) [(some 40, .int .i64 ((i + 1 : Nat) : Int)), (some 41, .bool true), (some 42, .bool true), (some 43, .slice (some ⟨b, off, none⟩) L.length cap), (some 44, .int .i64 ((i + 1 : Nat) : Int)), (some 45, .int .i64 (i : Int)), (some 46, .pointer (some ⟨b, off + i * 2, none⟩)), (some 47, .pointer (some ⟨b, off + i * 2 + 1, none⟩)), (some 48, .int .i64 ps), (some 49, .pointer (some ⟨wr.heap.size, 1, none⟩)), (some 50, .int .i64 ps), (some 51, .bool false), (some 52, .bool false), (some 53, .slice (some ⟨b, off, none⟩) L.length cap), (some 54, .int .i64 ((i + 1 : Nat) : Int)), (some 55, .int .i64 (i : Int)), (some 56, .pointer (some ⟨b, off + i * 2, none⟩)), (some 57, .pointer (some ⟨b, off + i * 2 + 1, none⟩)), (some 58, .int .i64 ps), (some 59, .pointer (some ⟨wr.heap.size, 1, none⟩)), (some 60, .int .i64 ps), (some 61, .bool true), (some 62, .bool true), (some 63, .slice (some ⟨b, off, none⟩) L.length cap), (some 64, .int .i64 ((i + 1 : Nat) : Int)), (some 65, .int .i64 (i : Int)), (some 66, .pointer (some ⟨b, off + i * 2, none⟩)), (some 67, .pointer (some ⟨b, off + i * 2, none⟩)), (some 68, .string ⟨p1.toArray⟩), (some 69, .pointer (some ⟨wr.heap.size, 0, none⟩)), (some 70, .string ⟨x.toArray⟩), (some 71, .bool true), (some 72, .bool true), (some 73, .bool true), (some 74, .bool true)] (by simp only [zFin, Act.put, List.setIfInBounds_toArray, List.set_cons_zero, List.set_cons_succ]; exact rfl) (by kernel_rfl) (by kernel_rfl) (by kernel_rfl) (by kernel_rfl) rfl (by kernel_rfl) rfl
              ⟨ZStep.val (by kernel_rfl) (fun W _ => by kernel_rfl),
                      ZStep.val (by kernel_rfl) (fun W hW => by go_simp; done),
                      ZStep.val (by kernel_rfl) (fun W _ => by kernel_rfl),
                      ZStep.val (by kernel_rfl) (fun W _ => by kernel_rfl),
                      ZStep.val (by kernel_rfl) (fun W _ => by kernel_rfl),
                      ZStep.val (by kernel_rfl) (fun W hW => by go_simp; done),
                      ZStep.val (by kernel_rfl) (fun W hW => by go_simp; done),
                      ZStep.val (by kernel_rfl) (fun W _ => by kernel_rfl),
                      ZStep.val (by kernel_rfl) (fun W hW => by subst hW; go_simp; done),
                      ZStep.val (by kernel_rfl) (fun W _ => by kernel_rfl),
                      ZStep.val (by kernel_rfl) (fun W hW => by subst hW; go_simp; done),
                      ZStep.val (by kernel_rfl) (fun W hW => by go_simp; done),
                      ZStep.val (by kernel_rfl) (fun W _ => by kernel_rfl),
                      ZStep.val (by kernel_rfl) (fun W _ => by kernel_rfl),
                      ZStep.val (by kernel_rfl) (fun W _ => by kernel_rfl),
                      ZStep.val (by kernel_rfl) (fun W hW => by go_simp; done),
                      ZStep.val (by kernel_rfl) (fun W hW => by go_simp; done),
                      ZStep.val (by kernel_rfl) (fun W _ => by kernel_rfl),
                      ZStep.val (by kernel_rfl) (fun W hW => by subst hW; go_simp; done),
                      ZStep.val (by kernel_rfl) (fun W _ => by kernel_rfl),
                      ZStep.val (by kernel_rfl) (fun W hW => by subst hW; go_simp; done),
                      ZStep.val (by kernel_rfl) (fun W hW => by go_simp; done),
                      ZStep.val (by kernel_rfl) (fun W _ => by kernel_rfl),
                      ZStep.val (by kernel_rfl) (fun W _ => by kernel_rfl),
                      ZStep.val (by kernel_rfl) (fun W _ => by kernel_rfl),
                      ZStep.val (by kernel_rfl) (fun W hW => by go_simp; done),
                      ZStep.val (by kernel_rfl) (fun W hW => by go_simp; done),
                      ZStep.val (by kernel_rfl) (fun W _ => by kernel_rfl),
                      ZStep.val (by kernel_rfl) (fun W hW => by subst hW; go_simp; done),
                      ZStep.val (by kernel_rfl) (fun W _ => by kernel_rfl),
                      ZStep.val (by kernel_rfl) (fun W hW => by subst hW; go_simp; done),
                      ZStep.val (by kernel_rfl) (fun W hW => by go_simp; done),
                      ZStep.val (by kernel_rfl) (fun W _ => by kernel_rfl),
                      ZStep.val (by kernel_rfl) (fun W _ => by kernel_rfl),
                      ZStep.val (by kernel_rfl) (fun W _ => by kernel_rfl), trivial⟩ ?fin
            case fin =>
              rintro W rfl
              go_wp2_with fail
              go_ret
              exact ⟨by rw [D.out]; rfl, HST2.out.below0.drew⟩
          · have D := Lib.hid (show (List.range ((i + 1) + 1)).all (scrAt L) = true from by rw [all_range_succ, HALL.out, HSC.out, decide_eq_false h1, show ltB p1 x = _ from hb3]; simp)
            refine region_walk (S := fun W => W = w2.drew) [(some 40, .int .i64 ((i + 1 : Nat) : Int)), (some 41, .bool true), (some 42, .bool true), (some 43, .slice (some ⟨b, off, none⟩) L.length cap), (some 44, .int .i64 ((i + 1 : Nat) : Int)), (some 45, .int .i64 (i : Int)), (some 46, .pointer (some ⟨b, off + i * 2, none⟩)), (some 47, .pointer (some ⟨b, off + i * 2 + 1, none⟩)), (some 48, .int .i64 ps), (some 49, .pointer (some ⟨wr.heap.size, 1, none⟩)), (some 50, .int .i64 ps), (some 51, .bool false), (some 52, .bool false), (some 53, .slice (some ⟨b, off, none⟩) L.length cap), (some 54, .int .i64 ((i + 1 : Nat) : Int)), (some 55, .int .i64 (i : Int)), (some 56, .pointer (some ⟨b, off + i * 2, none⟩)), (some 57, .pointer (some ⟨b, off + i * 2 + 1, none⟩)), (some 58, .int .i64 ps), (some 59, .pointer (some ⟨wr.heap.size, 1, none⟩)), (some 60, .int .i64 ps), (some 61, .bool true), (some 62, .bool true), (some 63, .slice (some ⟨b, off, none⟩) L.length cap), (some 64, .int .i64 ((i + 1 : Nat) : Int)), (some 65, .int .i64 (i : Int)), (some 66, .pointer (some ⟨b, off + i * 2, none⟩)), (some 67, .pointer (some ⟨b, off + i * 2, none⟩)), (some 68, .string ⟨p1.toArray⟩), (some 69, .pointer (some ⟨wr.heap.size, 0, none⟩)), (some 70, .string ⟨x.toArray⟩), (some 71, .bool false), (some 72, .bool false), (some 73, .bool false), (some 74, .bool false)] (by simp only [zFin, Act.put, List.setIfInBounds_toArray, List.set_cons_zero, List.set_cons_succ]; exact rfl) (by kernel_rfl) (by kernel_rfl) (by kernel_rfl) (by kernel_rfl) rfl (by kernel_rfl) rfl
              ⟨ZStep.val (by kernel_rfl) (fun W _ => by kernel_rfl),
                      ZStep.val (by kernel_rfl) (fun W hW => by go_simp; done),
                      ZStep.val (by kernel_rfl) (fun W _ => by kernel_rfl),
                      ZStep.val (by kernel_rfl) (fun W _ => by kernel_rfl),
                      ZStep.val (by kernel_rfl) (fun W _ => by kernel_rfl),
                      ZStep.val (by kernel_rfl) (fun W hW => by go_simp; done),
                      ZStep.val (by kernel_rfl) (fun W hW => by go_simp; done),
                      ZStep.val (by kernel_rfl) (fun W _ => by kernel_rfl),
                      ZStep.val (by kernel_rfl) (fun W hW => by subst hW; go_simp; done),
                      ZStep.val (by kernel_rfl) (fun W _ => by kernel_rfl),
                      ZStep.val (by kernel_rfl) (fun W hW => by subst hW; go_simp; done),
                      ZStep.val (by kernel_rfl) (fun W hW => by go_simp; done),
                      ZStep.val (by kernel_rfl) (fun W _ => by kernel_rfl),
                      ZStep.val (by kernel_rfl) (fun W _ => by kernel_rfl),
                      ZStep.val (by kernel_rfl) (fun W _ => by kernel_rfl),
                      ZStep.val (by kernel_rfl) (fun W hW => by go_simp; done),
                      ZStep.val (by kernel_rfl) (fun W hW => by go_simp; done),
                      ZStep.val (by kernel_rfl) (fun W _ => by kernel_rfl),
                      ZStep.val (by kernel_rfl) (fun W hW => by subst hW; go_simp; done),
                      ZStep.val (by kernel_rfl) (fun W _ => by kernel_rfl),
                      ZStep.val (by kernel_rfl) (fun W hW => by subst hW; go_simp; done),
                      ZStep.val (by kernel_rfl) (fun W hW => by go_simp; done),
                      ZStep.val (by kernel_rfl) (fun W _ => by kernel_rfl),
                      ZStep.val (by kernel_rfl) (fun W _ => by kernel_rfl),
                      ZStep.val (by kernel_rfl) (fun W _ => by kernel_rfl),
                      ZStep.val (by kernel_rfl) (fun W hW => by go_simp; done),
                      ZStep.val (by kernel_rfl) (fun W hW => by go_simp; done),
                      ZStep.val (by kernel_rfl) (fun W _ => by kernel_rfl),
                      ZStep.val (by kernel_rfl) (fun W hW => by subst hW; go_simp; done),
                      ZStep.val (by kernel_rfl) (fun W _ => by kernel_rfl),
                      ZStep.val (by kernel_rfl) (fun W hW => by subst hW; go_simp; done),
                      ZStep.val (by kernel_rfl) (fun W hW => by go_simp; done),
                      ZStep.val (by kernel_rfl) (fun W _ => by kernel_rfl),
                      ZStep.val (by kernel_rfl) (fun W _ => by kernel_rfl),
                      ZStep.val (by kernel_rfl) (fun W _ => by kernel_rfl), trivial⟩ ?fin
            case fin =>
              rintro W rfl
              go_wp2_with fail
              go_roundw
              case rel => exact ⟨(i + 1) + 1, _, hkl, by go_num, (HM2.out.drewN 1), HST2.out.drew, D.out⟩
              case measure => simp [intOf]; omega
        · have D := Lib.hid (show (List.range ((i + 1) + 1)).all (scrAt L) = true from by rw [all_range_succ, HALL.out, HSC.out, decide_eq_true (show ps < sc by omega)]; rfl)
          have h3 : (ps == sc) = false := by simpa using h2
          refine region_walk (S := fun W => W = w2.drew) [(some 40, .int .i64 ((i + 1 : Nat) : Int)), (some 41, .bool true), (some 42, .bool true), (some 43, .slice (some ⟨b, off, none⟩) L.length cap), (some 44, .int .i64 ((i + 1 : Nat) : Int)), (some 45, .int .i64 (i : Int)), (some 46, .pointer (some ⟨b, off + i * 2, none⟩)), (some 47, .pointer (some ⟨b, off + i * 2 + 1, none⟩)), (some 48, .int .i64 ps), (some 49, .pointer (some ⟨wr.heap.size, 1, none⟩)), (some 50, .int .i64 sc), (some 51, .bool false), (some 52, .bool false), (some 53, .slice (some ⟨b, off, none⟩) L.length cap), (some 54, .int .i64 ((i + 1 : Nat) : Int)), (some 55, .int .i64 (i : Int)), (some 56, .pointer (some ⟨b, off + i * 2, none⟩)), (some 57, .pointer (some ⟨b, off + i * 2 + 1, none⟩)), (some 58, .int .i64 ps), (some 59, .pointer (some ⟨wr.heap.size, 1, none⟩)), (some 60, .int .i64 sc), (some 61, .bool false), (some 62, .bool false), (some 63, undef), (some 64, undef), (some 65, undef), (some 66, undef), (some 67, undef), (some 68, undef), (some 69, undef), (some 70, undef), (some 71, undef), (some 72, .bool false), (some 73, .bool false), (some 74, .bool false)] (by simp only [zFin, Act.put, List.setIfInBounds_toArray, List.set_cons_zero, List.set_cons_succ]; exact rfl) (by kernel_rfl) (by kernel_rfl) (by kernel_rfl) (by kernel_rfl) rfl (by kernel_rfl) rfl
            ⟨ZStep.val (by kernel_rfl) (fun W _ => by kernel_rfl),
                    ZStep.val (by kernel_rfl) (fun W hW => by go_simp; done),
                    ZStep.val (by kernel_rfl) (fun W _ => by kernel_rfl),
                    ZStep.val (by kernel_rfl) (fun W _ => by kernel_rfl),
                    ZStep.val (by kernel_rfl) (fun W _ => by kernel_rfl),
                    ZStep.val (by kernel_rfl) (fun W hW => by go_simp; done),
                    ZStep.val (by kernel_rfl) (fun W hW => by go_simp; done),
                    ZStep.val (by kernel_rfl) (fun W _ => by kernel_rfl),
                    ZStep.val (by kernel_rfl) (fun W hW => by subst hW; go_simp; done),
                    ZStep.val (by kernel_rfl) (fun W _ => by kernel_rfl),
                    ZStep.val (by kernel_rfl) (fun W hW => by subst hW; go_simp; done),
                    ZStep.val (by kernel_rfl) (fun W hW => by go_simp; done),
                    ZStep.val (by kernel_rfl) (fun W _ => by kernel_rfl),
                    ZStep.val (by kernel_rfl) (fun W _ => by kernel_rfl),
                    ZStep.val (by kernel_rfl) (fun W _ => by kernel_rfl),
                    ZStep.val (by kernel_rfl) (fun W hW => by go_simp; done),
                    ZStep.val (by kernel_rfl) (fun W hW => by go_simp; done),
                    ZStep.val (by kernel_rfl) (fun W _ => by kernel_rfl),
                    ZStep.val (by kernel_rfl) (fun W hW => by subst hW; go_simp; done),
                    ZStep.val (by kernel_rfl) (fun W _ => by kernel_rfl),
                    ZStep.val (by kernel_rfl) (fun W hW => by subst hW; go_simp; done),
                    ZStep.val (by kernel_rfl) (fun W hW => by go_simp; done),
                    ZStep.val (by kernel_rfl) (fun W _ => by kernel_rfl),
                    ZStep.skip (by kernel_rfl),
                    ZStep.skip (by kernel_rfl),
                    ZStep.skip (by kernel_rfl),
                    ZStep.skip (by kernel_rfl),
                    ZStep.skip (by kernel_rfl),
                    ZStep.skip (by kernel_rfl),
                    ZStep.skip (by kernel_rfl),
                    ZStep.skip (by kernel_rfl),
                    ZStep.skip (by kernel_rfl),
                    ZStep.val (by kernel_rfl) (fun W _ => by kernel_rfl),
                    ZStep.val (by kernel_rfl) (fun W _ => by kernel_rfl),
                    ZStep.val (by kernel_rfl) (fun W _ => by kernel_rfl), trivial⟩ ?fin
          case fin =>
            rintro W rfl
            go_wp2_with fail
            go_roundw
            case rel => exact ⟨(i + 1) + 1, _, hkl, by go_num, (HM2.out.drewN 1), HST2.out.drew, D.out⟩
            case measure => simp [intOf]; omega
    · obtain rfl : k = L.length := by omega
      have D := Lib.hid (show rankB L = true from hall)
      have HB := Lib.hid hB
      clear hall hB HV hm hst
      go_wp2_with fail
      go_ret
      exact ⟨by rw [D.out]; rfl, HB.out⟩
end Go.Proofs.YthojmgjgmbnopaaGreatDoor
