import Derived.Test.YthojmgjgmbnopaaGreatDoorBi
import Derived.Test.YthojmgjgmbnopaaGreatDoorCt
namespace Go.Proofs.YthojmgjgmbnopaaGreatDoor
open Go Go.RowKit
/-! StrcmdBits. -/
theorem begun_none {w : World} : Calls Tryz.prog 15 #[.slice none 0 0] w fun e w' => ∃ p x o, e = .returned (.tuple #[.pointer (some ⟨p, 0, none⟩), .pointer (some ⟨x, 0, none⟩)]) ∧ SpJ o w' [1] p (fun _ => none) ⟨0, 0⟩ ∧ Stp [1] none0 w o w' := by
  have HN := Lib.hid (jnew_ok none0 w [1])
  go_enter Tryz.func15, Tryz.ntmps15
  go_wp2_with fail
  refine HN.out.mono ?_; rintro e w1 ⟨p, o1, rfl, hj, hst⟩
  have H1 := Lib.hid (fun x => And.intro (hj.below (lit_below0 w1 x)) (hst.trans (Stp.ofBelow [1] o1 (lit_below0 w1 x))))
  clear hj hst HN
  go_wp2_with fail
  go_loopw [6] (fun i wr => i = .int .i64 0 ∧ wr = w1.alloc (.cells (xsC (.slice none 0 0) 0) 79)) (fun _ _ => 0)
  case atStart => exact ⟨rfl, rfl⟩
  case round =>
    obtain ⟨rfl, rfl⟩ := hrel
    go_wp2_with fail
    go_ret2
    exact ⟨p, w1.heap.size, o1, rfl, H1.out _⟩
abbrev iv (p : Nat) : Value := .int .i64 (p : Int)
structure BwS (w0 : World) (p : Nat) (k : Nat) (J : List Nat) (T : Tx) (sv : Value) (o : Roles) (S : SP) (c : Cnt) (wr : World) : Prop where
  at_ : At w0 o wr p S c (2 * k)
  bits : BitsAt S T
  len : T.length ≤ 1048576
  nodup : J.Nodup
  mem : ∀ q, bitT T q = 1 ↔ q ∈ J
  few : J.length ≤ k
  row : Row o wr [8] 3 1 sv J.length (J.map iv)
theorem BwS.mem_lt {w0 : World} {p k : Nat} {J : List Nat} {T : Tx} {sv : Value} {o : Roles} {S : SP} {c : Cnt} {wr : World} (h : BwS w0 p k J T sv o S c wr) {q : Nat} (hq : q ∈ J) : q < 8388608 := by
  have h1 := (h.mem q).2 hq
  rcases Nat.lt_or_ge q (8 * T.length) with h2 | h2
  · have := h.len; omega
  · rw [bitT_far h2] at h1; cases h1
theorem BwS.bit {w0 : World} {p k : Nat} {J : List Nat} {T : Tx} {sv : Value} {o : Roles} {S : SP} {c : Cnt} {wr : World} (h : BwS w0 p k J T sv o S c wr) (q : Nat) : bitT T q = if q ∈ J then 1 else 0 := by
  split
  · rename_i hq; exact (h.mem q).2 hq
  · rename_i hq
    have h1 : bitT T q ≠ 1 := fun e => hq ((h.mem q).1 e)
    have h2 : bitT T q < 2 := bitB_lt _ _
    omega
def BwRel (w0 : World) (p L : Nat) (sv i : Value) (wr : World) : Prop :=
  ∃ (k : Nat) (J : List Nat) (T : Tx) (o : Roles) (S : SP) (c : Cnt), k ≤ L ∧ i = .int .i64 (k : Int) ∧ BwS w0 p k J T sv o S c wr
def BgRel (w0 : World) (p L : Nat) (J : List Nat) (T : Tx) (sv m i : Value) (wr : World) : Prop :=
  ∃ (k : Nat) (o : Roles) (S : SP) (c : Cnt), k ≤ J.length ∧ i = .int .i64 (k : Int) ∧ m = .int .i64 (leastJ (J.take k)) ∧ BwS w0 p (L + k) J T sv o S c wr
theorem infoI : (Tryz.prog.info? 3).map (fun i => (i.zero, i.size, i.bytes)) = some (some (.int .i64 0), 1, 8) := by kernel_rfl
set_option maxRecDepth 10000 in
set_option maxHeartbeats 20000000 in
theorem bits_law {w0 : World} (hT : Tbl w0) {vs : Value} {st : List Int} (hst : Vw (Old w0) w0 vs 1 st.length (st.map (Value.int .i64)))
    (hr : ∀ n ∈ st, InR n) (hsn : st.length ≤ 1048576) :
    Calls Tryz.prog 5 #[vs] w0 fun e w' => e = .returned (.bool true) ∧ Below w0.heap.size w0 w' := by
  obtain ⟨ast, cst, rfl, _⟩ := id hst.slice
  obtain ⟨i0, hi0, hz0, hz1, hz2⟩ := info_parts infoI
  have HST := Lib.hid hst
  have HRN := Lib.hid hr
  have HT := Lib.hid hT
  clear hst hr hT
  go_enter Tryz.func5, Tryz.ntmps5
  go_wp2_with fail
  refine begun_none.mono ?_; rintro e w2 ⟨p, x, o2, rfl, hj, hs⟩
  have h2 : At w0 o2 w2 p (fun _ => none) ⟨0, 0⟩ 0 := ⟨hj, hs, Nat.le_refl _, Nat.le_refl _⟩
  have H2 := Lib.hid h2
  clear hj hs h2
  go_wp2_with fail
  refine (awake_ok (HT.out.below H2.out.since)).mono ?_; rintro e w3 ⟨rfl, hB3⟩
  have HAT := Lib.hid (show BwRel w0 p st.length (.slice none 0 0) (.int .i64 0) w3 from ⟨0, [], [], o2, _, _, Nat.zero_le _, rfl, H2.out.below hB3, .inl ⟨rfl, rfl⟩, by decide, List.nodup_nil, fun q => by simp [bitT_far (T := []) (p := q) (by simp)], Nat.le_refl _, Row.nil _ _ _ _ _⟩)
  clear hB3 H2
  go_wp2_with fail
  go_loopw [5, 6] (fun a i wr => BwRel w0 p st.length a i wr) (fun _ i _ => st.length - (intOf i).toNat)
  case atStart => exact HAT.out
  case round =>
    obtain ⟨k, J, T, o9, S9, c9, hk, rfl, h9⟩ := hrel
    clear HAT
    obtain ⟨aJ, cJ, rfl, _⟩ := id h9.row.slice
    by_cases hkl : k < st.length
    · obtain ⟨y, hy⟩ : ∃ y, st[k]? = some y := ⟨_, List.getElem?_eq_getElem hkl⟩
      obtain ⟨b, off, rfl, hbl, hcap, hg⟩ := vw_at HST.out (by omega)
      have HC := Lib.hid (hg k (.int .i64 y) (by rw [List.getElem?_map, hy]; rfl))
      have hc := h9.at_.cell HC.out
      have hyr := HRN.out y (List.mem_of_getElem? hy)
      have hkI : (0 : Int) ≤ k ∧ (k : Int) < st.length := by omega
      have HPR := Lib.hid (fun W => print_ok W hyr)
      have H9 := Lib.hid h9
      clear h9 hg hy
      by_cases hin : y < 0 ∨ 8388608 ≤ y
      · go_wp2_with fail
        refine (HPR.out _).mono ?_; rintro e w11 ⟨rfl, hB11⟩
        have HRUN := Lib.hid (run_setbit_out (H9.out.at_.below hB11) HT.out H9.out.bits hyr hin)
        have HROW := Lib.hid ((H9.out.row.below hB11).alloc (.cells ([setbitB, bB, Lib.itoa y, [49]].map txt).toArray 9) w11.heap.size [9] rfl)
        clear hB11 hc HPR
        go_wp2_with fail
        refine HRUN.out.mono ?_; rintro e w12 ⟨v12, rfl, hv12, o12, S12, c12, h12, hK12, hs12⟩
        obtain ⟨a12, l12, rfl, _⟩ := id hv12.slice
        have D := Lib.hid (fun x => (show BwRel w0 p st.length (.slice aJ J.length cJ) (.int .i64 ((k + 1 : Nat) : Int)) (w12.alloc x) from ⟨k + 1, J, T, o12, S12, c12, hkl, rfl, (h12.below (lit_below0 w12 x)).mono (by omega), hK12, H9.out.len, H9.out.nodup, H9.out.mem, Nat.le_succ_of_le H9.out.few, (HROW.out.keep hs12 (by decide)).below (lit_below0 w12 x)⟩))
        clear hv12 h12 hK12 hs12 HRUN HROW H9
        simp only [Rf.rp]
        rcases hin with h | h
        · have d1 : decide (y < 0) = true := decide_eq_true h
          go_wp2_with fail
          go_roundw
          case rel => exact D.out _
          case measure => simp [intOf]; omega
        · have d1 : decide (y < 0) = false := decide_eq_false (by omega)
          have d2 : decide (8388608 ≤ y) = true := decide_eq_true h
          go_wp2_with fail
          go_roundw
          case rel => exact D.out _
          case measure => simp [intOf]; omega
      · obtain ⟨j, rfl⟩ := Int.eq_ofNat_of_zero_le (show 0 ≤ y by omega)
        have hj8 : j < 8388608 := by omega
        have hjI : (0 : Int) ≤ j ∧ (j : Int) < 8388608 := by omega
        clear hin
        go_wp2_with fail
        refine (HPR.out _).mono ?_; rintro e w11 ⟨rfl, hB11⟩
        have HRUN := Lib.hid (run_setbit (H9.out.at_.below hB11) HT.out H9.out.bits H9.out.len hj8 (by omega))
        have HROW := Lib.hid ((H9.out.row.below hB11).alloc (.cells ([setbitB, bB, Lib.itoa (j : Int), [49]].map txt).toArray 9) w11.heap.size [9] rfl)
        clear hB11 hc HPR
        go_wp2_with fail
        refine HRUN.out.mono ?_; rintro e w12 ⟨v12, rfl, hv12, o12, S12, c12, h12, hK12, hs12⟩
        obtain ⟨a12, l12, rfl, _⟩ := id hv12.slice
        have H12 := Lib.hid (h12.lit (.cells #[.int .i64 3, .string ⟨#[]⟩, .int .i64 (bitT T j : Int), .slice a12 0 l12] 30))
        have HK12 := Lib.hid hK12
        have HROW12 := Lib.hid ((HROW.out.keep hs12 (by decide)).alloc (.cells #[.int .i64 3, .string ⟨#[]⟩, .int .i64 (bitT T j : Int), .slice a12 0 l12] 30) w12.heap.size [9] rfl)
        clear hv12 h12 hK12 hs12 HRUN HROW
        simp only [Rf.rp]
        go_wp2_with fail
        have hJk := H9.out.few
        go_loopw [10, 11] (fun a i wx => ∃ k2 : Nat, k2 ≤ J.length ∧ i = .int .i64 (k2 : Int) ∧ a = .int .i64 (if j ∈ J.take k2 then 1 else 0) ∧ wx = w12.alloc (.cells #[.int .i64 3, .string ⟨#[]⟩, .int .i64 (bitT T j : Int), .slice a12 0 l12] 30)) (fun _ i _ => J.length - (intOf i).toNat)
        case atStart => exact ⟨0, Nat.zero_le _, rfl, rfl, rfl⟩
        case round =>
          obtain ⟨k2, hk2, rfl, rfl, rfl⟩ := hrel
          by_cases hkl2 : k2 < J.length
          · obtain ⟨x2, hx2⟩ : ∃ x2, J[k2]? = some x2 := ⟨_, List.getElem?_eq_getElem hkl2⟩
            obtain ⟨g2, c2, eg, _, hcg, _⟩ := HROW12.out.at (k := k2) (by omega)
            rw [List.getElem?_map, hx2, Option.map_some] at hcg
            injection eg with eg _ e3
            subst eg e3
            have hkI2 : (0 : Int) ≤ k2 ∧ (k2 : Int) < J.length := by omega
            have htk : ∀ q, q ∈ J.take (k2 + 1) ↔ q ∈ J.take k2 ∨ q = x2 := fun q => by rw [List.take_add_one, hx2]; simp
            by_cases hxj : x2 = j
            · have D := Lib.hid (show (if j ∈ J.take (k2 + 1) then (1 : Int) else 0) = 1 from if_pos ((htk j).2 (.inr hxj.symm)))
              have hxe : ((x2 : Int) == (j : Int)) = true := by rw [hxj]; simp
              clear hx2 htk hxj
              go_wp2_with fail
              go_roundw
              case rel => exact ⟨k2 + 1, hkl2, by go_num, by rw [D.out], by first | rfl | trivial⟩
              case measure => simp [intOf]; omega
            · have D := Lib.hid (show (if j ∈ J.take (k2 + 1) then (1 : Int) else 0) = if j ∈ J.take k2 then 1 else 0 by
                by_cases h : j ∈ J.take k2
                · rw [if_pos h, if_pos ((htk j).2 (.inl h))]
                · rw [if_neg h, if_neg (fun h2 => by rcases (htk j).1 h2 with h3 | h3; exact h h3; exact hxj h3.symm)])
              have hxe : ((x2 : Int) == (j : Int)) = false := by rw [beq_eq_false_iff_ne]; omega
              clear hx2 htk hxj
              generalize (if j ∈ J.take k2 then (1 : Int) else 0) = od at *
              go_wp2_with fail
              go_roundw
              case rel => exact ⟨k2 + 1, hkl2, by go_num, by rw [D.out], by first | rfl | trivial⟩
              case measure => simp [intOf]; omega
          · obtain rfl : k2 = J.length := by omega
            rw [List.take_length]
            have hbt := H9.out.bit j
            have hlen : (setT T j).length ≤ 1048576 := by rw [setT_length]; have := H9.out.len; omega
            have HSL := Lib.hid hlen
            clear hlen
            by_cases hm : j ∈ J
            · rw [if_pos hm] at hbt ⊢
              rw [hbt] at H12 HROW12 ⊢
              have HBS := Lib.hid (show ∀ W o', Below (w12.alloc (.cells #[.int .i64 3, .string ⟨#[]⟩, .int .i64 ((1 : Nat) : Int), .slice a12 0 l12] 30)).heap.size (w12.alloc (.cells #[.int .i64 3, .string ⟨#[]⟩, .int .i64 ((1 : Nat) : Int), .slice a12 0 l12] 30)) W → o' = o12.put w12.heap.size [9] → BwRel w0 p st.length (.slice aJ J.length cJ) (.int .i64 ((k + 1 : Nat) : Int)) W from fun W o' hW _ =>
                ⟨k + 1, J, setT T j, _, S12, c12, hkl, rfl, (H12.out.below hW).mono (by omega), HK12.out, HSL.out, H9.out.nodup, fun q => by
                  rw [setT_bit]
                  split
                  · rename_i h; subst h; exact ⟨fun _ => hm, fun _ => rfl⟩
                  · exact H9.out.mem q, Nat.le_succ_of_le H9.out.few, HROW12.out.below hW⟩)
              clear hbt H12 HROW12 H9 HK12 hm
              go_wp2_with fail
              refine (lawnumber_ok _ _ _ _ _ _).mono ?_; rintro e w13 ⟨rfl, hB13⟩
              have D := Lib.hid (HBS.out w13 _ hB13 rfl)
              clear hB13 HBS
              go_wp2_with fail
              go_roundw
              case rel => exact D.out
              case measure => simp [intOf]; omega
            · rw [if_neg hm] at hbt ⊢
              rw [hbt] at H12 HROW12 ⊢
              have HMEM := Lib.hid (show ∀ q, bitT (setT T j) q = 1 ↔ q ∈ J ++ [j] from fun q => by
                rw [setT_bit, List.mem_append, List.mem_singleton]
                split
                · rename_i h; exact ⟨fun _ => .inr h, fun _ => rfl⟩
                · rename_i h; rw [H9.out.mem q]; exact ⟨.inl, fun h2 => h2.resolve_right h⟩)
              have HND := Lib.hid (show (J ++ [j]).Nodup from List.nodup_append.2 ⟨H9.out.nodup, by simp, fun a ha b hb => by rw [List.mem_singleton.1 hb]; exact fun e => hm (e ▸ ha)⟩)
              clear hbt hm
              go_wp2_with fail
              refine (lawnumber_ok _ _ _ _ _ _).mono ?_; rintro e w13 ⟨rfl, hB13⟩
              have H13 := Lib.hid (H12.out.below hB13)
              have HROW13 := Lib.hid ((HROW12.out.below hB13).below (lit_below0 w13 (.cells #[iv j] 3)))
              have HSRC := Lib.hid ((vw_newK w13 #[iv j] 3 1 rfl).src (P := Tryz.prog) Tryz.underlying37 (by intro u hu; simp at hu; subst hu; rfl))
              clear hB13 H12 HROW12
              go_wp2_with (
                at_builtin
                refine wpList_app _ rfl _ _ 37 37 rfl 3 i0 _ 1 8 Tryz.underlying37 hi0 hz0 hz1 hz2 rfl rfl HROW13.out rfl HSRC.out (by unfold maxLen; omega) (by omega) ?_
                intro v' w15 o15 hrow15 hst15
                obtain ⟨a15, c15, rfl, _⟩ := id hrow15.slice
                have D := Lib.hid (show BwRel w0 p st.length (.slice a15 (J.length + 1) c15) (.int .i64 ((k + 1 : Nat) : Int)) w15 from
                  ⟨k + 1, J ++ [j], setT T j, o15, S12, c12, hkl, rfl, ⟨(H13.out.sp.below (lit_below0 w13 _)).keep hst15 (by intro t ht; simp at ht), (H13.out.st.trans (Stp.ofBelow _ _ (lit_below0 w13 _))).hide hst15 (fun b _ => by unfold none0; simp), by have := H13.out.num; omega, by have := H13.out.few; omega⟩, HK12.out, HSL.out, HND.out, HMEM.out, by simp; omega, by simpa using hrow15⟩)
                clear hrow15 hst15 HROW13 HSRC H13 HK12 HSL HND HMEM H9)
              go_roundw
              case rel => exact D.out
              case measure => simp [intOf]; omega
    · obtain rfl : k = st.length := by omega
      have hJk := h9.few
      have HAT := Lib.hid (show BgRel w0 p st.length J T (.slice aJ J.length cJ) (.int .i64 (-1)) (.int .i64 0) wr from ⟨0, o9, S9, c9, Nat.zero_le _, rfl, rfl, h9⟩)
      clear h9 hkl hk
      go_wp2_with fail
      go_loopw [12, 13] (fun m i wx => BgRel w0 p st.length J T (.slice aJ J.length cJ) m i wx) (fun _ i _ => J.length - (intOf i).toNat)
      case atStart => exact HAT.out
      case round =>
        obtain ⟨k, o8, S8, c8, hk, rfl, rfl, h8⟩ := hrel
        clear HAT
        by_cases hkl : k < J.length
        · obtain ⟨x2, hx2⟩ : ∃ x2, J[k]? = some x2 := ⟨_, List.getElem?_eq_getElem hkl⟩
          have hx8 := h8.mem_lt (List.mem_of_getElem? hx2)
          have hbit : bitT T x2 = 1 := (h8.mem x2).2 (List.mem_of_getElem? hx2)
          obtain ⟨g2, c2, eg, hrg, hcg, _⟩ := h8.row.at (k := k) (by omega)
          rw [List.getElem?_map, hx2, Option.map_some] at hcg
          injection eg with eg _ e3
          subst eg e3
          have hkI : (0 : Int) ≤ k ∧ (k : Int) < J.length := by omega
          have HPR := Lib.hid (fun W => print_ok W (n := (x2 : Int)) (by omega))
          have HLE := Lib.hid (show leastJ (J.take (k + 1)) = if leastJ (J.take k) < 0 ∨ (x2 : Int) < leastJ (J.take k) then (x2 : Int) else leastJ (J.take k) by
            unfold leastJ; rw [List.take_add_one, hx2, Option.toList_some, List.foldl_append]; rfl)
          have H8 := Lib.hid h8
          have HX2 := Lib.hid hx2
          clear h8 hx2 hrg
          go_wp2_with fail
          refine (HPR.out _).mono ?_; rintro e w11 ⟨rfl, hB11⟩
          have hrun := run_getbit (H8.out.at_.below hB11) HT.out H8.out.bits hx8
          rw [hbit] at hrun
          have HRUN := Lib.hid hrun
          have HROW := Lib.hid ((H8.out.row.below hB11).alloc (.cells ([getbitB, bB, Lib.itoa (x2 : Int)].map txt).toArray 9) w11.heap.size [9] rfl)
          clear hB11 hcg HPR hrun hbit
          go_wp2_with fail
          refine HRUN.out.mono ?_; rintro e w12 ⟨v12, rfl, hv12, o12, S12, c12, h12, hK12, hs12⟩
          obtain ⟨a12, l12, rfl, _⟩ := id hv12.slice
          have H12 := Lib.hid h12
          have HK12 := Lib.hid hK12
          have HROW12 := Lib.hid (HROW.out.keep hs12 (by decide))
          clear hv12 h12 hK12 hs12 HRUN HROW
          simp only [Rf.rp]
          go_wp2_with fail
          refine (lawnumber_ok _ _ _ _ _ _).mono ?_; rintro e w13 ⟨rfl, hB13⟩
          have hB' := (lit_below0 w12 (.cells #[.int .i64 3, .string ⟨#[]⟩, .int .i64 ((1 : Nat) : Int), .slice a12 0 l12] 30)).trans (hB13.mono (by simp))
          have hrow13 := HROW12.out.below hB'
          obtain ⟨g3, c3, eg, _, hcg, _⟩ := hrow13.at (k := k) (by omega)
          rw [List.getElem?_map, HX2.out, Option.map_some] at hcg
          injection eg with eg _ e3
          injection eg with eg
          injection eg with eg _ _
          subst eg e3
          have HB := Lib.hid (show ∀ m, m = leastJ (J.take (k + 1)) → BgRel w0 p st.length J T (.slice (some ⟨g2, 0, none⟩) J.length _) (.int .i64 m) (.int .i64 ((k + 1 : Nat) : Int)) w13 from fun m hm =>
            ⟨k + 1, o12, S12, c12, hkl, rfl, by rw [hm], (H12.out.below hB').mono (by omega), HK12.out, H8.out.len, H8.out.nodup, H8.out.mem, by have := H8.out.few; omega, hrow13⟩)
          have HLL := Lib.hid HLE.out
          clear hB13 hB' hrow13 H12 HK12 HROW12 H8 HX2
          generalize leastJ (J.take k) = m at *
          by_cases h0 : m < 0
          · have d0 : decide (m < 0) = true := decide_eq_true h0
            have D := Lib.hid (HB.out x2 (by rw [HLL.out, if_pos (.inl h0)]))
            clear HB HLL HLE h0
            go_wp2_with fail
            go_roundw
            case rel => exact D.out
            case measure => simp [intOf]; omega
          · have d0 : decide (m < 0) = false := decide_eq_false h0
            by_cases h1 : (x2 : Int) < m
            · have d1 : decide ((x2 : Int) < m) = true := decide_eq_true h1
              have D := Lib.hid (HB.out x2 (by rw [HLL.out, if_pos (.inr h1)]))
              clear HB HLL HLE h0 h1
              go_wp2_with fail
              go_roundw
              case rel => exact D.out
              case measure => simp [intOf]; omega
            · have d1 : decide ((x2 : Int) < m) = false := decide_eq_false h1
              have D := Lib.hid (HB.out m (by rw [HLL.out, if_neg (by omega)]))
              clear HB HLL HLE h0 h1
              go_wp2_with fail
              go_roundw
              case rel => exact D.out
              case measure => simp [intOf]; omega
        · obtain rfl : k = J.length := by omega
          rw [List.take_length]
          have hcount := countT_set h8.nodup h8.mem
          have hfirst := first_least h8.mem
          have h1 := run_bitcount h8.at_ h8.bits h8.len
          rw [hcount] at h1
          have HR1 := Lib.hid h1
          have HTL := Lib.hid h8.len
          have HFI := Lib.hid hfirst
          clear h8 hcount hfirst h1 hkl hk
          generalize leastJ J = least at *
          go_wp2_with fail
          refine HR1.out.mono ?_; rintro e w12 ⟨v12, rfl, hv12, o12, S12, c12, h12, hK12, _⟩
          obtain ⟨a12, l12, rfl, _⟩ := id hv12.slice
          have hA := h12.lit (.cells #[.int .i64 3, .string ⟨#[]⟩, .int .i64 (J.length : Int), .slice a12 0 l12] 30)
          have hb : Blk ((o12.put w12.heap.size [9]).put (w12.heap.size + 1) [9]) ((w12.alloc (.cells #[.int .i64 3, .string ⟨#[]⟩, .int .i64 (J.length : Int), .slice a12 0 l12] 30)).alloc (.cells ([bitposB, bB, [49]].map txt).toArray 9)) [9] w12.heap.size #[.int .i64 3, .string ⟨#[]⟩, .int .i64 (J.length : Int), .slice a12 0 l12] 30 :=
            ⟨by rw [Below.heap_alloc _ _ _ (by simp)]; exact heap_alloc_new _ _, by rw [Roles.put_other (by omega)]; exact Roles.put_same _ _ _⟩
          have h2 := run_bitpos hA hK12 HTL.out
          rw [HFI.out, show (w12.alloc (.cells #[.int .i64 3, .string ⟨#[]⟩, .int .i64 (J.length : Int), .slice a12 0 l12] 30)).heap.size = w12.heap.size + 1 by simp] at h2
          have HR2 := Lib.hid h2
          have HBB := Lib.hid hb
          clear hv12 h12 hK12 hA h2 hb HR1
          simp only [Rf.rp]
          go_wp2_with fail
          refine HR2.out.mono ?_; rintro e w14 ⟨v14, rfl, hv14, o14, S14, c14, h14, hK14, hs14⟩
          obtain ⟨a14, l14, rfl, _⟩ := id hv14.slice
          have hb14 := (HBB.out.keep hs14 (by decide)).below (lit_below0 w14 (.cells #[.int .i64 3, .string ⟨#[]⟩, .int .i64 least, .slice a14 0 l14] 30))
          have hcb := hb14.cell
          have HY := Lib.hid (show Blk none0 (w14.alloc (.cells #[.int .i64 3, .string ⟨#[]⟩, .int .i64 least, .slice a14 0 l14] 30)) [] w14.heap.size #[.int .i64 3, .string ⟨#[]⟩, .int .i64 least, .slice a14 0 l14] 30 from ⟨heap_alloc_new _ _, rfl⟩)
          have HSI := Lib.hid (h14.below (lit_below0 w14 (.cells #[.int .i64 3, .string ⟨#[]⟩, .int .i64 least, .slice a14 0 l14] 30))).since
          have hlt := (HBB.out.keep hs14 (by decide)).lt
          have hcb0 := (HBB.out.keep hs14 (by decide)).cell
          clear hv14 h14 hK14 hs14 hb14 HR2 HBB
          simp only [Rf.rp]
          go_wp2_with fail
          refine (lawnumber_ok _ _ _ _ _ _).mono ?_; rintro e w15 ⟨rfl, hB15⟩
          have hcy := (HY.out.below hB15).cell
          have HSI15 := Lib.hid (HSI.out.trans (hB15.mono HSI.out.size))
          clear hB15 HSI HY
          go_wp2_with fail
          refine (lawnumber_ok _ _ _ _ _ _).mono ?_; rintro e w16 ⟨rfl, hB16⟩
          have HSI16 := Lib.hid (HSI15.out.trans (hB16.mono HSI15.out.size))
          clear hB16 HSI15
          go_wp2_with fail
          go_ret
          exact ⟨rfl, HSI16.out⟩
theorem bits_con (w0 : World) (hT : Tbl w0) (zs : List Int) (v : Value) (T : Vw (Old w0) w0 v 1 zs.length (zs.map (Value.int .i64))) (rg : ∀ n ∈ zs, InR n) (hl : zs.length ≤ 1048576) :
    Calls Tryz.prog 5 #[v] w0 fun e w' => e = .returned (.bool true) ∧ Below w0.heap.size w0 w' := bits_law hT T rg hl
end Go.Proofs.YthojmgjgmbnopaaGreatDoor
