import Derived.Test.YthojmgjgmbnopaaGreatDoorXP
import Derived.Lib.ConvBytes
namespace Go.Proofs.YthojmgjgmbnopaaGreatDoor
open Go Go.RowKit
/-! table.Check: a request that is none. -/
theorem cut_run (s : List UInt8) (lo hi : Option Value) (i j : Nat) (hij : i ≤ j) (hj : j ≤ s.length) (hlo : lo = some (.int .i64 i) ∨ lo = none ∧ i = 0) (hhi : hi = some (.int .i64 j) ∨ hi = none ∧ j = s.length) (w : World) :
    (Instr.slice 9 (.string ⟨s.toArray⟩) lo hi none).run Tryz.prog w = .ok (.string ⟨((s.drop i).take (j - i)).toArray⟩) w := by
  have hsz : (⟨s.toArray⟩ : ByteArray).size = s.length := by simp [ByteArray.size]
  rw [← ByteArray.extract_mk]
  have hfull : (⟨s.toArray⟩ : ByteArray) = (⟨s.toArray⟩ : ByteArray).extract 0 s.length := by rw [ByteArray.extract_mk]; simp
  rcases hlo with rfl | ⟨rfl, rfl⟩ <;> rcases hhi with rfl | ⟨rfl, rfl⟩ <;>
    simp [Instr.slice, run_underlying Tryz.underlying9, Instr.sliceBounds, Instr.sliceBound, asIntOf, hsz] <;>
    first
    | rw [if_pos (by omega), if_pos (by omega)]
    | exact hfull
    | (intro h; omega)
theorem idx_ok {s : List UInt8} {k : Nat} {b : UInt8} (h : s[k]? = some b) (w : World) :
    (Instr.index 9 (.string ⟨s.toArray⟩) (.int .i64 (k : Int))).run Tryz.prog w = .ok (.int .u8 (b.toNat : Int)) w := by
  have hk : k < s.length := (List.getElem?_eq_some_iff.1 h).1
  have hs : (⟨s.toArray⟩ : ByteArray).size = s.length := by simp [ByteArray.size]
  rw [run_index_string w 9 _ .i64 _ Tryz.underlying9, dif_pos ⟨by omega, by rw [hs]; omega⟩]
  obtain ⟨_, h⟩ := List.getElem?_eq_some_iff.1 h
  congr 3
  simp only [← h]
  rfl
def fitA (s : SpecM) (n : Nat) : Bool := if 0 ≤ s.arity then decide ((n : Int) = s.arity) else decide (- s.arity ≤ (n : Int))
/-- Is that a request of the table? -/
def chkL : List (List UInt8) → Bool
  | [] => false
  | nm :: rest => match specOf (lowL nm) with
    | none => false
    | some s => fitA s (rest.length + 1)
theorem arity_low : ∀ s ∈ allL, -9223372036854775808 < s.arity ∧ s.arity ≤ 9223372036854775807 := by decide +kernel
theorem name_low : ∀ s ∈ allL, s.name.length ≤ 32 := by decide +kernel
theorem specOf_mem {x : List UInt8} {s : SpecM} (h : specOf x = some s) : s ∈ allL := List.mem_of_find?_eq_some h
def ShwRel (w : World) (g n : Nat) (i : Value) (wr : World) : Prop :=
  ∃ (k : Nat) (xs : List UInt8), k ≤ n ∧ i = .int .i64 (k : Int) ∧ xs.length = n ∧ Below w.heap.size w wr ∧ g < wr.heap.size ∧ (∀ j x, xs[j]? = some x → wr.cell? ⟨g, j, none⟩ = some (bv x)) ∧ (∀ j, j < n → wr.frozen? ⟨g, j, none⟩ = false)
set_option maxRecDepth 10000 in
set_option maxHeartbeats 2000000 in
theorem shown_ok (s : List UInt8) (w : World) : Calls Tryz.prog 97 #[txt s] w fun e w' => ∃ t : List UInt8, e = .returned (.string ⟨t.toArray⟩) ∧ t.length ≤ 32 ∧ Below w.heap.size w w' := by
  obtain ⟨m, hm⟩ : ∃ m : Nat, m = min s.length 32 := ⟨_, rfl⟩
  have hmi : ((m : Nat) : Int) = min (s.length : Int) 32 := by omega
  obtain ⟨u, hu⟩ : ∃ u, u = s.take m := ⟨_, rfl⟩
  have hul : u.length = m := by rw [hu, List.length_take]; omega
  have hcut : ∀ W, (Instr.slice 9 (.string ⟨s.toArray⟩) none (some (.int .i64 (min (s.length : Int) 32))) none).run Tryz.prog W = .ok (.string ⟨u.toArray⟩) W := fun W => by
    have := cut_run s none (some (.int .i64 (min (s.length : Int) 32))) 0 m (Nat.zero_le _) (by omega) (.inr ⟨rfl, rfl⟩) (.inl (by rw [hmi])) W
    rw [this, hu]
    simp
  have hsz : (⟨u.toArray⟩ : ByteArray).size = m := by rw [← hul]; simp [ByteArray.size]
  have hcv := Lib.run_convert_string_bytes (P := Tryz.prog) w 9 98 5 ⟨u.toArray⟩ Tryz.underlying9 Tryz.underlying98 Tryz.underlying5
  rw [hsz] at hcv
  have hat : ShwRel w w.heap.size m (.int .i64 0) (Lib.bytesWorld w 5 ⟨u.toArray⟩) := by
    refine ⟨0, u, Nat.zero_le _, rfl, hul, ⟨rfl, rfl, rfl, by rw [Lib.bytesWorld_size]; omega, fun b hb => Lib.bytesWorld_at_old w _ _ b hb⟩, by rw [Lib.bytesWorld_size]; omega, fun j x hj => ?_, fun j hj => ?_⟩
    · have hjl : j < u.length := (List.getElem?_eq_some_iff.1 hj).1
      rw [Lib.bytesWorld_cell w _ _ j (by rw [hsz]; omega)]
      simp only [List.getD_eq_getElem?_getD]
      rw [hj]; rfl
    · unfold World.frozen?
      rw [Lib.bytesWorld_at_new]
      have hbs : m ≤ (Lib.bytesCells w 5 ⟨u.toArray⟩).size := by simp [Lib.bytesCells]; omega
      simp
      omega
  generalize Lib.bytesWorld w 5 ⟨u.toArray⟩ = w1 at *
  generalize grownCap w m 0 5 = cap at *
  have hm32 : m ≤ 32 := by omega
  clear hmi hm hu hul hsz
  unfold txt
  go_enter Tryz.func97, Tryz.ntmps97
  go_wp2_with fail
  go_loopw [14] (fun i wr => ShwRel w w.heap.size m i wr) (fun i _ => m - (intOf i).toNat)
  case atStart => exact hat
  case round =>
    obtain ⟨k, xs, hk, rfl, hxl, hB, hl, hc, hf⟩ := hrel
    clear hat
    by_cases hkl : k < m
    · obtain ⟨x, hx⟩ : ∃ x, xs[k]? = some x := ⟨_, List.getElem?_eq_getElem (by omega)⟩
      have hcell : wr.cell? ⟨w.heap.size, k, none⟩ = some (.int .u8 x.toNat) := hc k x hx
      have hfr := hf k hkl
      have hkI : (0 : Int) ≤ k ∧ (k : Int) < m := by omega
      have D1 := Lib.hid (show ShwRel w w.heap.size m (.int .i64 ((k + 1 : Nat) : Int)) wr from ⟨k + 1, xs, hkl, rfl, hxl, hB, hl, hc, hf⟩)
      have D2 := Lib.hid (show ShwRel w w.heap.size m (.int .i64 ((k + 1 : Nat) : Int)) (wr.setCell ⟨w.heap.size, k, none⟩ (.int .u8 63)) from
        ⟨k + 1, xs.set k 63, hkl, rfl, by simpa using hxl, hB.setCell (Nat.le_refl _) _, by simpa using hl, fun j y hj => by
          rw [List.getElem?_set] at hj
          by_cases hjk : k = j
          · subst hjk
            rw [if_pos rfl, if_pos (by omega)] at hj
            cases hj
            exact World.cell?_setCell_same _ _ _ (hc k x hx)
          · rw [if_neg hjk] at hj
            rw [World.cell?_setCell_other _ _ _ _ (by intro e; injection e with _ e2 _; exact hjk e2)]
            exact hc j y hj, fun j hj => by rw [World.frozen?_setCell]; exact hf j hj⟩)
      clear hB hc hf hx
      rcases hq : decide ((x.toNat : Int) < 32) with _ | _
      · rcases hq2 : decide ((126 : Int) < x.toNat) with _ | _
        · go_wp2_with fail
          go_roundw
          case rel => exact D1.out
          case measure => simp [intOf]; omega
        · go_wp2_with fail
          go_roundw
          case rel => exact D2.out
          case measure => simp [intOf]; omega
      · go_wp2_with fail
        go_roundw
        case rel => exact D2.out
        case measure => simp [intOf]; omega
    · obtain rfl : k = m := by omega
      have hcv := run_bytes_text wr w.heap.size cap xs hc k hxl.symm
      have HB := Lib.hid hB
      clear hB hc hf
      go_wp2_with fail
      go_ret
      exact ⟨xs, rfl, by omega, HB.out⟩
set_option maxRecDepth 10000 in
set_option maxHeartbeats 4000000 in
theorem tcheck_no {A : Nat → Prop} {w : World} {v : Value} {args : List (List UInt8)} (h : Vw A w v 1 args.length (args.map txt)) (hn : ∀ x ∈ args, x.length ≤ 1099511627776) (hl : args.length ≤ 1099511627776) (hc : chkL args = false) :
    Calls Tryz.prog 61 #[v] w fun e w' => ∃ c t, e = .returned (.string ⟨(c :: t : List UInt8).toArray⟩) ∧ Below w.heap.size w w' := by
  cases args with
  | nil =>
    obtain ⟨a, cap, rfl, _⟩ := id h.slice
    clear h
    go_enter Tryz.func61, Tryz.ntmps61
    go_wp2_with fail
    go_ret
    exact ⟨_, _, rfl, Below.refl _ _⟩
  | cons nm rest =>
    have HF := Lib.hid (find_ok nm w (hn nm (by simp)))
    have hc : (match specOf (lowL nm) with | none => false | some s => fitA s (rest.length + 1)) = false := hc
    obtain ⟨⟨a, cap, rfl, h1, h2, h3⟩, h4⟩ := h
    rcases h3 with h3 | ⟨b, off, rfl, g2, g3, g4⟩
    · simp at h3
    have c0 : w.cell? ⟨b, off, none⟩ = some (.string ⟨nm.toArray⟩) := g4 0 (txt nm) rfl
    have hlb : b < w.heap.size := World.block_lt_of_cell? _ _ c0
    have hN : (nm :: rest).length = rest.length + 1 := rfl
    rw [hN] at hl ⊢
    have hn1 : 1 ≤ rest.length + 1 := by omega
    generalize rest.length + 1 = n at hl hn1 hc ⊢
    have e0 : ((n : Int) == 0) = false := beq_eq_false_iff_ne.2 (by omega)
    clear h4 g4 hN hn
    try clear h1
    try clear h2
    unfold FindDid at HF
    cases hs : specOf (lowL nm) with
    | none =>
      rw [hs] at HF
      simp only [Option.getD_none, Option.isSome_none] at HF
      unfold txt at HF
      have HSH := Lib.hid (shown_ok nm)
      unfold txt at HSH
      clear hs hc
      go_enter Tryz.func61, Tryz.ntmps61
      go_wp2_with fail
      refine HF.out.mono ?_; rintro e w2 ⟨rfl, hB⟩
      have hB3 := hB.alloc hB.size (.cells #[.string ⟨spec0.name.toArray⟩, .int .i64 spec0.arity, .bool spec0.write, .bool spec0.control, .int .i64 spec0.first, .int .i64 spec0.last, .int .i64 spec0.step] 147)
      have HB3 := Lib.hid hB3
      have c3 : (w2.alloc (.cells #[.string ⟨spec0.name.toArray⟩, .int .i64 spec0.arity, .bool spec0.write, .bool spec0.control, .int .i64 spec0.first, .int .i64 spec0.last, .int .i64 spec0.step] 147)).cell? ⟨b, off, none⟩ = some (.string ⟨nm.toArray⟩) := by rw [(bcell hB3).1 _ _ hlb]; exact c0
      clear hB hB3 HF
      go_wp2_with fail
      refine (HSH.out _).mono ?_; rintro e w4 ⟨t, rfl, ht, hB4⟩
      have hsz : (⟨t.toArray⟩ : ByteArray).size = t.length := by simp [ByteArray.size]
      have hba : (⟨#[69, 82, 82, 32, 117, 110, 107, 110, 111, 119, 110, 32, 99, 111, 109, 109, 97, 110, 100, 32]⟩ : ByteArray) ++ ⟨t.toArray⟩ = ⟨([69, 82, 82, 32, 117, 110, 107, 110, 111, 119, 110, 32, 99, 111, 109, 109, 97, 110, 100, 32] ++ t).toArray⟩ := rfl
      have HB4 := Lib.hid (HB3.out.trans (hB4.mono HB3.out.size))
      clear hB4 HB3 HSH c3
      go_wp2_with fail
      go_ret
      exact ⟨69, [82, 82, 32, 117, 110, 107, 110, 111, 119, 110, 32, 99, 111, 109, 109, 97, 110, 100, 32] ++ t, rfl, HB4.out⟩
    | some s =>
      rw [hs] at HF hc
      simp only [Option.getD_some, Option.isSome_some] at HF
      unfold txt at HF
      obtain ⟨hb1, hb2⟩ := arity_low s (specOf_mem hs)
      have hnl := name_low s (specOf_mem hs)
      obtain ⟨name, arity, write, control, first, last, step⟩ := s
      dsimp only at hb1 hb2 hnl
      have hsz : (⟨name.toArray⟩ : ByteArray).size = name.length := by simp [ByteArray.size]
      have hba : (⟨#[69, 82, 82, 32, 119, 114, 111, 110, 103, 32, 110, 117, 109, 98, 101, 114, 32, 111, 102, 32, 97, 114, 103, 117, 109, 101, 110, 116, 115, 58, 32]⟩ : ByteArray) ++ ⟨name.toArray⟩ = ⟨([69, 82, 82, 32, 119, 114, 111, 110, 103, 32, 110, 117, 109, 98, 101, 114, 32, 111, 102, 32, 97, 114, 103, 117, 109, 101, 110, 116, 115, 58, 32] ++ name).toArray⟩ := rfl
      unfold fitA at hc
      dsimp only at hc
      have ew : IntKind.i64.wrap (- arity) = - arity := by rw [IntKind.wrap_i64]; omega
      clear hs
      by_cases ha : 0 ≤ arity
      · rw [if_pos ha] at hc
        have hne := of_decide_eq_false hc
        have d1 : decide (0 ≤ arity) = true := decide_eq_true ha
        have d2 : ((n : Int) != arity) = true := by simpa using hne
        have d2b : ((n : Int) == arity) = false := by simpa using hne
        clear hc hne ha hb1 hb2
        go_enter Tryz.func61, Tryz.ntmps61
        go_wp2_with fail
        refine HF.out.mono ?_; rintro e w2 ⟨rfl, hB⟩
        have HB := Lib.hid hB
        clear hB HF
        go_wp2_with fail
        go_ret
        exact ⟨69, [82, 82, 32, 119, 114, 111, 110, 103, 32, 110, 117, 109, 98, 101, 114, 32, 111, 102, 32, 97, 114, 103, 117, 109, 101, 110, 116, 115, 58, 32] ++ name, rfl, HB.out.alloc HB.out.size _⟩
      · rw [if_neg ha] at hc
        have hne := of_decide_eq_false hc
        have d1 : decide (0 ≤ arity) = false := decide_eq_false ha
        have d3 : decide (arity < 0) = true := decide_eq_true (by omega)
        have d4 : decide ((n : Int) < - arity) = true := decide_eq_true (by omega)
        clear hc hne ha hb1 hb2
        go_enter Tryz.func61, Tryz.ntmps61
        go_wp2_with fail
        refine HF.out.mono ?_; rintro e w2 ⟨rfl, hB⟩
        have HB := Lib.hid hB
        clear hB HF
        go_wp2_with fail
        go_ret
        exact ⟨69, [82, 82, 32, 119, 114, 111, 110, 103, 32, 110, 117, 109, 98, 101, 114, 32, 111, 102, 32, 97, 114, 103, 117, 109, 101, 110, 116, 115, 58, 32] ++ name, rfl, HB.out.alloc HB.out.size _⟩
end Go.Proofs.YthojmgjgmbnopaaGreatDoor
