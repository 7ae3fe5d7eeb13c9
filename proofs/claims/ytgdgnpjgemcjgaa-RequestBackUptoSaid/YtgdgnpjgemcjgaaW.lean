import Derived.Test.YtgdgnpjgemcjgaaV
namespace Go.Proofs.Ytgdgnpjgemcjgaa
open Go Go.RowKit
/-- A list of texts that can be read, wherever it lies. -/
def TextsIn (w : World) (v : Value) (ws : List (List UInt8)) : Prop :=
  ∃ a cap, v = .slice a ws.length cap ∧ ws.length ≤ cap ∧ cap ≤ maxLen ∧ (ws = [] ∨ ∃ b off, a = some ⟨b, off, none⟩ ∧ b < w.heap.size ∧ ∀ (k : Nat) x, ws[k]? = some x → w.cell? ⟨b, off + k, none⟩ = some (.string ⟨x.toArray⟩))
theorem TextsIn.below {w w' : World} {v : Value} {ws : List (List UInt8)} (h : TextsIn w v ws) (hB : Below w.heap.size w w') : TextsIn w' v ws := by
  obtain ⟨a, cap, h1, h2, h3, h4⟩ := h
  refine ⟨a, cap, h1, h2, h3, ?_⟩
  rcases h4 with h4 | ⟨b, off, h5, h6, h7⟩
  · exact .inl h4
  · exact .inr ⟨b, off, h5, by have := hB.size; omega, fun k x hk => by rw [hB.cell (p := ⟨b, off + k, none⟩) h6]; exact h7 k x hk⟩
theorem Row.textsIn {o : Roles} {w : World} {r : List Nat} {v : Value} {ws : List (List UInt8)} (h : Texts o w r v ws) : TextsIn w v ws := by
  obtain ⟨a, cap, h1, h2, h3, h4⟩ := texts_cells h
  refine ⟨a, cap, h1, h2, h3, ?_⟩
  rcases h4 with h4 | ⟨g, h5, h6, h7⟩
  · exact .inl h4
  · refine .inr ⟨g, 0, h5, Row.lt h g ?_, fun k x hk => by rw [Nat.zero_add]; exact h7 k x hk⟩
    rw [h1, h5]; simp [Value.ownBlock]
theorem writeS_at {o : Roles} {w : World} {r : List Nat} {p : Nat} {l : List UInt8} {av v : Value} (h : Bld o w r p l av v) (x : ByteArray) (s : List UInt8) (hx : x = ⟨s.toArray⟩) (hs : l.length + s.length ≤ 4398046511104) :
    Calls Try.prog 38 #[.pointer (some ⟨p, 0, none⟩), .string x] w (BldDid o w r p l s) := by
  subst hx; exact writeS_ok h s hs
def WriteRel (o : Roles) (w : World) (r : List Nat) (p : Nat) (pre : List UInt8) (args : List (List UInt8)) (i : Value) (wr : World) : Prop :=
  ∃ (k : Nat) (av v : Value) (o' : Roles), k ≤ args.length ∧ i = .int .i64 (k : Int) ∧ Bld o' wr r p (pre ++ ((args.take k).map bulkW).flatten) av v ∧ Stp r o w o' wr ∧ Below w.heap.size w wr
theorem below_of_stp {a : Nat} {t : List Nat} {o' : Roles} {w w' : World} (h : Stp (a :: t) none0 w o' w') : Below w.heap.size w w' := h.below0

set_option maxRecDepth 10000 in
set_option maxHeartbeats 2000000 in
theorem write_ok (args : List (List UInt8)) (v : Value) (w : World) (h : TextsIn w v args) (hn : (writeL args).length ≤ 2199023255552) (hl : args.length ≤ 1099511627776) :
    Calls Try.prog 20 #[v] w fun e w' => e = .returned (.string ⟨(writeL args).toArray⟩) ∧ Below w.heap.size w w' := by
  obtain ⟨a, cap, rfl, hc1, hc2, hcells⟩ := h
  have hb0 : Bld (none0.put w.heap.size ([7] ++ [0])) (w.alloc (.cells #[.pointer none, .slice none 0 0] 67)) [7] w.heap.size [] (.pointer none) (.slice none 0 0) :=
    ⟨Blk.new none0 w ([7] ++ [0]) _ 67 _ rfl, .inl rfl, Row.nil _ _ _ _ _⟩
  have hst0 := (Stp.refl [7] none0 w).alloc (r' := [7] ++ [0]) (.cells #[.pointer none, .slice none 0 0] 67) w.heap.size rfl
  have HB0 := Lib.hid hb0
  have HS0 := Lib.hid hst0
  have hds := digits_short args.length (by omega)
  have HD := Lib.hid (fun W => digits_at args.length W (by omega))
  rw [writeL_eq] at hn ⊢
  have hflat : ∀ k, ((args.take k).map bulkW).flatten.length ≤ ((args.map bulkW).flatten).length := by
    intro k
    have := congrArg List.length (congrArg List.flatten (congrArg (List.map bulkW) (List.take_append_drop k args)))
    rw [List.map_append, List.flatten_append, List.length_append] at this
    omega
  simp only [List.length_append, List.length_cons, List.length_nil] at hn
  have hx : ∀ x, x ∈ args → x.length ≤ 2199023255552 ∧ (bulkW x).length ≤ 2199023255552 := by
    intro x hx
    have h1 : bulkW x ∈ args.map bulkW := List.mem_map.2 ⟨x, hx, rfl⟩
    have h2 := List.Sublist.length_le (List.sublist_flatten_of_mem h1)
    have h3 : x.length ≤ (bulkW x).length := by unfold bulkW; simp; omega
    exact ⟨by omega, by omega⟩
  have hfl := Lib.hid hflat
  have hxs := Lib.hid hx
  have hnn := Lib.hid hn
  clear hb0 hst0 hflat hx hn
  go_enter Try.func20, Try.ntmps20
  go_wp2_with fail
  refine (HD.out _).mono ?_; rintro e w1 ⟨rfl, hB1⟩
  have hb1 : Bld (none0.put w.heap.size ([7] ++ [0])) w1 [7] w.heap.size [] (.pointer none) (.slice none 0 0) := ⟨HB0.out.blk.below hB1, HB0.out.addr, HB0.out.row.below hB1⟩
  have hst1 := HS0.out.trans (Stp.ofBelow [7] _ hB1)
  have HW := writeS_at hb1 _ ([42] ++ digitsL args.length ++ [13, 10]) rfl (by simp; omega)
  have HS1 := Lib.hid hst1
  clear hB1 hb1 hst1 HD
  go_wp2_with fail
  refine HW.mono ?_; rintro e w2 ⟨av, bvv, o2, rfl, hb2, st2⟩
  rw [List.nil_append] at hb2
  have hat : WriteRel none0 w [7] w.heap.size ([42] ++ digitsL args.length ++ [13, 10]) args (.int .i64 0) w2 :=
    ⟨0, av, bvv, o2, Nat.zero_le _, rfl, by simpa using hb2, HS1.out.trans st2, (HS1.out.trans st2).below0⟩
  clear hb2 st2 HW HS1
  go_wp2_with fail
  go_loopw [14] (fun i wr => WriteRel none0 w [7] w.heap.size ([42] ++ digitsL args.length ++ [13, 10]) args i wr) (fun i _ => args.length - (intOf i).toNat)
  case atStart => exact hat
  case round =>
    obtain ⟨k, av, bvv, o', hk, rfl, hb, hst, hB⟩ := hrel
    clear hat
    have hfk := hfl.out k
    have hN := hnn.out
    have hll : (([42] ++ digitsL args.length ++ [13, 10]) ++ ((args.take k).map bulkW).flatten).length ≤ 2199023255552 := by simp only [List.length_append, List.length_cons, List.length_nil]; omega
    have HBD := Lib.hid hb
    have HST := Lib.hid hst
    have HBB := Lib.hid hB
    clear hb hst hfk hN
    by_cases hkl : k < args.length
    · obtain ⟨x, hxk⟩ : ∃ x, args[k]? = some x := ⟨_, List.getElem?_eq_getElem hkl⟩
      rcases hcells with hnil | ⟨b, off, rfl, hbl, hcells⟩
      · subst hnil; exact absurd hkl (by simp)
      have hcell : wr.cell? ⟨b, off + k, none⟩ = some (.string ⟨x.toArray⟩) := by rw [hB.cell (p := ⟨b, off + k, none⟩) hbl]; exact hcells k x hxk
      have hxsz : (⟨x.toArray⟩ : ByteArray).size = x.length := by simp [ByteArray.size]
      obtain ⟨hxl, hbw⟩ := hxs.out x (List.mem_of_getElem? hxk)
      have hdx := digits_short x.length (by omega)
      have HDX := Lib.hid (fun W => digits_at x.length W (by omega))
      have htk := Lib.hid (take_flat hxk)
      have hcc := Lib.hid hcells
      clear hxk hcells hB
      go_wp2_with fail
      refine (HDX.out _).mono ?_; rintro e w3 ⟨rfl, hB3⟩
      have hb3 : Bld o' w3 [7] w.heap.size _ av bvv := ⟨HBD.out.blk.below hB3, HBD.out.addr, HBD.out.row.below hB3⟩
      have HST3 := Lib.hid (HST.out.trans (Stp.ofBelow [7] o' hB3))
      have HW := writeS_at hb3 _ (bulkW x) rfl (by omega)
      clear hB3 hb3 HBD HST
      go_wp2_with fail
      refine HW.mono ?_; rintro e w4 ⟨av2, bv2, o4, rfl, hb4, st4⟩
      rw [List.append_assoc, ← htk.out] at hb4
      have HB4 := Lib.hid hb4
      have HS4 := Lib.hid (HST3.out.trans st4)
      clear hb4 st4 HW HST3
      go_wp2_with fail
      go_roundw
      case rel => exact ⟨k + 1, av2, bv2, o4, by omega, by go_num, HB4.out, HS4.out, HS4.out.below0⟩
      case measure => simp [intOf]; omega
    · have hke : k = args.length := by omega
      have hbs := bstring_ok HBD.out (by simp) (by omega)
      rw [List.take_of_length_le (by omega)] at hbs
      have HBS := Lib.hid hbs
      clear hcells hB hbs hke
      go_wp2_with fail
      refine HBS.out.mono ?_; rintro e w3 ⟨rfl, st3⟩
      have HE := Lib.hid ((HST.out.trans st3).below0)
      clear st3 HBS HST HBD HBB
      go_wp2_with fail
      go_ret
      exact ⟨by simp, HE.out⟩
end Go.Proofs.Ytgdgnpjgemcjgaa
