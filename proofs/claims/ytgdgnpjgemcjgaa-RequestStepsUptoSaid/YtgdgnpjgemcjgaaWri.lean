import Derived.Test.YtgdgnpjgemcjgaaZW
namespace Go.Proofs.Ytgdgnpjgemcjgaa
open Go Go.RowKit
theorem TextsIn.src {w : World} {v : Value} {ws : List (List UInt8)} (h : TextsIn w v ws) : Src Try.prog 1 33 v ws.length (ws.map txt) w := by
  obtain ⟨a, cap, rfl, h1, h2, h3⟩ := h
  rcases h3 with rfl | ⟨b, off, rfl, hb, hc⟩
  · cases a with
    | none => exact Src.ofNil _ Try.underlying33 cap
    | some a => exact Src.ofSlice _ Try.underlying33 _ _ _ _ rfl (fun j u hj => by simp at hj) (fun u hu => by simp at hu)
  · refine Src.ofSlice _ Try.underlying33 _ _ _ _ (by simp) (fun j u hj => ?_) (fun u hu => by obtain ⟨x, _, rfl⟩ := List.mem_map.1 hu; rfl)
    rw [add_of rfl]
    rw [List.getElem?_map, Option.map_eq_some_iff] at hj
    obtain ⟨x, hx, rfl⟩ := hj
    exact hc j x hx
theorem wpList_appT {ops : Array Oper} {rest : List Oper} {o : Oper} {a : Act} {Q : Exit → Act → World → Prop} {ow : Roles} {w : World} {r : List Nat} (hgd : o.guard = none) (s x : Operand)
    (ho : o.op = .call { callee := .builtin .append, args := #[s, x], argTypes := #[33, 33] })
    {v u : Value} {l l2 : List (List UInt8)} (hv : a.eval s = v) (hrow : Texts ow w r v l) (hx : a.eval x = u) (hu : TextsIn w u l2) (hn : l.length + l2.length ≤ 1099511627776)
    (h : ∀ v' w' ow', Texts ow' w' r v' (l ++ l2) → Stp r ow w ow' w' → wpList Try.prog ops Q rest (a.put o.dst v') w') : wpList Try.prog ops Q (o :: rest) a w := by
  obtain ⟨i0, hi0, hz0, hz1, hz2⟩ := info_parts infoStr
  refine wpList_app w hgd s x 33 33 ho 9 i0 (.string ⟨#[]⟩) 1 16 Try.underlying33 hi0 hz0 hz1 hz2 rfl hv hrow hx hu.src (by unfold maxLen; omega) (by omega) ?_
  intro v' w' o' hr hs
  refine h v' w' o' ?_ hs
  simpa [Texts] using hr
theorem bulkW_len (x : List UInt8) (h : x.length ≤ 4398046511104) : (bulkW x).length ≤ x.length + 18 := by
  have := digits_short x.length h
  unfold bulkW; simp; omega
theorem writeL_len (ws : List (List UInt8)) (h : bulkS ws ≤ 1048576) : (writeL ws).length ≤ 19 * bulkS ws + 16 := by
  rw [writeL_eq]
  have h0 := len_le_bulkS ws
  have hd := digits_short ws.length (by omega)
  have hf : ((ws.map bulkW).flatten).length ≤ 19 * bulkS ws := by
    clear hd h0
    induction ws with
    | nil => simp
    | cons x t ih =>
      have hc : bulkS (x :: t) = x.length + 1 + bulkS t := by simp [bulkS]
      have := ih (by omega)
      have h2 := bulkW_len x (by omega)
      simp only [List.map_cons, List.flatten_cons, List.length_append]
      omega
  simp only [List.length_append, List.length_cons, List.length_nil]
  omega
set_option maxHeartbeats 1000000 in
theorem writes_law (w : World) (ws : List (List UInt8)) (v : Value) (hT : TextsIn w v ws) (hb : bulkS ws ≤ 1048576) : Calls Try.prog 5 #[v] w fun e w' => e = .returned (.bool true) ∧ Below w.heap.size w w' := by
  have h0 := len_le_bulkS ws
  have hwl := writeL_len ws hb
  have HT := Lib.hid hT
  have HR0 := Lib.hid (Row.nil none0 w [7] 9 1)
  have hl0 : ([] : List (List UInt8)).length + ws.length ≤ 1099511627776 := by simp; omega
  clear hT
  go_enter Try.func5, Try.ntmps5
  go_wp2_with (
    at_builtin
    refine wpList_appT rfl _ _ rfl rfl HR0.out rfl HT.out hl0 ?_
    intro v1 w1 o1 hrow hst
    rw [List.nil_append] at hrow
    have HT1 := Lib.hid hrow.textsIn
    have HB1 := Lib.hid hst.below0
    clear hrow hst)
  refine (write_ok ws v1 w1 HT1.out (by omega) (by omega)).mono ?_; rintro e w2 ⟨rfl, hB⟩
  have HT2 := Lib.hid (HT1.out.below hB)
  have HB2 := Lib.hid (HB1.out.trans (hB.mono HB1.out.size))
  clear hB
  go_wp2_with fail
  refine (rwrite_ok ws v w2 (HT.out.below HB2.out) (by omega) (by omega)).mono ?_; rintro e w3 ⟨rfl, hB⟩
  have HT3 := Lib.hid (HT2.out.below hB)
  have HB3 := Lib.hid (HB2.out.trans (hB.mono HB2.out.size))
  clear hB
  have hsz : (⟨(writeL ws).toArray⟩ : ByteArray).size = (writeL ws).length := by simp [ByteArray.size]
  go_wp2_with fail
  refine (same_same HT3.out (HT.out.below HB3.out) (by omega)).mono ?_; rintro e w4 ⟨rfl, k, rfl⟩
  go_wp2_with fail
  refine (sure_ok _).mono ?_; rintro e w5 ⟨rfl, hB⟩
  go_wp2_with fail
  go_ret
  exact ⟨rfl, (below_drewN HB3.out k).trans (hB.mono (by have := HB3.out.size; simpa using this))⟩
end Go.Proofs.Ytgdgnpjgemcjgaa
