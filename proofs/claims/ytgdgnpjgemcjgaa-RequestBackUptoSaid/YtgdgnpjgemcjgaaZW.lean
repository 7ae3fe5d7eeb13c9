import Derived.Test.YtgdgnpjgemcjgaaZO
namespace Go.Proofs.Ytgdgnpjgemcjgaa
open Go Go.RowKit
def DigRel (N : Nat) (w : World) (nv sv : Value) (wr : World) : Prop :=
  ∃ (m : Nat) (acc : List UInt8), nv = .int .i64 (m : Int) ∧ sv = .string ⟨acc.toArray⟩ ∧ digitsL N = digitsL m ++ acc ∧ m ≤ N ∧ Below w.heap.size w wr
set_option maxRecDepth 10000 in
set_option maxHeartbeats 1000000 in
theorem rdigits_ok (n : Nat) (w : World) (hn : n ≤ 4398046511104) : Calls Try.prog 41 #[.int .i64 n] w fun e w' => e = .returned (.string ⟨(digitsL n).toArray⟩) ∧ Below w.heap.size w w' := by
  have hat : DigRel n w (.int .i64 n) (.string ⟨#[]⟩) w := ⟨n, [], rfl, rfl, by simp, Nat.le_refl _, Below.refl _ _⟩
  have hds := digits_short n hn
  go_enter Try.func41, Try.ntmps41
  go_wp2_with fail
  go_loopw [0, 3] (fun a b wr => DigRel n w a b wr) (fun a _ _ => (intOf a).toNat)
  case atStart => exact hat
  case round =>
    obtain ⟨m, acc, rfl, rfl, hd, hm, hB⟩ := hrel
    have hal : acc.length ≤ 13 := by have := congrArg List.length hd; rw [List.length_append] at this; omega
    have hasz : (⟨acc.toArray⟩ : ByteArray).size = acc.length := by simp [ByteArray.size]
    have HD := Lib.hid hd
    have HB := Lib.hid hB
    clear hat hd hB
    by_cases h10 : m < 10
    · have hi := digB_int m h10
      have hw : IntKind.u8.wrap (48 + (m : Int)) = 48 + (m : Int) := IntWalk.u8_in _ (by omega)
      have HC := fun W => conv_new W hi
      have e : digitsL m = [digB m] := by rw [digitsL, if_pos h10]
      have he := Lib.hid e
      have HB2 := Lib.hid (HB.out.alloc (by have := HB.out.size; exact this) (.cells #[.int .u8 (48 + (m : Int))] 5))
      have hgt : decide (9 < (m : Int)) = false := by simp; omega
      clear e
      go_wp2_with fail
      go_ret
      exact ⟨by rw [HD.out, he.out]; rfl, HB2.out⟩
    · have hi : ((digB (m % 10)).toNat : Int) = 48 + (m : Int) % 10 := by have := digB_int (m % 10) (by omega); omega
      have hw : IntKind.u8.wrap (48 + (m : Int) % 10) = 48 + (m : Int) % 10 := IntWalk.u8_in _ (by omega)
      have HC := fun W => conv_new W hi
      have e : digitsL m = digitsL (m / 10) ++ [digB (m % 10)] := by rw [digitsL, if_neg h10]
      have he := Lib.hid e
      have HB2 := Lib.hid (HB.out.alloc (by have := HB.out.size; exact this) (.cells #[.int .u8 (48 + (m : Int) % 10)] 5))
      have hgt : decide (9 < (m : Int)) = true := by simp; omega
      clear e
      go_wp2_with fail
      go_roundw
      case rel => exact ⟨m / 10, digB (m % 10) :: acc, by go_num, rfl, by rw [HD.out, he.out]; simp, by omega, HB2.out⟩
      case measure => simp [intOf]; omega

def RWriteRel (o : Roles) (w : World) (pre : List UInt8) (args : List (List UInt8)) (v i : Value) (wr : World) : Prop :=
  ∃ (k : Nat) (o' : Roles), k ≤ args.length ∧ i = .int .i64 (k : Int) ∧ Row o' wr [7] 5 1 v (pre ++ ((args.take k).map bulkW).flatten).length ((pre ++ ((args.take k).map bulkW).flatten).map bv) ∧ Stp [7] o w o' wr ∧ Below w.heap.size w wr
/-- A row of bytes and a text: the text written as the walk writes it. -/
theorem wpList_joinX {ops : Array Oper} {rest : List Oper} {o : Oper} {a : Act} {Q : Exit → Act → World → Prop} {ow : Roles} {w : World} {r : List Nat} (hgd : o.guard = none) (s x : Operand)
    (ho : o.op = .call { callee := .builtin .append, args := #[s, x], argTypes := #[62, 9] })
    {v : Value} {l : List UInt8} {X : ByteArray} (l2 : List UInt8) (hX : X = ⟨l2.toArray⟩) (hv : a.eval s = v) (hrow : Row ow w r 5 1 v l.length (l.map bv)) (hx : a.eval x = .string X)
    (hn : l.length + l2.length ≤ 4398046511104)
    (h : ∀ v' w' ow', Row ow' w' r 5 1 v' (l ++ l2).length ((l ++ l2).map bv) → Stp r ow w ow' w' → wpList Try.prog ops Q rest (a.put o.dst v') w') : wpList Try.prog ops Q (o :: rest) a w := by
  subst hX; exact wpList_joinS hgd s x ho hv hrow hx hn h

set_option maxRecDepth 10000 in
set_option maxHeartbeats 2000000 in
theorem rwrite_ok (args : List (List UInt8)) (v : Value) (w : World) (h : TextsIn w v args) (hn : (writeL args).length ≤ 2199023255552) (hl : args.length ≤ 1099511627776) :
    Calls Try.prog 21 #[v] w fun e w' => e = .returned (.string ⟨(writeL args).toArray⟩) ∧ Below w.heap.size w w' := by
  obtain ⟨a, cap, rfl, hc1, hc2, hcells⟩ := h
  have hds := digits_short args.length (by omega)
  have HD := Lib.hid (fun W => rdigits_ok args.length W (by omega))
  rw [writeL_eq] at hn ⊢
  have hflat : ∀ k, ((args.take k).map bulkW).flatten.length ≤ ((args.map bulkW).flatten).length := by
    intro k
    have := congrArg List.length (congrArg List.flatten (congrArg (List.map bulkW) (List.take_append_drop k args)))
    rw [List.map_append, List.flatten_append, List.length_append] at this
    omega
  simp only [List.length_append, List.length_cons, List.length_nil] at hn
  have hx : ∀ x, x ∈ args → x.length ≤ 2199023255552 ∧ (bulkW x).length ≤ 2199023255552 := by
    intro x hx
    have h1 : bulkW x ∈ args.map bulkW := List.mem_map.2 ⟨x, hx, rfl⟩
    have h2 := List.Sublist.length_le (List.sublist_flatten_of_mem h1)
    have h3 : x.length ≤ (bulkW x).length := by unfold bulkW; simp; omega
    exact ⟨by omega, by omega⟩
  have hfl := Lib.hid hflat
  have hxs := Lib.hid hx
  have hnn := Lib.hid hn
  clear hflat hx hn
  go_enter Try.func21, Try.ntmps21
  go_wp2_with fail
  refine (HD.out _).mono ?_; rintro e w1 ⟨rfl, hB1⟩
  have HR0 := Lib.hid (Row.nil none0 w1 [7] 5 1)
  have HS0 := Lib.hid (Stp.ofBelow [7] none0 hB1)
  have hs1 : ([] : List UInt8).length + ([42] ++ digitsL args.length ++ [13, 10]).length ≤ 4398046511104 := by simp; omega
  clear hB1 HD
  go_wp2_with (
    at_builtin
    refine wpList_joinX rfl _ _ rfl ([42] ++ digitsL args.length ++ [13, 10]) rfl rfl HR0.out rfl hs1 ?_
    intro v' w2 o2 hrow hst
    have hat : RWriteRel none0 w ([42] ++ digitsL args.length ++ [13, 10]) args v' (.int .i64 0) w2 :=
      ⟨0, o2, Nat.zero_le _, rfl, by simpa using hrow, HS0.out.trans hst, (HS0.out.trans hst).below0⟩
    clear hrow hst HR0)
  go_loopw [3, 4] (fun v i wr => RWriteRel none0 w ([42] ++ digitsL args.length ++ [13, 10]) args v i wr) (fun _ i _ => args.length - (intOf i).toNat)
  case atStart => exact hat
  case round =>
    obtain ⟨k, o', hk, rfl, hr, hst, hB⟩ := hrel
    clear hat
    have hfk := hfl.out k
    have hN := hnn.out
    have hll : (([42] ++ digitsL args.length ++ [13, 10]) ++ ((args.take k).map bulkW).flatten).length ≤ 2199023255552 := by simp only [List.length_append, List.length_cons, List.length_nil]; omega
    have HR := Lib.hid hr
    have HST := Lib.hid hst
    have HBB := Lib.hid hB
    clear hst hfk hN
    by_cases hkl : k < args.length
    · obtain ⟨x, hxk⟩ : ∃ x, args[k]? = some x := ⟨_, List.getElem?_eq_getElem hkl⟩
      rcases hcells with hnil | ⟨b, off, rfl, hbl, hcells⟩
      · subst hnil; exact absurd hkl (by simp)
      have hbl' : b < wr.heap.size := by have := hB.size; omega
      have hcell : wr.cell? ⟨b, off + k, none⟩ = some (.string ⟨x.toArray⟩) := by rw [hB.cell (p := ⟨b, off + k, none⟩) hbl]; exact hcells k x hxk
      have hxsz : (⟨x.toArray⟩ : ByteArray).size = x.length := by simp [ByteArray.size]
      obtain ⟨hxl, hbw⟩ := hxs.out x (List.mem_of_getElem? hxk)
      have hdx := digits_short x.length (by omega)
      have HDX := Lib.hid (fun W => rdigits_ok x.length W (by omega))
      have htk := Lib.hid (take_flat hxk)
      have hcc := Lib.hid (fun (W : World) (hW : Below w.heap.size w W) => (hW.cell (p := ⟨b, off + k, none⟩) hbl).trans (hcells k x hxk))
      clear hxk hcells hB hr
      have hkI : (0 : Int) ≤ k ∧ (k : Int) < args.length := by omega
      obtain ⟨hk0, hk1⟩ := hkI
      go_wp2_with fail
      refine (HDX.out _).mono ?_; rintro e w3 ⟨rfl, hB3⟩
      have HR3 := Lib.hid (HR.out.below hB3)
      have HST3 := Lib.hid (HST.out.trans (Stp.ofBelow [7] o' hB3))
      have hs3 : (([42] ++ digitsL args.length ++ [13, 10]) ++ ((args.take k).map bulkW).flatten).length + ([36] ++ digitsL x.length ++ [13, 10]).length ≤ 4398046511104 := by
        have : ([36] ++ digitsL x.length ++ [13, 10]).length = (digitsL x.length).length + 3 := by simp
        omega
      clear hB3 HR HST
      have hs4 : ((([42] ++ digitsL args.length ++ [13, 10]) ++ ((args.take k).map bulkW).flatten) ++ ([36] ++ digitsL x.length ++ [13, 10])).length + x.length ≤ 4398046511104 := by
        rw [List.length_append]
        have : ([36] ++ digitsL x.length ++ [13, 10]).length = (digitsL x.length).length + 3 := by simp
        have h2 : (bulkW x).length = (digitsL x.length).length + 3 + x.length + 2 := by unfold bulkW; simp; omega
        omega
      have hs5 : (((([42] ++ digitsL args.length ++ [13, 10]) ++ ((args.take k).map bulkW).flatten) ++ ([36] ++ digitsL x.length ++ [13, 10])) ++ x).length + [(13 : UInt8), 10].length ≤ 4398046511104 := by
        rw [List.length_append, List.length_append]
        have : ([36] ++ digitsL x.length ++ [13, 10]).length = (digitsL x.length).length + 3 := by simp
        have h2 : (bulkW x).length = (digitsL x.length).length + 3 + x.length + 2 := by unfold bulkW; simp; omega
        simp only [List.length_cons, List.length_nil]
        omega
      go_wp2_with (first
        | (at_builtin
           refine wpList_joinX rfl (.tmp 18) _ rfl ([36] ++ digitsL x.length ++ [13, 10]) rfl rfl HR3.out rfl hs3 ?_
           intro v4 w4 o4 hrow4 hst4
           have HR4 := Lib.hid hrow4
           have HST4 := Lib.hid (HST3.out.trans hst4)
           have hcell4 := hcc.out w4 HST4.out.below0
           clear hrow4 hst4)
        | (at_builtin
           refine wpList_joinX rfl (.tmp 28) _ rfl x rfl rfl HR4.out rfl hs4 ?_
           intro v5 w5 o5 hrow5 hst5
           have HR5 := Lib.hid hrow5
           have HST5 := Lib.hid (HST4.out.trans hst5)
           clear hrow5 hst5)
        | (at_builtin
           refine wpList_joinX rfl (.tmp 34) _ rfl [13, 10] rfl rfl HR5.out rfl hs5 ?_
           intro v6 w6 o6 hrow6 hst6
           have HR6 := Lib.hid hrow6
           have HST6 := Lib.hid (HST5.out.trans hst6)
           clear hrow6 hst6))
      go_roundw
      case rel =>
        refine ⟨k + 1, o6, by omega, by go_num, ?_, HST6.out, HST6.out.below0⟩
        have h6 := HR6.out
        rw [show (((([42] ++ digitsL args.length ++ [13, 10]) ++ ((args.take k).map bulkW).flatten) ++ ([36] ++ digitsL x.length ++ [13, 10])) ++ x) ++ [(13 : UInt8), 10] = ([42] ++ digitsL args.length ++ [13, 10]) ++ ((args.take (k + 1)).map bulkW).flatten from by rw [htk.out]; simp [bulkW]] at h6
        exact h6
      case measure => simp [intOf]; omega
    · have hke : k = args.length := by omega
      rw [List.take_of_length_le (by omega)] at hr
      have ht := row_text hr
      have HE := Lib.hid HBB.out
      clear hcells hB hke hr HR
      go_wp2_with fail
      go_ret
      exact ⟨by simp, HE.out⟩
end Go.Proofs.Ytgdgnpjgemcjgaa
