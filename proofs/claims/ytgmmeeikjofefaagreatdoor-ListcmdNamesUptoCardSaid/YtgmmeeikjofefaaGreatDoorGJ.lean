import Derived.Test.YtgmmeeikjofefaaGreatDoorGG
import Derived.Lib.LaidTab
import Derived.Lib.ItoaNum
import Derived.Test.YtgmmeeikjofefaaGreatDoorGI
import Derived.Test.YtgmmeeikjofefaaGreatDoorGC
import Derived.Test.YtgmmeeikjofefaaGreatDoorGH
import Derived.Test.YtgmmeeikjofefaaGreatDoorGF
import Derived.Lib.SmallJoins
namespace Go.Proofs.YtgmmeeikjofefaaGreatDoor
open Go Go.RowKit
/-! The tables of the library. -/
abbrev noEv (ev : Value) : Prop := ev = .nilIface ∨ ∃ te pe, ev = .iface te pe
/-- What the library's variables hold. -/
structure Tbl (w : World) : Prop where
  pow : Lib.TabIs Tryz.prog w "internal/strconv.uint64pow10" .u64 Lib.pow10Tab
  es : ∃ ev, w.cell? ⟨1, 0, none⟩ = some ev ∧ noEv ev
  er : ∃ ev, w.cell? ⟨2, 0, none⟩ = some ev ∧ noEv ev
theorem Tbl.stay {w w' : World} (h : Tbl w) (hb : ∀ b, b < w.heap.size → b < 16 → w'.heap[b]? = w.heap[b]?) : Tbl w' := by
  obtain ⟨h1, ⟨e1, h2, h2'⟩, ⟨e2, h3, h3'⟩⟩ := h
  have hg : Tryz.prog.globalNamed "internal/strconv.uint64pow10" = some 3 := by kernel_rfl
  have l2 : 1 < w.heap.size := World.block_lt_of_cell? _ _ h2
  have l3 : 2 < w.heap.size := World.block_lt_of_cell? _ _ h3
  refine ⟨?_, ⟨e1, ?_, h2'⟩, ⟨e2, ?_, h3'⟩⟩
  · unfold Lib.TabIs World.var? at *
    simp only [hg, Option.bind_some] at *
    have l1 : 3 < w.heap.size := by
      rcases Nat.lt_or_ge 3 w.heap.size with h | h
      · exact h
      · rw [Array.getElem?_eq_none h] at h1; cases h1
    rw [hb _ l1 (by decide)]; exact h1
  · unfold World.cell? at *; simp only [hb _ l2 (by decide)]; exact h2
  · unfold World.cell? at *; simp only [hb _ l3 (by decide)]; exact h3
theorem Tbl.below {w w' : World} (h : Tbl w) (hB : Below w.heap.size w w') : Tbl w' := h.stay (fun b hb _ => hB.block b hb)
/-- The tables lie in blocks that no step of a role touches. -/
structure TR (o : Roles) (w : World) : Prop where
  tbl : Tbl w
  role : ∀ b, b < w.heap.size → b < 16 → o b = []
theorem TR.keep {o o' : Roles} {w w' : World} {r : List Nat} (h : TR o w) (st : Stp r o w o' w') (hr : r ≠ []) (h16 : 16 ≤ w.heap.size) : TR o' w' :=
  ⟨h.tbl.stay (fun b hb h16 => st.block b hb (by rw [h.role b hb h16]; intro hp; exact hr (List.prefix_nil.1 hp))), fun b _ hb => by rw [st.old b (by omega)]; exact h.role b (by omega) hb⟩
end Go.Proofs.YtgmmeeikjofefaaGreatDoor
namespace Go.Proofs.YtgmmeeikjofefaaGreatDoor
open Go Go.RowKit
/-! num.Parse, two. -/
theorem bytes_below {w w' : World} {t : TypeId} (h : w' = w ∨ ∃ s, w' = Lib.bytesWorld w t s) : Below w.heap.size w w' := by
  rcases h with rfl | ⟨s, rfl⟩
  · exact Below.refl _ _
  · exact ⟨rfl, rfl, rfl, by rw [Lib.bytesWorld_size]; omega, fun b hb => Lib.bytesWorld_at_old w _ _ b hb⟩
theorem grow_below {w w' : World} (h : ∃ k os, w' = Sort.grow (w.drewN k) os) : Below w.heap.size w w' := by
  obtain ⟨k, os, rfl⟩ := h
  exact ⟨rfl, rfl, rfl, by simp [Sort.grow], fun b hb => Sort.heap_grow_old _ _ hb⟩
/-- The number that a text is the one text of. -/
def parseN (s : List UInt8) : Option Int := match Lib.parseIntB 64 s with
  | .ok v => if Lib.itoa v = s then some v else none
  | _ => none
def ParseDid (w : World) (r : Option Int) (e : Ending) (w' : World) : Prop := e = .returned (.tuple #[.int .i64 (r.getD 0), .int .i64 (if r.isSome then 0 else 10)]) ∧ Below w.heap.size w w'
theorem parse64_range {s : List UInt8} {v : Int} (h : Lib.parseIntB 64 s = .ok v) : -9223372036854775808 ≤ v ∧ v ≤ 9223372036854775807 := by
  unfold Lib.parseIntB at h
  split at h
  · cases h
  · dsimp only at h
    split at h
    · cases h
    · cases h
    · split at h
      · cases h
      · split at h
        · cases h
        · cases h
          rename_i u _ h1 h2
          have h3 : (2 : Nat) ^ (64 - 1) = 9223372036854775808 := by decide
          rw [h3] at h1 h2
          split <;> rename_i h4
          · simp only [h4, true_and] at h2; omega
          · simp only [h4, not_false_iff, true_and] at h1; omega
set_option maxRecDepth 10000 in
set_option maxHeartbeats 1000000 in
theorem parse_ok {w : World} (hT : Tbl w) (s : List UInt8) (hs : s.length ≤ 1099511627776) : Calls Tryz.prog 68 #[txt s] w (ParseDid w (parseN s)) := by
  have hsz : (⟨s.toArray⟩ : ByteArray).size = s.length := by simp [ByteArray.size]
  obtain ⟨ev1, hv1, hn1⟩ := hT.es
  obtain ⟨ev2, hv2, hn2⟩ := hT.er
  rcases hp : Lib.parseIntB 64 s with v | _ | _
  · skip
    obtain ⟨hr1, hr2⟩ := parse64_range hp
    have HP := Lib.hid (Tryz.strconv_ParseInt_10_at64_ok ⟨s.toArray⟩ (by rw [hsz]; omega) v hp w)
    have HF := Lib.hid (fun (W : World) (hB : Below w.heap.size w W) => Tryz.strconv_FormatInt_10 v hr1 hr2 W (hT.below hB).pow)
    have hpn : parseN s = if Lib.itoa v = s then some v else none := by unfold parseN; rw [hp]
    by_cases he : Lib.itoa v = s
    · rw [if_pos he] at hpn
      rw [hpn]
      have hne : (Lib.itoa v == s) = true := by simp [he]
      clear hpn hp hT hv1 hv2 hn1 hn2 hsz he
      unfold txt
      go_enter Tryz.func68, Tryz.ntmps68
      go_wp2_with fail
      refine HP.out.mono ?_; rintro e w1 ⟨rfl, hw⟩
      have hB1 := bytes_below hw
      go_wp2_with fail
      refine (HF.out w1 hB1).mono ?_; rintro e w2 ⟨rfl, hw2⟩
      have HB := Lib.hid (hB1.trans ((grow_below hw2).mono hB1.size))
      clear hw hB1 hw2 HP HF
      go_wp2_with fail
      go_ret2
      exact ⟨rfl, HB.out⟩
    · rw [if_neg he] at hpn
      rw [hpn]
      have hne : (Lib.itoa v == s) = false := by simp [he]
      clear hpn hp hT hv1 hv2 hn1 hn2 hsz he
      unfold txt
      go_enter Tryz.func68, Tryz.ntmps68
      go_wp2_with fail
      refine HP.out.mono ?_; rintro e w1 ⟨rfl, hw⟩
      have hB1 := bytes_below hw
      go_wp2_with fail
      refine (HF.out w1 hB1).mono ?_; rintro e w2 ⟨rfl, hw2⟩
      have HB := Lib.hid (hB1.trans ((grow_below hw2).mono hB1.size))
      clear hw hB1 hw2 HP HF
      go_wp2_with fail
      go_ret2
      exact ⟨rfl, HB.out⟩
  · skip
    have HP := Lib.hid (Tryz.strconv_ParseInt_10_at64_syntax ⟨s.toArray⟩ (by rw [hsz]; omega) hp ev1 w hv1 hn1)
    have hpn : parseN s = none := by unfold parseN; rw [hp]
    rw [hpn]
    clear hpn hp hT hv1 hv2 hn1 hn2 hsz
    unfold txt
    go_enter Tryz.func68, Tryz.ntmps68
    go_wp2_with fail
    refine HP.out.mono ?_; rintro e w1 ⟨N, rfl, _, _, hB1⟩
    have HB := Lib.hid hB1
    clear hB1 HP
    go_wp2_with fail
    go_ret2
    exact ⟨rfl, HB.out⟩
  · skip
    have HP := Lib.hid (Tryz.strconv_ParseInt_10_at64_range ⟨s.toArray⟩ (by rw [hsz]; omega) hp ev2 w hv2 hn2)
    have hpn : parseN s = none := by unfold parseN; rw [hp]
    rw [hpn]
    clear hpn hp hT hv1 hv2 hn1 hn2 hsz
    unfold txt
    generalize Lib.intSat 64 _ = iv at HP
    go_enter Tryz.func68, Tryz.ntmps68
    go_wp2_with fail
    refine HP.out.mono ?_; rintro e w1 ⟨N, rfl, _, _, hB1⟩
    have HB := Lib.hid hB1
    clear hB1 HP
    go_wp2_with fail
    go_ret2
    exact ⟨rfl, HB.out⟩
def TwoDid (w : World) (a b : Option Int) (e : Ending) (w' : World) : Prop := e = .returned (.tuple #[.int .i64 (a.getD 0), .int .i64 (b.getD 0), .bool (a.isSome && b.isSome)]) ∧ Below w.heap.size w w'
set_option maxRecDepth 10000 in
set_option maxHeartbeats 1000000 in
theorem two_ok {w : World} (hT : Tbl w) (x y : List UInt8) (hx : x.length ≤ 1099511627776) (hy : y.length ≤ 1099511627776) : Calls Tryz.prog 76 #[txt x, txt y] w (TwoDid w (parseN x) (parseN y)) := by
  have HX := Lib.hid (parse_ok hT x hx)
  have HY := Lib.hid (fun (W : World) (hB : Below w.heap.size w W) => parse_ok (hT.below hB) y hy)
  clear hT
  generalize parseN x = a at *
  generalize parseN y = b at *
  unfold txt at *
  unfold ParseDid at *
  rcases a with _ | a <;> rcases b with _ | b <;> simp only [Option.isSome_none, Option.isSome_some, if_true, Bool.false_eq_true, if_false] at HX HY <;> (
    go_enter Tryz.func76, Tryz.ntmps76
    go_wp2_with fail
    refine HX.out.mono ?_; rintro e w1 ⟨rfl, hB1⟩
    go_wp2_with fail
    refine (HY.out w1 hB1).mono ?_; rintro e w2 ⟨rfl, hB2⟩
    have HB := Lib.hid (hB1.trans (hB2.mono hB1.size))
    clear hB1 hB2 HX HY
    go_wp2_with fail
    go_ret3
    exact ⟨rfl, HB.out⟩)
end Go.Proofs.YtgmmeeikjofefaaGreatDoor
namespace Go.Proofs.YtgmmeeikjofefaaGreatDoor
open Go Go.RowKit
/-! Plain laws: a whole piece; the ends of a list; a list that is turned. -/
theorem piece_all (l : List (List UInt8)) : pieceL l 0 (-1) = l := by
  unfold pieceL
  by_cases h : l.length = 0
  · obtain rfl := List.length_eq_zero_iff.1 h
    simp
  · have hq : ¬ hiE l.length (-1) < loE l.length 0 := by unfold hiE loE; simp; omega
    rw [endsL_good hq]
    have h1 : loE l.length 0 = 0 := loE_pos (by omega)
    have h2 : hiE l.length (-1) = (l.length : Int) - 1 := by rw [hiE_neg (by omega)]; omega
    dsimp only
    rw [h1, h2]
    have h3 : ((l.length : Int) - 1 + 1).toNat - (0 : Int).toNat = l.length := by simp
    rw [h3]
    simp
theorem parse_0 : parseN [48] = some 0 := by decide +kernel
theorem parse_1 : parseN [49] = some 1 := by decide +kernel
theorem parse_m1 : parseN [45, 49] = some (-1) := by decide +kernel
theorem parse_m2 : parseN [45, 50] = some (-2) := by decide +kernel
/-- An end of a list, and the rest. -/
theorem ends_of (left : Bool) {l : List (List UInt8)} (h : l ≠ []) : ∃ x t, l = endL left x t ∧ l[if left then 0 else l.length - 1]? = some x := by
  cases left with
  | true =>
    cases l with
    | nil => exact absurd rfl h
    | cons x t => exact ⟨x, t, rfl, rfl⟩
  | false =>
    refine ⟨l.getLast h, l.dropLast, (List.dropLast_concat_getLast h).symm, ?_⟩
    rw [if_neg (by decide), ← List.getLast?_eq_getElem?, List.getLast?_eq_some_getLast h]
theorem endL_mem (left : Bool) (x : List UInt8) (t : List (List UInt8)) (y : List UInt8) : y ∈ endL left x t ↔ y = x ∨ y ∈ t := by
  unfold endL
  cases left <;> simp [or_comm]
/-- A list after k turns. -/
def turnL (right : Bool) (l : List (List UInt8)) (k : Nat) : List (List UInt8) := if right then l.drop (l.length - k) ++ l.take (l.length - k) else l.drop k ++ l.take k
theorem turnL_zero (right : Bool) (l : List (List UInt8)) : turnL right l 0 = l := by unfold turnL; cases right <;> simp
theorem turnL_all (right : Bool) (l : List (List UInt8)) : turnL right l l.length = l := by unfold turnL; cases right <;> simp
theorem turnL_next (right : Bool) {l : List (List UInt8)} {k : Nat} (hk : k < l.length) : ∃ x t, turnL right l k = endL (!right) x t ∧ turnL right l (k + 1) = endL right x t ∧ l[if right then l.length - 1 - k else k]? = some x ∧ t.length + 1 = l.length ∧ (∀ y ∈ endL right x t, y ∈ l) := by
  cases right with
  | false =>
    obtain ⟨x, hx⟩ : ∃ x, l[k]? = some x := ⟨_, List.getElem?_eq_getElem hk⟩
    have hd : l.drop k = x :: l.drop (k + 1) := by
      rw [List.drop_eq_getElem_cons hk]
      congr 1
      rw [List.getElem?_eq_getElem hk] at hx
      cases hx; rfl
    refine ⟨x, l.drop (k + 1) ++ l.take k, ?_, ?_, by simpa using hx, by simp; omega, fun y hy => ?_⟩
    · unfold turnL endL; simp [hd]
    · unfold turnL endL; simp [List.take_add_one, hx]
    · rw [endL_mem] at hy
      rcases hy with rfl | hy
      · exact List.mem_of_getElem? hx
      · rcases List.mem_append.1 hy with h | h
        · exact List.mem_of_mem_drop h
        · exact List.mem_of_mem_take h
  | true =>
    have hj : l.length - 1 - k < l.length := by omega
    obtain ⟨x, hx⟩ : ∃ x, l[l.length - 1 - k]? = some x := ⟨_, List.getElem?_eq_getElem hj⟩
    have hd : l.drop (l.length - 1 - k) = x :: l.drop (l.length - k) := by
      rw [List.drop_eq_getElem_cons hj]
      congr 1
      · rw [List.getElem?_eq_getElem hj] at hx
        cases hx; rfl
      · congr 1; omega
    have ht : l.take (l.length - k) = l.take (l.length - 1 - k) ++ [x] := by
      rw [show l.length - k = l.length - 1 - k + 1 by omega, List.take_add_one, hx]; rfl
    refine ⟨x, l.drop (l.length - k) ++ l.take (l.length - 1 - k), ?_, ?_, by simpa using hx, by simp; omega, fun y hy => ?_⟩
    · unfold turnL endL; simp [ht]
    · unfold turnL endL
      simp only [if_true]
      rw [show l.length - (k + 1) = l.length - 1 - k by omega, hd]; rfl
    · rw [endL_mem] at hy
      rcases hy with rfl | hy
      · exact List.mem_of_getElem? hx
      · rcases List.mem_append.1 hy with h | h
        · exact List.mem_of_mem_drop h
        · exact List.mem_of_mem_take h
end Go.Proofs.YtgmmeeikjofefaaGreatDoor
namespace Go.Proofs.YtgmmeeikjofefaaGreatDoor
open Go Go.RowKit
/-! The document's Print; a number's text is read back. -/
theorem parseUintM_app (M : Nat) : ∀ (l1 l2 : List UInt8) (acc a : Nat), Lib.parseUintM M acc l1 = .ok a → Lib.parseUintM M acc (l1 ++ l2) = Lib.parseUintM M a l2
  | [], l2, acc, a, h => by
    unfold Lib.parseUintM at h
    cases h; rfl
  | c :: r, l2, acc, a, h => by
    rw [List.cons_append]
    rw [Lib.parseUintM] at h
    conv => lhs; rw [Lib.parseUintM]
    split at h
    · rename_i hc
      rw [if_pos hc]
      split at h
      · cases h
      · rename_i h1
        rw [if_neg h1]
        split at h
        · cases h
        · rename_i h2
          rw [if_neg h2]
          exact parseUintM_app M r l2 _ a h
    · cases h
theorem dig_toNat {k : Nat} (h : k < 10) : (UInt8.ofNat (48 + k)).toNat = 48 + k := by
  rw [UInt8.toNat_ofNat']
  show (48 + k) % 256 = _
  omega
theorem parse_dec (M : Nat) (hM : M ≤ 18446744073709551615) : ∀ u : Nat, u ≤ M → Lib.parseUintM M 0 (Lib.decDigits u) = .ok u := by
  intro u
  induction u using Nat.strongRecOn with
  | _ u ih =>
    intro hu
    rw [Lib.decDigits]
    split
    · rename_i h
      unfold Lib.parseUintM
      rw [dig_toNat h, if_pos (by omega), if_neg (by omega), if_neg (by omega)]
      unfold Lib.parseUintM
      congr 1; omega
    · rename_i h
      rw [parseUintM_app M _ _ 0 (u / 10) (ih (u / 10) (by omega) (by omega))]
      have hk : u % 10 < 10 := Nat.mod_lt _ (by decide)
      unfold Lib.parseUintM
      rw [dig_toNat hk, if_pos (by omega), if_neg (by omega), if_neg (by omega)]
      unfold Lib.parseUintM
      congr 1; omega
theorem dec_digit (u : Nat) : ∀ c ∈ Lib.decDigits u, 48 ≤ c.toNat ∧ c.toNat ≤ 57 := by
  induction u using Nat.strongRecOn with
  | _ u ih =>
    rw [Lib.decDigits]
    split
    · rename_i h
      intro c hc
      rw [List.mem_singleton.1 hc, dig_toNat h]; omega
    · rename_i h
      intro c hc
      rcases List.mem_append.1 hc with hc | hc
      · exact ih (u / 10) (by omega) c hc
      · rw [List.mem_singleton.1 hc, dig_toNat (Nat.mod_lt _ (by decide))]
        have := Nat.mod_lt u (show 0 < 10 by decide)
        omega
theorem dec_ne (u : Nat) : Lib.decDigits u ≠ [] := by
  rw [Lib.decDigits]; split <;> simp
theorem parseB_itoa {n : Int} (h : -9223372036854775808 ≤ n ∧ n ≤ 9223372036854775807) : Lib.parseIntB 64 (Lib.itoa n) = .ok n := by
  have e64 : (2 : Nat) ^ 64 - 1 = 18446744073709551615 := by decide
  have e63 : (2 : Nat) ^ (64 - 1) = 9223372036854775808 := by decide
  unfold Lib.itoa
  split
  · rename_i hn
    unfold Lib.parseIntB
    simp only [UInt8.reduceToNat, Nat.reduceEqDiff, if_true, or_true]
    unfold Lib.parseUintB
    rw [if_neg (dec_ne _), e64, parse_dec _ (Nat.le_refl _) n.natAbs (by omega)]
    dsimp only
    rw [e63]
    rw [if_neg (by simp), if_neg (by omega)]
    congr 1
    omega
  · rename_i hn
    have hd := dec_digit n.toNat
    have hp := parse_dec 18446744073709551615 (Nat.le_refl _) n.toNat (by omega)
    cases hl : Lib.decDigits n.toNat with
    | nil => exact absurd hl (dec_ne _)
    | cons c r =>
      rw [hl] at hd hp
      have hc := hd c (by simp)
      unfold Lib.parseIntB
      dsimp only
      rw [if_neg (by omega)]
      unfold Lib.parseUintB
      rw [if_neg (by simp), e64, hp]
      dsimp only
      rw [e63]
      rw [if_neg (by omega), if_neg (by omega), if_neg (by omega)]
      congr 1
      omega
theorem parseN_itoa {n : Int} (h : -9223372036854775808 ≤ n ∧ n ≤ 9223372036854775807) : parseN (Lib.itoa n) = some n := by
  unfold parseN
  rw [parseB_itoa h]
  exact if_pos rfl
theorem dec_len : ∀ (k u : Nat), u < 10 ^ k → (Lib.decDigits u).length ≤ k + 1
  | 0, u, h => by
    have : u = 0 := by simpa using h
    subst this
    rw [Lib.decDigits]; simp
  | k + 1, u, h => by
    rw [Lib.decDigits]
    split
    · simp
    · have := dec_len k (u / 10) (by rw [Nat.pow_succ] at h; omega)
      simp; omega
theorem itoa_len {n : Int} (h : -9223372036854775808 ≤ n ∧ n ≤ 9223372036854775807) : (Lib.itoa n).length ≤ 100 := by
  have h1 := dec_len 30 n.natAbs (by have : (10 : Nat) ^ 30 = 1000000000000000000000000000000 := by decide
                                     omega)
  have h2 := dec_len 30 n.toNat (by have : (10 : Nat) ^ 30 = 1000000000000000000000000000000 := by decide
                                    omega)
  unfold Lib.itoa
  split
  · simp; omega
  · omega
theorem itoa_dec {n : Int} (h : -9223372036854775807 ≤ n ∧ n ≤ 9223372036854775807) : (Lib.decDigits n.natAbs).length ≤ 100 := by
  have h1 := dec_len 30 n.natAbs (by have : (10 : Nat) ^ 30 = 1000000000000000000000000000000 := by decide
                                     omega)
  omega
theorem bytes_app2 (a b : List UInt8) : (⟨a.toArray⟩ : ByteArray) ++ ⟨b.toArray⟩ = ⟨(a ++ b).toArray⟩ := rfl
theorem bsz (s : List UInt8) : (⟨s.toArray⟩ : ByteArray).size = s.length := by simp [ByteArray.size]
def PrRel (w : World) (N : Nat) (a b : Value) (wr : World) : Prop :=
  ∃ (u : Nat) (s : List UInt8), a = .int .u64 (u : Int) ∧ b = .string ⟨s.toArray⟩ ∧ u ≤ N ∧ (0 < u → Lib.decDigits N = Lib.decDigits u ++ s) ∧ (u = 0 → s = Lib.decDigits N) ∧ Below w.heap.size w wr
theorem PrRel.next {w wr : World} {N u : Nat} {s : List UInt8} (hu : u ≤ N) (h0 : 0 < u) (h : Lib.decDigits N = Lib.decDigits u ++ s) (hB : Below w.heap.size w wr) : PrRel w N (.int .u64 ((u / 10 : Nat) : Int)) (.string ⟨(UInt8.ofNat (48 + u % 10) :: s).toArray⟩) wr := by
  refine ⟨u / 10, _, rfl, rfl, by omega, fun h1 => ?_, fun h1 => ?_, hB⟩
  · rw [h]
    have e : Lib.decDigits u = Lib.decDigits (u / 10) ++ [UInt8.ofNat (48 + u % 10)] := by
      conv => lhs; rw [Lib.decDigits]
      rw [dif_neg (by omega)]
    rw [e]; simp
  · have hl : u < 10 := by omega
    rw [h]
    have e : Lib.decDigits u = [UInt8.ofNat (48 + u)] := by rw [Lib.decDigits, dif_pos hl]
    rw [e, Nat.mod_eq_of_lt hl]; simp
set_option maxRecDepth 10000 in
set_option maxHeartbeats 4000000 in
theorem print_ok (w : World) {n : Int} (hn : -9223372036854775807 ≤ n ∧ n ≤ 9223372036854775807) : Calls Tryz.prog 25 #[.int .i64 n] w fun e w' => e = .returned (.string ⟨(Lib.itoa n).toArray⟩) ∧ Below w.heap.size w w' := by
  by_cases h0 : n = 0
  · subst h0
    go_enter Tryz.func25, Tryz.ntmps25
    go_wp2_with fail
    go_ret
    exact ⟨by rw [show Lib.itoa 0 = [48] by decide +kernel]; rfl, Below.refl _ _⟩
  · have e0 : (n == 0) = false := beq_eq_false_iff_ne.2 h0
    have hN0 : 0 < n.natAbs := by omega
    by_cases hneg : n < 0
    · have ew : IntKind.u64.wrap (-IntKind.u64.wrap n) = (n.natAbs : Int) := by
        simp only [IntKind.wrap_u64]; omega
      have hat : PrRel w n.natAbs (.int .u64 (n.natAbs : Int)) (.string ⟨#[]⟩) w := ⟨n.natAbs, [], rfl, rfl, Nat.le_refl _, fun _ => by simp, fun e => by omega, Below.refl _ _⟩
      go_enter Tryz.func25, Tryz.ntmps25
      go_wp2_with fail
      go_loopw [3, 4] (fun a b wr => PrRel w n.natAbs a b wr) (fun a _ _ => (intOf a).toNat)
      case atStart => exact hat
      case round =>
        clear hat
        obtain ⟨u, s, rfl, rfl, huN, hpos, hzero, hB⟩ := hrel
        by_cases hu : 0 < u
        · have hm : Int.tmod (u : Int) 10 = ((u % 10 : Nat) : Int) := rfl
          have hq : Int.tdiv (u : Int) 10 = ((u / 10 : Nat) : Int) := rfl
          have huI : (0 : Int) < u := by omega
          have hk : u % 10 < 10 := Nat.mod_lt _ (by decide)
          have hcv := run_bytes_text (wr.alloc (.cells #[bv (UInt8.ofNat (48 + u % 10))] 5)) wr.heap.size 1 [UInt8.ofNat (48 + u % 10)] (fun j x hj => by
            have h0 : j = 0 := by have := (List.getElem?_eq_some_iff.1 hj).1; simp at this; omega
            subst h0
            cases hj
            unfold World.cell?
            rw [heap_alloc_new]
            rfl) 1 rfl
          unfold bv at hcv
          rw [dig_toNat hk] at hcv
          have e48 : ((48 + u % 10 : Nat) : Int) = 48 + (u : Int) % 10 := by omega
          have hB2 : Below w.heap.size w (wr.alloc (.cells #[.int .u8 ((48 + u % 10 : Nat) : Int)] 5)) := hB.alloc hB.size _
          have D := Lib.hid (PrRel.next huN hu (hpos hu) hB2)
          have hui : u ≤ 9223372036854775807 := by omega
          have hdl := itoa_dec (n := n) hn
          have hsl : s.length ≤ 100 := by rw [hpos hu, List.length_append] at hdl; omega
          have hsz := bsz s
          have hba := bytes_app2 [UInt8.ofNat (48 + u % 10)] s
          rw [e48] at hcv D
          clear e48 hdl
          clear hpos hzero hB hB2
          go_wp2_with fail
          refine ⟨?_, by simp [intOf]; omega⟩
          rw [show ((⟨#[48 + UInt8.ofNat (u % 10)]⟩ : ByteArray) ++ ⟨s.toArray⟩) = ⟨(UInt8.ofNat (48 + u % 10) :: s).toArray⟩ from by rw [UInt8.ofNat_add]; rfl]
          exact D.out
        · obtain rfl : u = 0 := by omega
          have hs := hzero rfl
          subst hs
          have hdl := itoa_dec (n := n) hn
          have hsz := bsz (Lib.decDigits n.natAbs)
          have HB := Lib.hid hB
          clear hpos hzero hB
          go_wp2_with fail
          go_ret
          exact ⟨by rw [show Lib.itoa n = 45 :: Lib.decDigits n.natAbs from if_pos hneg]; rfl, HB.out⟩
    · have ew : n = (n.natAbs : Int) := by omega
      have hat : PrRel w n.natAbs (.int .u64 n) (.string ⟨#[]⟩) w := ⟨n.natAbs, [], by rw [← ew], rfl, Nat.le_refl _, fun _ => by simp, fun e => by omega, Below.refl _ _⟩
      clear ew
      go_enter Tryz.func25, Tryz.ntmps25
      go_wp2_with fail
      go_loopw [3, 4] (fun a b wr => PrRel w n.natAbs a b wr) (fun a _ _ => (intOf a).toNat)
      case atStart => exact hat
      case round =>
        clear hat
        obtain ⟨u, s, rfl, rfl, huN, hpos, hzero, hB⟩ := hrel
        by_cases hu : 0 < u
        · have hm : Int.tmod (u : Int) 10 = ((u % 10 : Nat) : Int) := rfl
          have hq : Int.tdiv (u : Int) 10 = ((u / 10 : Nat) : Int) := rfl
          have huI : (0 : Int) < u := by omega
          have hk : u % 10 < 10 := Nat.mod_lt _ (by decide)
          have hcv := run_bytes_text (wr.alloc (.cells #[bv (UInt8.ofNat (48 + u % 10))] 5)) wr.heap.size 1 [UInt8.ofNat (48 + u % 10)] (fun j x hj => by
            have h0 : j = 0 := by have := (List.getElem?_eq_some_iff.1 hj).1; simp at this; omega
            subst h0
            cases hj
            unfold World.cell?
            rw [heap_alloc_new]
            rfl) 1 rfl
          unfold bv at hcv
          rw [dig_toNat hk] at hcv
          have e48 : ((48 + u % 10 : Nat) : Int) = 48 + (u : Int) % 10 := by omega
          have hB2 : Below w.heap.size w (wr.alloc (.cells #[.int .u8 ((48 + u % 10 : Nat) : Int)] 5)) := hB.alloc hB.size _
          have D := Lib.hid (PrRel.next huN hu (hpos hu) hB2)
          have hui : u ≤ 9223372036854775807 := by omega
          have hdl := itoa_dec (n := n) hn
          have hsl : s.length ≤ 100 := by rw [hpos hu, List.length_append] at hdl; omega
          have hsz := bsz s
          have hba := bytes_app2 [UInt8.ofNat (48 + u % 10)] s
          rw [e48] at hcv D
          clear e48 hdl
          clear hpos hzero hB hB2
          go_wp2_with fail
          refine ⟨?_, by simp [intOf]; omega⟩
          rw [show ((⟨#[48 + UInt8.ofNat (u % 10)]⟩ : ByteArray) ++ ⟨s.toArray⟩) = ⟨(UInt8.ofNat (48 + u % 10) :: s).toArray⟩ from by rw [UInt8.ofNat_add]; rfl]
          exact D.out
        · obtain rfl : u = 0 := by omega
          have hs := hzero rfl
          subst hs
          have hdl := itoa_dec (n := n) hn
          have hsz := bsz (Lib.decDigits n.natAbs)
          have HB := Lib.hid hB
          clear hpos hzero hB
          go_wp2_with fail
          go_ret
          exact ⟨by rw [show Lib.itoa n = Lib.decDigits n.natAbs from by unfold Lib.itoa; rw [if_neg (by omega)]; congr 1; omega]; rfl, HB.out⟩
end Go.Proofs.YtgmmeeikjofefaaGreatDoor
