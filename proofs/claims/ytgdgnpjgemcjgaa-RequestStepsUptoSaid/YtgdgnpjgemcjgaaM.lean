import Derived.Test.YtgdgnpjgemcjgaaL
namespace Go.Proofs.Ytgdgnpjgemcjgaa
open Go Go.RowKit
def Res.pre (x : List (List UInt8)) : Res (List (List UInt8)) → Res (List (List UInt8))
  | .ok a r => .ok (x ++ a) r
  | .more => .more
  | .fault w => .fault w
theorem Res.pre_nil (q : Res (List (List UInt8))) : q.pre [] = q := by cases q <;> rfl
theorem Res.pre_stop {q : Res (List (List UInt8))} (x : List (List UInt8)) {word : List UInt8} (h : q.stop = some word) : (q.pre x).stop = some word := by
  cases q with
  | more => exact h
  | fault w => exact h
  | ok a r => cases h
theorem bulksR_stop {l : Lim} {s word : List UInt8} (n : Nat) (h : (bulkR l s).stop = some word) : (bulksR l (n + 1) s).stop = some word := by
  rw [bulksR]
  cases hq : bulkR l s with
  | more => rw [hq] at h; exact h
  | fault w => rw [hq] at h; exact h
  | ok a r => rw [hq] at h; cases h
theorem bulksR_go {l : Lim} {s a r : List UInt8} (n : Nat) (h : bulkR l s = .ok a r) : bulksR l (n + 1) s = (bulksR l n r).pre [a] := by
  rw [bulksR, h]
  simp only
  cases bulksR l n r <;> rfl
theorem Res.pre_pre (x y : List (List UInt8)) (q : Res (List (List UInt8))) : (q.pre y).pre x = q.pre (x ++ y) := by cases q <;> simp [Res.pre]
/-- The loop over the bulks. -/
def BulksI (l : Lim) (n : Nat) (s : List UInt8) (j0 j k : Nat) (acc : List (List UInt8)) : Prop := k ≤ n ∧ acc.length = k ∧ bulksR l n (s.drop j0) = (bulksR l (n - k) (s.drop j)).pre acc
theorem BulksI.start (l : Lim) (n : Nat) (s : List UInt8) (j : Nat) : BulksI l n s j j 0 [] := ⟨Nat.zero_le _, rfl, (Res.pre_nil _).symm⟩
theorem BulksI.stop {l : Lim} {n : Nat} {s word : List UInt8} {j0 j k : Nat} {acc : List (List UInt8)} (h : BulksI l n s j0 j k acc) (hk : k < n) (hw : (bulkR l (s.drop j)).stop = some word) : (bulksR l n (s.drop j0)).stop = some word := by
  rw [h.2.2]
  apply Res.pre_stop
  obtain ⟨d, hd⟩ : ∃ d, n - k = d + 1 := ⟨n - k - 1, by omega⟩
  rw [hd]
  exact bulksR_stop d hw
theorem BulksI.go {l : Lim} {n : Nat} {s a : List UInt8} {j0 j k j2 : Nat} {acc : List (List UInt8)} (h : BulksI l n s j0 j k acc) (hk : k < n) (hw : bulkR l (s.drop j) = .ok a (s.drop j2)) : BulksI l n s j0 j2 (k + 1) (acc ++ [a]) := by
  refine ⟨hk, by simp [h.2.1], ?_⟩
  rw [h.2.2]
  obtain ⟨d, hd⟩ : ∃ d, n - k = d + 1 := ⟨n - k - 1, by omega⟩
  rw [hd, bulksR_go d hw, Res.pre_pre, show n - (k + 1) = d by omega]
theorem BulksI.done {l : Lim} {n : Nat} {s : List UInt8} {j0 j k : Nat} {acc : List (List UInt8)} (h : BulksI l n s j0 j k acc) (hk : ¬ k < n) : bulksR l n (s.drop j0) = .ok acc (s.drop j) := by
  rw [h.2.2, show n - k = 0 by have := h.1; omega]
  simp [bulksR, Res.pre]

theorem thingR_array {l : Lim} {s : List UInt8} {k : Nat} (h : s[k]? = some 42) : thingR l (s.drop k) = match lineR l.line (s.drop k) with
    | .more => .more
    | .bad => .fault wLine
    | .ok t r => match countR l.args (trim13 t).tail with
      | none => .fault wCount
      | some n => bulksR l n r := by
  rw [drop_at h, thingR]
  cases lineR l.line (42 :: s.drop (k + 1)) <;> rfl
theorem thingR_typed {l : Lim} {s : List UInt8} {k : Nat} {b : UInt8} (h : s[k]? = some b) (hb : b ≠ 42) : thingR l (s.drop k) = match lineR l.line (s.drop k) with
    | .more => .more
    | .bad => .fault wLine
    | .ok t r => match splitL (trim13 t) with
      | none => .fault wQuotes
      | some ws => if l.args < ws.length then .fault wWords else if ws.any (fun w => decide (l.bulk < w.length)) then .fault wWords else .ok ws r := by
  rw [drop_at h, thingR]
  have : ¬ (b :: s.drop (k + 1)).head? = some 42 := by simpa using hb
  simp only [if_neg this]
  rfl

def ThingDid (o : Roles) (w : World) (r : List Nat) (b : Nat) (s : List UInt8) (at_ : Nat) (l : Lim) (e : Ending) (w' : World) : Prop :=
  (∃ word o', e = stops word ∧ (thingR l (s.drop at_)).stop = some word ∧ Stp r o w o' w') ∨
  ∃ v ws n o', e = .returned v ∧ thingR l (s.drop at_) = .ok ws (s.drop n) ∧ at_ < n ∧ n ≤ s.length ∧ Texts o' w' (r ++ [1] ++ [0]) v ws ∧ Scan o' w' (r ++ [0]) b s n l ∧ Stp r o w o' w'
theorem ThingDid.stop {o o' : Roles} {w w' : World} {r : List Nat} {b at_ : Nat} {s word : List UInt8} {l : Lim} {q : Res (List (List UInt8))} (h : thingR l (s.drop at_) = q) (hw : q.stop = some word) (st : Stp r o w o' w') : ThingDid o w r b s at_ l (stops word) w' :=
  .inl ⟨word, o', rfl, by rw [h]; exact hw, st⟩
def ThingRel (o : Roles) (w : World) (r : List Nat) (b : Nat) (s : List UInt8) (j0 m : Nat) (l : Lim) (v i : Value) (wr : World) : Prop :=
  ∃ (j k : Nat) (acc : List (List UInt8)) (o' : Roles), i = .int .i64 (k : Int) ∧ BulksI l m s j0 j k acc ∧ j0 ≤ j ∧ j ≤ s.length ∧ Texts o' wr (r ++ [1] ++ [0]) v acc ∧ Scan o' wr (r ++ [0]) b s j l ∧ Stp r o w o' wr

set_option maxRecDepth 10000 in
set_option maxHeartbeats 2000000 in
theorem thing_array {o : Roles} {w : World} {r : List Nat} {b at_ : Nat} {s : List UInt8} {l : Lim} (h : Scan o w (r ++ [0]) b s at_ l) (hlt : at_ < s.length) (hck : s[at_]? = some 42) (hs : s.length ≤ 1099511627776) (hl : LimOk l) :
    Calls Try.prog 49 #[.pointer (some ⟨b, 0, none⟩)] w (ThingDid o w r b s at_ l) := by
  have hsz : (⟨s.toArray⟩ : ByteArray).size = s.length := by simp [ByteArray.size]
  have hc := h.cell
  have hf := h.free
  unfold scanC at hc
  have N := need_ok b s w (hc 0) at_ (by omega)
  have hix := idx_ok hck
  have HL := Lib.hid (fun k => line_ok (h.drewN k) (Nat.le_of_lt hlt) hs)
  have HX := Lib.hid (thingR_array (l := l) hck)
  have HCK := Lib.hid hck
  have HCT := Lib.hid (fun (u : List UInt8) (W : World) (h : u.length ≤ 1099511627776) => show Calls Try.prog 58 #[.string ⟨u.toArray⟩, .int .i64 l.args, .string ⟨#[99, 111, 117, 110, 116]⟩] W (CountDid l.args u wCount W) from count_ok u wCount l.args W (Nat.le_trans hl.args.2 (by decide)) h)
  have hlb := Lib.hid hl
  clear hck h hl
  go_enter Try.func49, Try.ntmps49
  go_wp2_with fail
  refine N.mono ?_; rintro e w' ⟨rfl, rfl⟩
  go_wp2_with fail
  go_quiet (fail)
  go_wp2_with fail
  (with_reducible refine (HL.out _).mono ?_)
  rintro e w2 (⟨rfl, hm, q, rfl⟩ | ⟨rfl, hm, q, rfl⟩ | ⟨t, n, rfl, hline, htn, hn, htake, hS, hst⟩)
  · exact ⟨rfl, .stop (q := .more) (by rw [HX.out, hm]) rfl ((stp_draws _ _ _ _).drewN _)⟩
  · exact ⟨rfl, .stop (q := .fault wLine) (by rw [HX.out, hm]) rfl ((stp_draws _ _ _ _).drewN _)⟩
  have hb2 := hS.cell 3
  have htl := trim_len t
  have hcut : ∀ W, (Instr.slice 9 (.string ⟨(trim13 t).toArray⟩) (some (.int .i64 1)) none none).run Try.prog W = .ok (.string ⟨(trim13 t).tail.toArray⟩) W := cut_tail _ (by obtain ⟨r', hr'⟩ := trim_head (line_head HCK.out (by decide) hline) (by decide); rw [hr']; simp)
  have HLN := Lib.hid hline
  have HSC := Lib.hid hS
  have HTT := Lib.hid ((Stp.fromN hst).wide (List.prefix_append r [0]))
  clear hline htake hS hst hc hf hix N
  go_wp2_with fail
  go_region_held (fun W => W.cell? ⟨b, 3, none⟩ = some (.int .i64 l.args)) (first | exact hb2 | go_simp) (
    (go_at_call 58
     (with_reducible refine (HCT.out _ _ ?_).mono ?_)
     · simp; omega
     rintro e w3 ⟨rfl, (⟨rfl, hnone⟩ | ⟨m, hm, rfl, hsome⟩)⟩
     · exact ⟨rfl, .stop (q := .fault wCount) (by rw [HX.out, HLN.out]; simp only [hnone]) rfl (HTT.out.drewN 1)⟩
     have HSM := Lib.hid hsome
     clear hcut hsome hb2))
  have hE : thingR l (s.drop at_) = bulksR l m (s.drop n) := by
    rw [HX.out, HLN.out]; simp only [HSM.out]
  have HE := Lib.hid hE
  have hat : ThingRel o w' r b s n m l (.slice none 0 0) (.int .i64 0) (World.drewN w2 1) := ⟨n, 0, [], o, rfl, .start _ _ _ _, Nat.le_refl _, hn, Row.nil _ _ _ _ _, HSC.out.drewN 1, HTT.out.drewN 1⟩
  have hatn : at_ < n := by omega
  have hmb : m ≤ 1099511627776 := Nat.le_trans hm (Nat.le_trans hlb.out.args.2 (by decide))
  clear HLN HSM HX HL HCT hE HSC HTT
  go_wp2_with fail
  go_loopw [6, 39] (fun v i wr => ThingRel o w' r b s n m l v i wr) (fun _ i _ => m - (intOf i).toNat)
  case atStart => exact hat
  case round =>
    obtain ⟨j, k, acc, o', rfl, hI, hnj, hj, hT, hS, hst⟩ := hrel
    clear hat
    have hkm := hI.1
    have hacc : acc.length ≤ 1099511627776 := by have := hI.2.1; omega
    by_cases hk : k < m
    · have B := bulk_ok hS hj hs hlb.out
      have HI := Lib.hid hI
      have HT := Lib.hid hT
      have HS := Lib.hid hst
      clear hI hT hS hst
      go_wp2_with fail
      refine B.mono ?_; rintro e w3 (⟨word, rfl, hw, st3⟩ | ⟨a, j2, rfl, hw, hja, hj2, hS2, st3⟩)
      · have D := ThingDid.stop HE.out (HI.out.stop hk hw) (HS.out.trans (st3.wide (List.prefix_append _ _))) (b := b)
        exact ⟨rfl, D⟩
      · have HN := Lib.hid (HI.out.go hk hw)
        have HS2 := Lib.hid hS2
        have HS3 := Lib.hid (HS.out.trans (st3.wide (List.prefix_append _ _)))
        have HT2 := Lib.hid (HT.out.keep st3 (by rw [List.append_assoc]; exact np_app (by simp)))
        clear hw hS2 st3 HI HT HS B
        go_wp2_with (
          at_builtin
          refine wpList_pushS rfl _ _ rfl a rfl HT2.out rfl hacc ?_
          intro v' w4 o' hrow hst
          have HW := Lib.hid hrow
          have HSS := Lib.hid (HS2.out.keep hst (by rw [List.append_assoc]; exact np_app (by simp)))
          have HT3 := Lib.hid (HS3.out.trans (hst.wide (by rw [List.append_assoc]; exact List.prefix_append _ _)))
          clear hrow hst HT2)
        go_roundw
        case rel => exact ⟨j2, k + 1, _, o', by go_num, HN.out, by omega, hj2, HW.out, HSS.out, HT3.out⟩
        case measure => simp [intOf]; omega
    · have D : ∀ v, Texts o' wr (r ++ [1] ++ [0]) v acc → ThingDid o w' r b s at_ l (.returned v) wr := fun v hv => .inr ⟨v, acc, j, o', rfl, by rw [HE.out]; exact hI.done hk, by omega, hj, hv, hS, hst⟩
      have HD := Lib.hid (D _ hT)
      clear D hI hT hS hst
      go_wp2_with fail
      go_ret
      exact HD.out
end Go.Proofs.Ytgdgnpjgemcjgaa
