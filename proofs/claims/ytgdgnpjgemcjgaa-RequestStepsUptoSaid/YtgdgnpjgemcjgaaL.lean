import Derived.Test.YtgdgnpjgemcjgaaK
import Derived.Deep.RegionHeld
namespace Go.Proofs.Ytgdgnpjgemcjgaa
open Go Go.RowKit
/-- Why reading ends early: no word: more is wanted. -/
def Res.stop {α : Type} : Res α → Option (List UInt8)
  | .more => some []
  | .fault w => some w
  | .ok _ _ => none
theorem trim_head {t : List UInt8} {b : UInt8} (h : t.head? = some b) (hb : b ≠ 13) : ∃ r, trim13 t = b :: r := by
  cases t with
  | nil => cases h
  | cons c r =>
    simp only [List.head?_cons, Option.some.injEq] at h
    subst h
    unfold trim13
    split
    · cases r with
      | nil => rename_i hh; exact absurd (by simpa using hh) hb
      | cons d r => exact ⟨_, List.dropLast_cons_cons ..⟩
    · exact ⟨r, rfl⟩
theorem trim_len (t : List UInt8) : (trim13 t).length ≤ t.length := by
  unfold trim13; split
  · simp
  · exact Nat.le_refl _
theorem line_head {L : Nat} {s t : List UInt8} {at_ n : Nat} {b : UInt8} (hb : s[at_]? = some b) (h10 : b ≠ 10) (h : lineR L (s.drop at_) = .ok t (s.drop n)) : t.head? = some b := by
  rw [drop_at hb] at h
  rw [lineR.eq_def] at h
  simp only [if_neg h10] at h
  split at h
  · cases h
  · rename_i k
    cases hr : lineR k (s.drop (at_ + 1)) with
    | more => rw [hr] at h; cases h
    | bad => rw [hr] at h; cases h
    | ok t' r' => rw [hr] at h; simp only [LR.cons, LR.ok.injEq] at h; rw [← h.1]; rfl

theorem cut_tail (u : List UInt8) (h : 1 ≤ u.length) (w : World) : (Instr.slice 9 (.string ⟨u.toArray⟩) (some (.int .i64 1)) none none).run Try.prog w = .ok (.string ⟨u.tail.toArray⟩) w := by
  have := cut_run u (some (.int .i64 ((1 : Nat) : Int))) none 1 u.length h (Nat.le_refl _) (.inl rfl) (.inr ⟨rfl, rfl⟩) w
  rw [List.take_of_length_le (by simp), List.drop_one] at this
  exact this
theorem bulkR_nil (l : Lim) : bulkR l [] = .more := rfl
theorem bulkR_bad {l : Lim} {s : List UInt8} {k : Nat} {b : UInt8} (h : s[k]? = some b) (hb : b ≠ 36) : bulkR l (s.drop k) = .fault wBulk := by
  rw [drop_at h, bulkR.eq_def]; simp only; rw [if_pos hb]
theorem bulkR_line {l : Lim} {s : List UInt8} {k : Nat} (h : s[k]? = some 36) : bulkR l (s.drop k) = match lineR l.line (s.drop k) with
    | .more => .more
    | .bad => .fault wLine
    | .ok t r => match countR l.bulk (trim13 t).tail with
      | none => .fault wLength
      | some n => if r.length ≤ n then .more else if r[n]? ≠ some 13 then .fault wEnd else if r.length ≤ n + 1 then .more else if r[n + 1]? ≠ some 10 then .fault wEnd else .ok (r.take n) (r.drop (n + 2)) := by
  rw [drop_at h, bulkR.eq_def]; simp only; rw [if_neg (by decide)]; rfl

def BulkDid (o : Roles) (w : World) (r : List Nat) (b : Nat) (s : List UInt8) (at_ : Nat) (l : Lim) (e : Ending) (w' : World) : Prop :=
  (∃ word, e = stops word ∧ (bulkR l (s.drop at_)).stop = some word ∧ Stp r o w o w') ∨
  ∃ a n, e = .returned (.string ⟨a.toArray⟩) ∧ bulkR l (s.drop at_) = .ok a (s.drop n) ∧ at_ + a.length < n ∧ n ≤ s.length ∧ Scan o w' r b s n l ∧ Stp r o w o w'
theorem BulkDid.stop {o : Roles} {w w' : World} {r : List Nat} {b at_ : Nat} {s word : List UInt8} {l : Lim} {q : Res (List UInt8)} (h : bulkR l (s.drop at_) = q) (hw : q.stop = some word) (st : Stp r o w o w') : BulkDid o w r b s at_ l (stops word) w' :=
  .inl ⟨word, rfl, by rw [h]; exact hw, st⟩

set_option maxRecDepth 10000 in
set_option maxHeartbeats 2000000 in
theorem bulk_ok {o : Roles} {w : World} {r : List Nat} {b at_ : Nat} {s : List UInt8} {l : Lim} (h : Scan o w r b s at_ l) (ha : at_ ≤ s.length) (hs : s.length ≤ 1099511627776) (hl : LimOk l) :
    Calls Try.prog 59 #[.pointer (some ⟨b, 0, none⟩)] w (BulkDid o w r b s at_ l) := by
  have hsz : (⟨s.toArray⟩ : ByteArray).size = s.length := by simp [ByteArray.size]
  have hc := h.cell
  have hf := h.free
  unfold scanC at hc
  by_cases hlt : at_ < s.length
  · have N := need_ok b s w (hc 0) at_ (by omega)
    obtain ⟨c, hck⟩ : ∃ c, s[at_]? = some c := ⟨_, List.getElem?_eq_getElem hlt⟩
    have hix := idx_ok hck
    by_cases h36 : c = 36
    · have t1 : ((c.toNat : Int) == 36) = true := beqT 36 h36
      subst h36
      have HL := fun k => line_ok (h.drewN k) ha hs
      have hC := bulkR_line (l := l) hck
      have HCK := Lib.hid hck
      have HB := Lib.hid h
      have HX := Lib.hid hC
      clear hC hck h
      have HQ1 : ∀ k w', lineR l.line (s.drop at_) = .more → (∃ q, w' = (w.drewN k).drewN q) → BulkDid o w r b s at_ l (stops []) w' := by
        rintro k w' hm ⟨q, rfl⟩
        exact .stop (by rw [HX.out, hm]) rfl (((Stp.refl _ _ _).drewN _).drewN _)
      have HQ2 : ∀ k w', lineR l.line (s.drop at_) = .bad → (∃ q, w' = (w.drewN k).drewN q) → BulkDid o w r b s at_ l (stops wLine) w' := by
        rintro k w' hm ⟨q, rfl⟩
        exact .stop (by rw [HX.out, hm]) rfl (((Stp.refl _ _ _).drewN _).drewN _)
      have HQ1h := Lib.hid HQ1
      have HQ2h := Lib.hid HQ2
      clear HQ1 HQ2
      have HCT : ∀ (u : List UInt8) (W : World), u.length ≤ 1099511627776 → Calls Try.prog 58 #[.string ⟨u.toArray⟩, .int .i64 l.bulk, .string ⟨#[108, 101, 110, 103, 116, 104]⟩] W (CountDid l.bulk u wLength W) := fun u W h => count_ok u wLength l.bulk W hl.bulk.2 h
      have hlb := Lib.hid hl
      have HLh := Lib.hid HL
      have HCTh := Lib.hid HCT
      clear HL HCT hl
      go_enter Try.func59, Try.ntmps59
      go_wp2_with fail
      refine N.mono ?_; rintro e w' ⟨rfl, rfl⟩
      go_wp2_with fail
      go_quiet (fail)
      go_wp2_with fail
      clear hf hix t1 N
      have hc2 := hc 2
      clear hc
      go_region_held (fun W => W.cell? ⟨b, 2, none⟩ = some (.int .i64 l.bulk)) (first | exact hb2 | go_simp) (first
        | (go_at_call 57
           (with_reducible refine (HLh.out _).mono ?_)
           rintro e w2 (⟨rfl, hm, hq⟩ | ⟨rfl, hm, hq⟩ | ⟨t, n, rfl, hline, htn, hn, htake, hS, hst⟩)
           · exact ⟨rfl, HQ1h.out _ _ hm hq⟩
           · exact ⟨rfl, HQ2h.out _ _ hm hq⟩
           have hb2 := hS.cell 2
           have htl := trim_len t
           have hcut : ∀ W, (Instr.slice 9 (.string ⟨(trim13 t).toArray⟩) (some (.int .i64 1)) none none).run Try.prog W = .ok (.string ⟨(trim13 t).tail.toArray⟩) W := cut_tail _ (by obtain ⟨r', hr'⟩ := trim_head (line_head HCK.out (by decide) hline) (by decide); rw [hr']; simp)
           have HLN := Lib.hid hline
           have HSC := Lib.hid hS
           have HTT := Lib.hid (Stp.fromN hst)
           clear hline htake hS hst)
        | (go_at_call 58
           (with_reducible refine (HCTh.out _ _ ?_).mono ?_)
           · simp; omega
           rintro e w3 ⟨rfl, (⟨rfl, hnone⟩ | ⟨m, hm, rfl, hsome⟩)⟩
           · exact ⟨rfl, .stop (q := .fault wLength) (by rw [HX.out, HLN.out]; simp only [hnone]) rfl HTT.out⟩
           have HSM := Lib.hid hsome
           clear hcut hsome hb2))
      have hE : bulkR l (s.drop at_) = (if (s.drop n).length ≤ m then .more else if (s.drop n)[m]? ≠ some 13 then .fault wEnd else if (s.drop n).length ≤ m + 1 then .more else if (s.drop n)[m + 1]? ≠ some 10 then .fault wEnd else .ok ((s.drop n).take m) ((s.drop n).drop (m + 2))) := by
        rw [HX.out, HLN.out]; simp only [HSM.out]
      rw [List.length_drop, List.getElem?_drop, List.getElem?_drop, List.drop_drop] at hE
      have hmb : m ≤ 1048576 := Nat.le_trans hm hlb.out.bulk.2
      have hc := HSC.out.cell
      have hf := HSC.out.free
      unfold scanC at hc
      clear HLN HSM HX HQ1h HQ2h HLh HCTh hc2
      by_cases h1 : n + m < s.length
      · have N1 := need_ok b s w3 (hc 0) ((n : Int) + m) (by omega)
        obtain ⟨c1, hc1⟩ : ∃ c, s[n + m]? = some c := ⟨_, List.getElem?_eq_getElem h1⟩
        have hix1 := idx_at hc1 ((n : Int) + m) (by omega)
        rw [if_neg (by omega), hc1] at hE
        by_cases h13 : c1 = 13
        · have t1 : ((c1.toNat : Int) == 13) = true := beqT 13 h13
          subst h13
          rw [if_neg (by simp)] at hE
          by_cases h2 : n + m + 1 < s.length
          · have N2 := need_ok b s w3 (hc 0) ((n : Int) + m + 1) (by omega)
            obtain ⟨c2, hc2⟩ : ∃ c, s[n + m + 1]? = some c := ⟨_, List.getElem?_eq_getElem h2⟩
            have hix2 := idx_at hc2 ((n : Int) + m + 1) (by omega)
            rw [if_neg (by omega), show n + (m + 1) = n + m + 1 by omega, hc2] at hE
            by_cases h10 : c2 = 10
            · have t2 : ((c2.toNat : Int) == 10) = true := beqT 10 h10
              subst h10
              rw [if_neg (by simp)] at hE
              have hcut := cut_run s (some (.int .i64 n)) (some (.int .i64 ((n : Int) + m))) n (n + m) (by omega) (by omega) (.inl rfl) (.inl (by simp))
              rw [Nat.add_sub_cancel_left] at hcut
              have hal : ((s.drop n).take m).length = m := by simp; omega
              have HD : BulkDid o w' r b s at_ l (.returned (.string ⟨((s.drop n).take m).toArray⟩)) (w3.setCell ⟨b, 1, none⟩ (.int .i64 ((n + (m + 2) : Nat) : Int))) := by
                obtain ⟨hs1, ht1⟩ := HSC.out.goto (n + (m + 2))
                exact .inr ⟨_, n + (m + 2), rfl, hE, by rw [hal]; omega, by omega, hs1, HTT.out.trans ht1⟩
              have HH := Lib.hid HD
              rw [show ((n + (m + 2) : Nat) : Int) = (n : Int) + m + 2 by omega] at HH
              clear HD hE hc1 hc2 hal
              generalize ((s.drop n).take m) = a at *
              go_wp2_with fail
              refine N1.mono ?_; rintro e w4 ⟨rfl, rfl⟩
              go_wp2_with fail
              refine N2.mono ?_; rintro e w4 ⟨rfl, rfl⟩
              go_wp2_with fail
              go_ret
              exact HH.out
            · have t2 : ((c2.toNat : Int) == 10) = false := beqF 10 h10
              rw [if_pos (by simpa using h10)] at hE
              have HH := Lib.hid (BulkDid.stop (o := o) (w := w') (r := r) (b := b) hE rfl HTT.out)
              clear hE hc1 hc2
              go_wp2_with fail
              refine N1.mono ?_; rintro e w4 ⟨rfl, rfl⟩
              go_wp2_with fail
              refine N2.mono ?_; rintro e w4 ⟨rfl, rfl⟩
              go_wp2_with fail
              exact ⟨rfl, HH.out⟩
          · have N2 := need_no b s w3 (hc 0) ((n : Int) + m + 1) (by omega)
            rw [if_pos (by omega)] at hE
            have HH := Lib.hid (BulkDid.stop (o := o) (w := w') (r := r) (b := b) hE rfl HTT.out)
            clear hE hc1
            go_wp2_with fail
            refine N1.mono ?_; rintro e w4 ⟨rfl, rfl⟩
            go_wp2_with fail
            refine N2.mono ?_; rintro e w4 ⟨rfl, rfl⟩
            exact ⟨rfl, HH.out⟩
        · have t1 : ((c1.toNat : Int) == 13) = false := beqF 13 h13
          rw [if_pos (by simpa using h13)] at hE
          have HH := Lib.hid (BulkDid.stop (o := o) (w := w') (r := r) (b := b) hE rfl HTT.out)
          clear hE hc1
          go_wp2_with fail
          refine N1.mono ?_; rintro e w4 ⟨rfl, rfl⟩
          go_wp2_with fail
          exact ⟨rfl, HH.out⟩
      · have N1 := need_no b s w3 (hc 0) ((n : Int) + m) (by omega)
        rw [if_pos (by omega)] at hE
        have HH := Lib.hid (BulkDid.stop (o := o) (w := w') (r := r) (b := b) hE rfl HTT.out)
        clear hE
        go_wp2_with fail
        refine N1.mono ?_; rintro e w4 ⟨rfl, rfl⟩
        exact ⟨rfl, HH.out⟩
    · have t1 : ((c.toNat : Int) == 36) = false := beqF 36 h36
      have HD : ∀ k, BulkDid o w r b s at_ l (stops wBulk) (w.drewN k) := fun k => .stop (bulkR_bad hck h36) rfl ((Stp.refl _ _ _).drewN k)
      have HH := Lib.hid HD
      clear HD hck
      go_enter Try.func59, Try.ntmps59
      go_wp2_with fail
      refine N.mono ?_; rintro e w' ⟨rfl, rfl⟩
      go_wp2_with fail
      go_quiet (fail)
      go_wp2_with fail
      exact ⟨rfl, HH.out _⟩
  · have N := need_no b s w (hc 0) at_ (by omega)
    have HH := Lib.hid (BulkDid.stop (o := o) (w := w) (w' := w) (r := r) (b := b) (at_ := at_) (s := s) (l := l) (q := .more) (by rw [List.drop_eq_nil_of_le (by omega)]; rfl) rfl (Stp.refl _ _ _))
    go_enter Try.func59, Try.ntmps59
    go_wp2_with fail
    refine N.mono ?_; rintro e w' ⟨rfl, rfl⟩
    exact ⟨rfl, HH.out⟩
end Go.Proofs.Ytgdgnpjgemcjgaa
