import Derived.Test.YtgdgnpjgemcjgaaZR
namespace Go.Proofs.Ytgdgnpjgemcjgaa
open Go Go.RowKit
theorem bcell {W w1 : World} (hb : Below W.heap.size W w1) : (∀ b o, b < W.heap.size → w1.cell? ⟨b, o, none⟩ = W.cell? ⟨b, o, none⟩) ∧ (∀ b o, b < W.heap.size → w1.frozen? ⟨b, o, none⟩ = W.frozen? ⟨b, o, none⟩) :=
  ⟨fun b o h => hb.cell (p := ⟨b, o, none⟩) h, fun b o h => hb.frozen (p := ⟨b, o, none⟩) h⟩
def zThing : Value := thingV (.slice none 0 0) 0 0 []
def limW (l : Lim) : Value := limV l.bulk l.args l.line
def RBulkAns (a : List UInt8) (n x : Int) (f : List UInt8) : Ending := .returned (.tuple #[.string ⟨a.toArray⟩, thingV (.slice none 0 0) n x f])
def RBulkDid (w : World) (s : List UInt8) (at_ : Nat) (l : Lim) (e : Ending) (w' : World) : Prop :=
  Below w.heap.size w w' ∧ ((e = RBulkAns [] 0 0 [] ∧ bulkR l (s.drop at_) = .more) ∨ (∃ f, e = RBulkAns [] 0 2 f ∧ bulkR l (s.drop at_) = .fault f) ∨
  ∃ a n, e = RBulkAns a (n : Nat) 1 [] ∧ bulkR l (s.drop at_) = .ok a (s.drop n) ∧ at_ < n ∧ n ≤ s.length)
theorem rcount_some {most : Nat} {s : List UInt8} {n : Nat} (h : countR most s = some n) (w : World) (hm : most ≤ 1048576) (hs : s.length ≤ 1099511627776) : Calls Try.prog 52 #[.string ⟨s.toArray⟩, .int .i64 most] w fun e w' => e = .returned (.tuple #[.int .i64 n, .bool true]) ∧ w' = w := by
  refine (rcount_ok s most w hm hs).mono ?_
  rintro e w' ⟨rfl, (⟨_, h2⟩ | ⟨k, _, rfl, h2⟩)⟩
  · rw [h] at h2; cases h2
  · rw [h] at h2; cases h2; exact ⟨rfl, rfl⟩
theorem rcount_none {most : Nat} {s : List UInt8} (h : countR most s = none) (w : World) (hm : most ≤ 1048576) (hs : s.length ≤ 1099511627776) : Calls Try.prog 52 #[.string ⟨s.toArray⟩, .int .i64 most] w fun e w' => e = .returned (.tuple #[.int .i64 0, .bool false]) ∧ w' = w := by
  refine (rcount_ok s most w hm hs).mono ?_
  rintro e w' ⟨rfl, (⟨rfl, h2⟩ | ⟨k, _, rfl, h2⟩)⟩
  · exact ⟨rfl, rfl⟩
  · rw [h] at h2; cases h2
theorem countR_le {most : Nat} : ∀ {s : List UInt8} {n : Nat}, countR most s = some n → n ≤ most := by
  have gen : ∀ (s : List UInt8) (m n : Nat), m ≤ most → digitsF most m s = some n → n ≤ most := by
    intro s
    induction s with
    | nil => intro m n hm h; cases h; exact hm
    | cons b r ih =>
      intro m n hm h
      rw [digitsF] at h
      split at h
      · cases h
      · split at h
        · cases h
        · exact ih _ _ (by omega) h
  intro s n h
  unfold countR at h
  split at h
  · cases h
  · exact gen s 0 n (Nat.zero_le _) h
set_option maxRecDepth 10000 in
set_option maxHeartbeats 4000000 in
theorem rbulk_ok (s : List UInt8) (at_ : Nat) (l : Lim) (w : World) (ha : at_ ≤ s.length) (hs : s.length ≤ 1099511627776) (hl : LimOk l) :
    Calls Try.prog 53 #[limW l, .string ⟨s.toArray⟩, .int .i64 at_] w (RBulkDid w s at_ l) := by
  have hsz : (⟨s.toArray⟩ : ByteArray).size = s.length := by simp [ByteArray.size]
  have HW := Lib.hid wrong_ok
  unfold limW limV
  by_cases hlt : at_ < s.length
  · have hne : ((at_ : Int) == (s.length : Int)) = false := by simp; omega
    obtain ⟨c, hck⟩ : ∃ c, s[at_]? = some c := ⟨_, List.getElem?_eq_getElem hlt⟩
    have hix := idx_ok hck
    by_cases h36 : c = 36
    · have t1 : ((c.toNat : Int) == 36) = true := beqT 36 h36
      subst h36
      have HL := Lib.hid (fun W => rline_ok s at_ l.line W ha hs)
      have HX := Lib.hid (bulkR_line (l := l) hck)
      have HCK := Lib.hid hck
      have hlb := Lib.hid hl
      clear hck hl
      go_enter Try.func53, Try.ntmps53
      go_wp2_with fail
      refine (HL.out _).mono ?_
      rintro e w0 ⟨rfl, (⟨rfl, hm⟩ | ⟨rfl, hm⟩ | ⟨t, n, rfl, hline, htn, hn⟩)⟩
      · have hE : bulkR l (s.drop at_) = .more := by rw [HX.out, hm]
        clear hm hix
        go_wp2_with fail
        exact bodyPost_ret (v := .tuple #[.string ⟨#[]⟩, .agg #[.slice none 0 0, .int .i64 0, .int .i64 0, .string ⟨#[]⟩]]) (by simp [results, Try.results53, go_sem]) rfl ⟨by repeat (first | exact Below.refl _ _ | refine Below.setCell ?_ (by simp) _ | refine Below.drew ?_ | refine below_drewN ?_ _ | refine Below.alloc ?_ (by simp) _), .inl ⟨rfl, hE⟩⟩
      · have hE : bulkR l (s.drop at_) = .fault wLine := by rw [HX.out, hm]
        clear hm hix
        go_wp2_with fail
        refine (HW.out wLine _).mono ?_; rintro e w1 ⟨rfl, hB⟩
        obtain ⟨hc, hf⟩ := bcell hB
        have HB := Lib.hid ((((Below.refl w.heap.size w).alloc (Nat.le_refl _) _).alloc (by simp) _).trans (hB.mono (by simp; omega)))
        clear hB
        unfold thingV
        go_wp2_with fail
        exact bodyPost_ret (v := .tuple #[.string ⟨#[]⟩, .agg #[.slice none 0 0, .int .i64 0, .int .i64 2, .string ⟨(wLine : List UInt8).toArray⟩]]) (by simp [results, Try.results53, go_sem, hc]) rfl ⟨by repeat (first | exact HB.out | refine Below.setCell ?_ (by simp) _), .inr (.inl ⟨_, rfl, hE⟩)⟩
      · have htl := trim_len t
        have hcut : ∀ W, (Instr.slice 9 (.string ⟨(trim13 t).toArray⟩) (some (.int .i64 1)) none none).run Try.prog W = .ok (.string ⟨(trim13 t).tail.toArray⟩) W := cut_tail _ (by obtain ⟨r', hr'⟩ := trim_head (line_head HCK.out (by decide) hline) (by decide); rw [hr']; simp)
        have htt : (trim13 t).tail.length ≤ 1099511627776 := by simp; omega
        cases hcnt : countR l.bulk (trim13 t).tail with
        | none =>
          have HC := Lib.hid (fun W => rcount_none hcnt W hlb.out.bulk.2 htt)
          have hE : bulkR l (s.drop at_) = .fault wLength := by rw [HX.out, hline]; simp only [hcnt]
          clear hcnt hline hix
          go_wp2_with fail
          go_quiet ((go_at_call 52; exact Calls.quiet_of_same (HC.out _)))
          go_wp2_with fail
          refine (HW.out wLength _).mono ?_; rintro e w1 ⟨rfl, hB⟩
          obtain ⟨hc, hf⟩ := bcell hB
          have HB := Lib.hid ((below_drewN (((Below.refl w.heap.size w).alloc (Nat.le_refl _) _).alloc (by simp) _) _).trans (hB.mono (by simp; omega)))
          clear hB
          unfold thingV
          go_wp2_with fail
          exact bodyPost_ret (v := .tuple #[.string ⟨#[]⟩, .agg #[.slice none 0 0, .int .i64 0, .int .i64 2, .string ⟨(wLength : List UInt8).toArray⟩]]) (by simp [results, Try.results53, go_sem, hc]) rfl ⟨by repeat (first | exact HB.out | refine Below.setCell ?_ (by simp) _), .inr (.inl ⟨_, rfl, hE⟩)⟩
        | some m =>
          have HC := Lib.hid (fun W => rcount_some hcnt W hlb.out.bulk.2 htt)
          have hmb : m ≤ 1048576 := Nat.le_trans (countR_le hcnt) hlb.out.bulk.2
          have hE : bulkR l (s.drop at_) = (if (s.drop n).length ≤ m then .more else if (s.drop n)[m]? ≠ some 13 then .fault wEnd else if (s.drop n).length ≤ m + 1 then .more else if (s.drop n)[m + 1]? ≠ some 10 then .fault wEnd else .ok ((s.drop n).take m) ((s.drop n).drop (m + 2))) := by
            rw [HX.out, hline]; simp only [hcnt]
          rw [List.length_drop, List.getElem?_drop, List.getElem?_drop, List.drop_drop] at hE
          clear hcnt hline
          go_wp2_with fail
          go_quiet ((go_at_call 52; exact Calls.quiet_of_same (HC.out _)))
          clear hcut HC hix
          by_cases h1 : n + m < s.length
          · obtain ⟨c1, hc1⟩ : ∃ c, s[n + m]? = some c := ⟨_, List.getElem?_eq_getElem h1⟩
            have hix1 := idx_at hc1 ((n : Int) + m) (by omega)
            rw [if_neg (by omega), hc1] at hE
            by_cases h13 : c1 = 13
            · have t2 : ((c1.toNat : Int) == 13) = true := beqT 13 h13
              subst h13
              rw [if_neg (by simp)] at hE
              by_cases h2 : n + m + 1 < s.length
              · obtain ⟨c2, hc2⟩ : ∃ c, s[n + m + 1]? = some c := ⟨_, List.getElem?_eq_getElem h2⟩
                have hix2 := idx_at hc2 ((n : Int) + m + 1) (by omega)
                have hq : ((s.length : Int) - n == (m : Int) + 1) = false := by simp; omega
                rw [if_neg (by omega), show n + (m + 1) = n + m + 1 by omega, hc2] at hE
                by_cases h10 : c2 = 10
                · have t3 : ((c2.toNat : Int) == 10) = true := beqT 10 h10
                  subst h10
                  rw [if_neg (by simp)] at hE
                  have hcut := cut_run s (some (.int .i64 n)) (some (.int .i64 ((n : Int) + m))) n (n + m) (by omega) (by omega) (.inl rfl) (.inl (by simp))
                  rw [Nat.add_sub_cancel_left] at hcut
                  have HE := Lib.hid hE
                  have hN : ((n + (m + 2) : Nat) : Int) = (n : Int) + m + 2 := by omega
                  have HNN := Lib.hid hN
                  clear hE hc1 hc2 hN
                  generalize hav : (s.drop n).take m = a at *
                  have hv := Lib.hid hav
                  clear hav
                  go_wp2_with fail
                  refine bodyPost_ret (v := .tuple #[.string ⟨a.toArray⟩, .agg #[.slice none 0 0, .int .i64 ((n : Int) + m + 2), .int .i64 1, .string ⟨#[]⟩]]) (by simp [results, Try.results53, go_sem]) rfl ⟨by repeat (first | exact Below.refl _ _ | refine Below.setCell ?_ (by simp) _ | refine Below.drew ?_ | refine below_drewN ?_ _ | refine Below.alloc ?_ (by simp) _), .inr (.inr ⟨a, n + (m + 2), ?_, HE.out, by omega, by omega⟩)⟩
                  rw [HNN.out]; rfl
                · have t3 : ((c2.toNat : Int) == 10) = false := beqF 10 h10
                  rw [if_pos (by simpa using h10)] at hE
                  clear hc1 hc2
                  go_wp2_with fail
                  refine (HW.out wEnd _).mono ?_; rintro e w1 ⟨rfl, hB⟩
                  obtain ⟨hc, hf⟩ := bcell hB
                  have HB := Lib.hid ((below_drewN (((Below.refl w.heap.size w).alloc (Nat.le_refl _) _).alloc (by simp) _) _).trans (hB.mono (by simp; omega)))
                  clear hB
                  unfold thingV
                  go_wp2_with fail
                  exact bodyPost_ret (v := .tuple #[.string ⟨#[]⟩, .agg #[.slice none 0 0, .int .i64 0, .int .i64 2, .string ⟨(wEnd : List UInt8).toArray⟩]]) (by simp [results, Try.results53, go_sem, hc]) rfl ⟨by repeat (first | exact HB.out | refine Below.setCell ?_ (by simp) _), .inr (.inl ⟨_, rfl, hE⟩)⟩
              · have hq : ((s.length : Int) - n == (m : Int) + 1) = true := by simp; omega
                rw [if_pos (by omega)] at hE
                clear hc1
                go_wp2_with fail
                exact bodyPost_ret (v := .tuple #[.string ⟨#[]⟩, .agg #[.slice none 0 0, .int .i64 0, .int .i64 0, .string ⟨#[]⟩]]) (by simp [results, Try.results53, go_sem]) rfl ⟨by repeat (first | exact Below.refl _ _ | refine Below.setCell ?_ (by simp) _ | refine Below.drew ?_ | refine below_drewN ?_ _ | refine Below.alloc ?_ (by simp) _), .inl ⟨rfl, hE⟩⟩
            · have t2 : ((c1.toNat : Int) == 13) = false := beqF 13 h13
              have t2n : ((c1.toNat : Int) != 13) = true := bneT 13 h13
              rw [if_pos (by simpa using h13)] at hE
              clear hc1
              go_wp2_with fail
              refine (HW.out wEnd _).mono ?_; rintro e w1 ⟨rfl, hB⟩
              obtain ⟨hc, hf⟩ := bcell hB
              have HB := Lib.hid ((below_drewN (((Below.refl w.heap.size w).alloc (Nat.le_refl _) _).alloc (by simp) _) _).trans (hB.mono (by simp; omega)))
              clear hB
              unfold thingV
              go_wp2_with fail
              exact bodyPost_ret (v := .tuple #[.string ⟨#[]⟩, .agg #[.slice none 0 0, .int .i64 0, .int .i64 2, .string ⟨(wEnd : List UInt8).toArray⟩]]) (by simp [results, Try.results53, go_sem, hc]) rfl ⟨by repeat (first | exact HB.out | refine Below.setCell ?_ (by simp) _), .inr (.inl ⟨_, rfl, hE⟩)⟩
          · rw [if_pos (by omega)] at hE
            go_wp2_with fail
            exact bodyPost_ret (v := .tuple #[.string ⟨#[]⟩, .agg #[.slice none 0 0, .int .i64 0, .int .i64 0, .string ⟨#[]⟩]]) (by simp [results, Try.results53, go_sem]) rfl ⟨by repeat (first | exact Below.refl _ _ | refine Below.setCell ?_ (by simp) _ | refine Below.drew ?_ | refine below_drewN ?_ _ | refine Below.alloc ?_ (by simp) _), .inl ⟨rfl, hE⟩⟩
    · have t1 : ((c.toNat : Int) == 36) = false := beqF 36 h36
      have t1n : ((c.toNat : Int) != 36) = true := bneT 36 h36
      have hE : bulkR l (s.drop at_) = .fault wBulk := bulkR_bad hck h36
      clear hck
      go_enter Try.func53, Try.ntmps53
      go_wp2_with fail
      refine (HW.out wBulk _).mono ?_; rintro e w1 ⟨rfl, hB⟩
      obtain ⟨hc, hf⟩ := bcell hB
      have HB := Lib.hid ((((Below.refl w.heap.size w).alloc (Nat.le_refl _) _).alloc (by simp) _).trans (hB.mono (by simp; omega)))
      clear hB
      unfold thingV
      go_wp2_with fail
      exact bodyPost_ret (v := .tuple #[.string ⟨#[]⟩, .agg #[.slice none 0 0, .int .i64 0, .int .i64 2, .string ⟨(wBulk : List UInt8).toArray⟩]]) (by simp [results, Try.results53, go_sem, hc]) rfl ⟨by repeat (first | exact HB.out | refine Below.setCell ?_ (by simp) _), .inr (.inl ⟨_, rfl, hE⟩)⟩
  · have heq : ((at_ : Int) == (s.length : Int)) = true := by simp; omega
    have hE : bulkR l (s.drop at_) = .more := by rw [List.drop_eq_nil_of_le (by omega)]; rfl
    go_enter Try.func53, Try.ntmps53
    go_wp2_with fail
    exact bodyPost_ret (v := .tuple #[.string ⟨#[]⟩, .agg #[.slice none 0 0, .int .i64 0, .int .i64 0, .string ⟨#[]⟩]]) (by simp [results, Try.results53, go_sem]) rfl ⟨by repeat (first | exact Below.refl _ _ | refine Below.setCell ?_ (by simp) _ | refine Below.drew ?_ | refine below_drewN ?_ _ | refine Below.alloc ?_ (by simp) _), .inl ⟨rfl, hE⟩⟩
end Go.Proofs.Ytgdgnpjgemcjgaa
