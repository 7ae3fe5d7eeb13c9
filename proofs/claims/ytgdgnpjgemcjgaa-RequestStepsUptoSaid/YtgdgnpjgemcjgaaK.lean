import Derived.Test.YtgdgnpjgemcjgaaJ
namespace Go.Proofs.Ytgdgnpjgemcjgaa
open Go Go.RowKit
/-- The block of a scan. -/
def scanC (s : List UInt8) (at_ : Nat) (l : Lim) : Array Value := #[.string ⟨s.toArray⟩, .int .i64 at_, .int .i64 l.bulk, .int .i64 l.args, .int .i64 l.line]
abbrev Scan (o : Roles) (w : World) (r : List Nat) (b : Nat) (s : List UInt8) (at_ : Nat) (l : Lim) : Prop := Blk o w r b (scanC s at_ l) 77
structure LimOk (l : Lim) : Prop where
  bulk : 1 ≤ l.bulk ∧ l.bulk ≤ 1048576
  args : 1 ≤ l.args ∧ l.args ≤ 65536
  line : 32 ≤ l.line ∧ l.line ≤ 65536
theorem stp_draws (r : List Nat) (o : Roles) (w : World) (k : Nat) : Stp r o w o (w.drewN k) := (Stp.refl r o w).drewN k
theorem Scan.goto {o : Roles} {w : World} {r : List Nat} {b at_ : Nat} {s : List UInt8} {l : Lim} (h : Scan o w r b s at_ l) (n : Nat) : Scan o (w.setCell ⟨b, 1, none⟩ (.int .i64 n)) r b s n l ∧ Stp r o w o (w.setCell ⟨b, 1, none⟩ (.int .i64 n)) :=
  ⟨h.setCell 1 _, (Stp.refl _ _ _).setCell (by rw [show o b = r from h.role]; exact List.prefix_refl _) _⟩
theorem Scan.drewN {o : Roles} {w : World} {r : List Nat} {b at_ : Nat} {s : List UInt8} {l : Lim} (h : Scan o w r b s at_ l) (n : Nat) : Scan o (w.drewN n) r b s at_ l := Blk.drewN h n

def LineDid (o : Roles) (w : World) (r : List Nat) (b : Nat) (s : List UInt8) (at_ : Nat) (l : Lim) (e : Ending) (w' : World) : Prop :=
  (e = stops [] ∧ lineR l.line (s.drop at_) = .more ∧ ∃ k, w' = w.drewN k) ∨ (e = stops wLine ∧ lineR l.line (s.drop at_) = .bad ∧ ∃ k, w' = w.drewN k) ∨
  ∃ t n, e = .returned (.string ⟨(trim13 t).toArray⟩) ∧ lineR l.line (s.drop at_) = .ok t (s.drop n) ∧ at_ + t.length + 1 = n ∧ n ≤ s.length ∧ t = (s.drop at_).take t.length ∧ Scan o w' r b s n l ∧ Stp r o w o w'
def LineRel (w : World) (L : Nat) (s : List UInt8) (at_ : Nat) (v : Value) (wr : World) : Prop := ∃ i k : Nat, v = .int .i64 (i : Int) ∧ wr = w.drewN k ∧ LineI L s at_ i
theorem LineDid.good {o : Roles} {w : World} {r : List Nat} {b at_ i : Nat} {s : List UInt8} {l : Lim} (h : Scan o w r b s at_ l) (hI : LineI l.line s at_ i) (hb : s[i]? = some 10) (k : Nat) (N : Int) (hN : N = i + 1) :
    LineDid o w r b s at_ l (.returned (.string ⟨(trim13 ((s.drop at_).take (i - at_))).toArray⟩)) ((w.setCell ⟨b, 1, none⟩ (.int .i64 N)).drewN k) := by
  have hi : i < s.length := (List.getElem?_eq_some_iff.1 hb).1
  have h1 := hI.1
  have hl : ((s.drop at_).take (i - at_)).length = i - at_ := by simp; omega
  obtain ⟨hs, ht⟩ := h.goto (i + 1)
  have : N = ((i + 1 : Nat) : Int) := by omega
  subst this
  exact .inr (.inr ⟨_, i + 1, rfl, hI.done hb, by rw [hl]; omega, hi, by rw [hl], hs.drewN k, ht.drewN k⟩)

set_option maxHeartbeats 1000000 in
theorem line_ok {o : Roles} {w : World} {r : List Nat} {b at_ : Nat} {s : List UInt8} {l : Lim} (h : Scan o w r b s at_ l) (ha : at_ ≤ s.length) (hs : s.length ≤ 1099511627776) :
    Calls Try.prog 57 #[.pointer (some ⟨b, 0, none⟩)] w (LineDid o w r b s at_ l) := by
  have hsz : (⟨s.toArray⟩ : ByteArray).size = s.length := by simp [ByteArray.size]
  have hc := h.cell
  have hf := h.free
  unfold scanC at hc
  have HB := Lib.hid h
  clear h
  go_enter Try.func57, Try.ntmps57
  go_wp2_with fail
  go_loopw [3] (fun v wr => LineRel w l.line s at_ v wr) (fun i _ => s.length - (intOf i).toNat)
  case atStart => exact ⟨at_, 0, rfl, rfl, .start _ _ _ ha⟩
  case round =>
    obtain ⟨i, k, rfl, rfl, hI⟩ := hrel
    have hai := hI.1
    have hil := hI.2.1
    have hiL := hI.2.2.1
    by_cases hlt : i < s.length
    · have N := need_ok b s (w.drewN k) (hc 0) i (by omega)
      obtain ⟨c, hck⟩ : ∃ c, s[i]? = some c := ⟨_, List.getElem?_eq_getElem hlt⟩
      have hix := idx_ok hck
      by_cases h10 : c = 10
      · have t1 : ((c.toNat : Int) == 10) = true := beqT 10 h10
        subst h10
        have HD := Lib.hid (LineDid.good HB.out hI hck)
        have hcut := cut_run s (some (.int .i64 at_)) (some (.int .i64 i)) at_ i hai hil (.inl rfl) (.inl rfl)
        have T := trimS_ok ((s.drop at_).take (i - at_)) (by simp; omega)
        generalize (s.drop at_).take (i - at_) = t at *
        clear hI hck
        go_wp2_with fail
        refine N.mono ?_; rintro e w' ⟨rfl, rfl⟩
        go_wp2_with fail
        go_quiet (fail)
        go_wp2_with fail
        refine (T _).mono ?_; rintro e w' ⟨rfl, rfl⟩
        go_wp2_with fail
        go_ret
        exact HD.out _ _ (by go_num)
      · have t1 : ((c.toNat : Int) == 10) = false := beqF 10 h10
        by_cases hL : i - at_ = l.line
        · have hw1 : IntKind.i64.wrap ((i : Int) - at_) = (i : Int) - at_ := IntWalk.i64_in _ (by omega)
          have hw2 : ((i : Int) - at_ == (l.line : Int)) = true := by simp; omega
          have HD : ∀ q, LineDid o w r b s at_ l (stops wLine) ((w.drewN q)) := fun q => .inr (.inl ⟨rfl, hI.bad hck h10 hL, q, rfl⟩)
          have HH := Lib.hid HD
          clear hI hck hL HD
          go_wp2_with fail
          refine N.mono ?_; rintro e w' ⟨rfl, rfl⟩
          go_wp2_with fail
          go_quiet (fail)
          go_wp2_with fail
          exact ⟨rfl, HH.out _⟩
        · have hw1 : IntKind.i64.wrap ((i : Int) - at_) = (i : Int) - at_ := IntWalk.i64_in _ (by omega)
          have hw2 : ((i : Int) - at_ == (l.line : Int)) = false := by simp; omega
          have HI := Lib.hid (hI.go hck h10 hL)
          clear hI hck hL
          go_wp2_with fail
          refine N.mono ?_; rintro e w' ⟨rfl, rfl⟩
          go_wp2_with fail
          go_quiet (fail)
          go_wp2_with fail
          go_roundw
          case rel => exact ⟨i + 1, _, by go_num, rfl, HI.out⟩
          case measure => simp [intOf]; omega
    · have N := need_no b s (w.drewN k) (hc 0) i (by omega)
      have HD : LineDid o w r b s at_ l (stops []) (w.drewN k) := .inl ⟨rfl, hI.more (by omega), k, rfl⟩
      have HH := Lib.hid HD
      clear hI HD
      go_wp2_with fail
      refine N.mono ?_; rintro e w' ⟨rfl, rfl⟩
      exact ⟨rfl, HH.out⟩

/-! ### A count -/
theorem digitsF_bad {most n : Nat} {b : UInt8} {r : List UInt8} (h : b < 48 ∨ 57 < b) : digitsF most n (b :: r) = none := by rw [digitsF, if_pos h]
theorem digitsF_big {most n : Nat} {b : UInt8} {r : List UInt8} (h : most < 10 * n + (b.toNat - 48)) : digitsF most n (b :: r) = none := by
  rw [digitsF, if_pos h]; split <;> rfl
theorem digitsF_go {most n : Nat} {b : UInt8} {r : List UInt8} (h : ¬ (b < 48 ∨ 57 < b)) (h2 : ¬ most < 10 * n + (b.toNat - 48)) : digitsF most n (b :: r) = digitsF most (10 * n + (b.toNat - 48)) r := by
  rw [digitsF, if_neg h, if_neg h2]
def CountI (most : Nat) (s : List UInt8) (i n : Nat) : Prop := n ≤ most ∧ digitsF most 0 s = digitsF most n (s.drop i)
/-- What a count answers: the number, or none. -/
def CountDid (most : Nat) (s word : List UInt8) (w : World) (e : Ending) (w' : World) : Prop :=
  w' = w ∧ ((e = stops word ∧ countR most s = none) ∨ ∃ n : Nat, n ≤ most ∧ e = .returned (.int .i64 n) ∧ countR most s = some n)
def CountRel (most : Nat) (s : List UInt8) (v i : Value) : Prop := ∃ k n : Nat, k ≤ s.length ∧ i = .int .i64 (k : Int) ∧ v = .int .i64 (n : Int) ∧ CountI most s k n

set_option maxRecDepth 10000 in
set_option maxHeartbeats 1000000 in
theorem count_ok (s word : List UInt8) (most : Nat) (w : World) (hm : most ≤ 1048576) (hs : s.length ≤ 1099511627776) :
    Calls Try.prog 58 #[.string ⟨s.toArray⟩, .int .i64 most, .string ⟨word.toArray⟩] w (CountDid most s word w) := by
  have hsz : (⟨s.toArray⟩ : ByteArray).size = s.length := by simp [ByteArray.size]
  by_cases hnil : s = []
  · have D : CountDid most s word w (stops word) w := ⟨rfl, .inl ⟨rfl, by rw [countR, if_pos (.inl hnil)]⟩⟩
    have HD := Lib.hid D
    clear D
    subst hnil
    go_enter Try.func58, Try.ntmps58
    go_wp2_with fail
    exact ⟨rfl, HD.out⟩
  · obtain ⟨b0, r0, rfl⟩ := List.exists_cons_of_ne_nil hnil
    have hix0 : ∀ w, (Instr.index 9 (.string ⟨(b0 :: r0).toArray⟩) (.int .i64 0)).run Try.prog w = .ok (.int .u8 (b0.toNat : Int)) w := idx_ok (k := 0) rfl
    have hlen1 : 1 ≤ (b0 :: r0).length := by simp
    have hne : (b0 :: r0).isEmpty = false := rfl
    by_cases hz : 1 < (b0 :: r0).length ∧ b0 = 48
    · have D : CountDid most (b0 :: r0) word w (stops word) w := ⟨rfl, .inl ⟨rfl, by rw [countR, if_pos (.inr ⟨hz.1, by rw [hz.2]; rfl⟩)]⟩⟩
      have HD := Lib.hid D
      obtain ⟨hz1, hz2⟩ := hz
      have t1 : ((b0.toNat : Int) == 48) = true := beqT 48 hz2
      clear D hz2
      generalize b0 :: r0 = s at *
      go_enter Try.func58, Try.ntmps58
      go_wp2_with fail
      exact ⟨rfl, HD.out⟩
    · have hcount : countR most (b0 :: r0) = digitsF most 0 (b0 :: r0) := by
        rw [countR, if_neg]
        rintro (h | ⟨h1, h2⟩)
        · cases h
        · exact hz ⟨h1, by simpa using h2⟩
      have hcase : (1 < (b0 :: r0).length ∧ ((b0.toNat : Int) == 48) = false) ∨ ¬ 1 < (b0 :: r0).length := by
        by_cases h1 : 1 < (b0 :: r0).length
        · exact .inl ⟨h1, beqF 48 (fun h => hz ⟨h1, h⟩)⟩
        · exact .inr h1
      clear hz
      have HC := Lib.hid hcount
      clear hcount
      generalize b0 :: r0 = s at *
      have hat : CountRel most s (.int .i64 0) (.int .i64 0) := ⟨0, 0, Nat.zero_le _, rfl, rfl, Nat.zero_le _, rfl⟩
      rcases hcase with ⟨hc1, hc2⟩ | hc1
      all_goals
        go_enter Try.func58, Try.ntmps58
        go_wp2_with fail
        go_loop [7, 8] (fun v i => CountRel most s v i) (fun _ i => s.length - (intOf i).toNat)
        case atStart => exact hat
        case round =>
          obtain ⟨k, n, hk, rfl, rfl, hn, hI⟩ := hrel
          clear hat hix0 hc1
          by_cases hlt : k < s.length
          · obtain ⟨c, hck⟩ : ∃ c, s[k]? = some c := ⟨_, List.getElem?_eq_getElem hlt⟩
            have hix := idx_ok hck
            rw [drop_at hck] at hI
            have hclt : (c.toNat : Int) < 256 := by have := c.toNat_lt; omega
            have hc0 : 0 ≤ (c.toNat : Int) := by omega
            by_cases hbad : c < 48 ∨ 57 < c
            · have D : CountDid most s word w (stops word) w := ⟨rfl, .inl ⟨rfl, by rw [HC.out, hI, digitsF_bad hbad]⟩⟩
              have HD := Lib.hid D
              have hbI : (c.toNat : Int) < 48 ∨ (¬ (c.toNat : Int) < 48 ∧ 57 < (c.toNat : Int)) := by
                simp only [UInt8.lt_iff_toNat_lt, UInt8.reduceToNat] at hbad; omega
              clear D hI hck hbad
              rcases hbI with h1 | ⟨h1, h2⟩
              · go_wp2_with fail
                exact ⟨rfl, HD.out⟩
              · go_wp2_with fail
                exact ⟨rfl, HD.out⟩
            · have h1 : 48 ≤ (c.toNat : Int) ∧ (c.toNat : Int) ≤ 57 := by
                simp only [UInt8.lt_iff_toNat_lt, UInt8.reduceToNat] at hbad; omega
              obtain ⟨h1, h2⟩ := h1
              have hw : IntKind.u8.wrap ((c.toNat : Int) - 48) = (c.toNat : Int) - 48 := IntWalk.u8_in _ (by omega)
              by_cases hbig : most < 10 * n + (c.toNat - 48)
              · have D : CountDid most s word w (stops word) w := ⟨rfl, .inl ⟨rfl, by rw [HC.out, hI, digitsF_big hbig]⟩⟩
                have HD := Lib.hid D
                have hbg : (most : Int) < 10 * (n : Int) + ((c.toNat : Int) - 48) := by omega
                clear D hI hck hbad hbig
                go_wp2_with fail
                exact ⟨rfl, HD.out⟩
              · have HI := Lib.hid (show CountI most s (k + 1) (10 * n + (c.toNat - 48)) from ⟨by omega, by rw [hI, digitsF_go hbad hbig]⟩)
                have hbg : ¬ (most : Int) < 10 * (n : Int) + ((c.toNat : Int) - 48) := by omega
                clear hI hck hbad hbig
                go_wp2_with fail
                go_round
                case rel => exact ⟨k + 1, _, by omega, by go_num, by congr 1; omega, HI.out⟩
                case measure => simp [intOf]; omega
          · have D : CountDid most s word w (.returned (.int .i64 n)) w := ⟨rfl, .inr ⟨n, hn, rfl, by rw [HC.out, hI, List.drop_eq_nil_of_le (by omega)]; rfl⟩⟩
            have HD := Lib.hid D
            clear D hI
            go_wp2_with fail
            go_ret
            exact HD.out
end Go.Proofs.Ytgdgnpjgemcjgaa
