import Derived.Test.YtgdgnpjgemcjgaaM
namespace Go.Proofs.Ytgdgnpjgemcjgaa
open Go Go.RowKit
/-- The places of a list of texts, whatever its value. -/
theorem texts_cells {o : Roles} {w : World} {r : List Nat} {v : Value} {ws : List (List UInt8)} (h : Texts o w r v ws) :
    ∃ a cap, v = .slice a ws.length cap ∧ ws.length ≤ cap ∧ cap ≤ maxLen ∧ (ws = [] ∨ ∃ g, a = some ⟨g, 0, none⟩ ∧ o g = r ∧ ∀ (k : Nat) x, ws[k]? = some x → w.cell? ⟨g, k, none⟩ = some (.string ⟨x.toArray⟩)) := by
  rcases h.form with ⟨rfl, h2, h3⟩ | ⟨g, cap, cur, rfl, hb, h3, h4, h5, h6⟩
  · have : ws = [] := by simpa using h3
    subst this
    exact ⟨none, 0, rfl, Nat.le_refl _, by simp, .inl rfl⟩
  · refine ⟨some ⟨g, 0, none⟩, cap, rfl, h3, h4, .inr ⟨g, rfl, hb.role, fun k x hk => ?_⟩⟩
    have hkl : k < ws.length := (List.getElem?_eq_some_iff.1 hk).1
    rw [hb.cell, ← Array.getElem?_toList]
    have : (cur.toList.take (ws.length * 1))[k]? = some (txt x) := by rw [h6]; simp [hk]
    rw [List.getElem?_take, if_pos (by omega)] at this
    exact this
theorem any_at {l : Lim} {ws : List (List UInt8)} {k : Nat} {x : List UInt8} (h : ws[k]? = some x) (hx : l.bulk < x.length) : ws.any (fun w => decide (l.bulk < w.length)) = true := by
  rw [List.any_eq_true]; exact ⟨x, List.mem_of_getElem? h, by simpa using hx⟩
theorem any_none {l : Lim} {ws : List (List UInt8)} (h : ∀ x ∈ ws, x.length ≤ l.bulk) : ws.any (fun w => decide (l.bulk < w.length)) = false := by
  rw [List.any_eq_false]; intro x hx; have := h x hx; simp; omega
def WordsRel (l : Lim) (ws : List (List UInt8)) (i : Value) : Prop := ∃ k : Nat, k ≤ ws.length ∧ i = .int .i64 (k : Int) ∧ ∀ x ∈ ws.take k, x.length ≤ l.bulk
theorem words_go {l : Lim} {ws : List (List UInt8)} {k : Nat} {x : List UInt8} (h : ∀ x ∈ ws.take k, x.length ≤ l.bulk) (hx : ws[k]? = some x) (hl : ¬ l.bulk < x.length) : ∀ x ∈ ws.take (k + 1), x.length ≤ l.bulk := by
  intro y hy
  rw [List.take_add_one, hx] at hy
  rcases List.mem_append.1 hy with h1 | h1
  · exact h y h1
  · simp at h1; subst h1; omega

set_option maxRecDepth 10000 in
set_option maxHeartbeats 2000000 in
theorem thing_typed {o : Roles} {w : World} {r : List Nat} {b at_ : Nat} {s : List UInt8} {l : Lim} (h : Scan o w (r ++ [0]) b s at_ l) (hlt : at_ < s.length) {c : UInt8} (hck : s[at_]? = some c) (h42 : c ≠ 42) (hs : s.length ≤ 1099511627776) :
    Calls Try.prog 49 #[.pointer (some ⟨b, 0, none⟩)] w (ThingDid o w r b s at_ l) := by
  have hsz : (⟨s.toArray⟩ : ByteArray).size = s.length := by simp [ByteArray.size]
  have hc := h.cell
  have hf := h.free
  unfold scanC at hc
  have t1 : ((c.toNat : Int) == 42) = false := beqF 42 h42
  have N := need_ok b s w (hc 0) at_ (by omega)
  have hix := idx_ok hck
  have HL := Lib.hid (fun k => line_ok (h.drewN k) (Nat.le_of_lt hlt) hs)
  have HX := Lib.hid (thingR_typed (l := l) hck h42)
  clear hck h
  go_enter Try.func49, Try.ntmps49
  go_wp2_with fail
  refine N.mono ?_; rintro e w' ⟨rfl, rfl⟩
  go_wp2_with fail
  go_quiet (fail)
  go_wp2_with fail
  (with_reducible refine (HL.out _).mono ?_)
  rintro e w2 (⟨rfl, hm, q, rfl⟩ | ⟨rfl, hm, q, rfl⟩ | ⟨t, n, rfl, hline, htn, hn, htake, hS, hst⟩)
  · exact ⟨rfl, .stop (q := .more) (by rw [HX.out, hm]) rfl ((stp_draws _ _ _ _).drewN _)⟩
  · exact ⟨rfl, .stop (q := .fault wLine) (by rw [HX.out, hm]) rfl ((stp_draws _ _ _ _).drewN _)⟩
  have htl := trim_len t
  have SP := Lib.hid (split_ok o w2 (r ++ [1]) (trim13 t) (by omega))
  have HLN := Lib.hid hline
  have HSC := Lib.hid hS
  have HTT := Lib.hid ((Stp.fromN hst).wide (List.prefix_append r [0]))
  have hatn : at_ < n := by omega
  have htb : (trim13 t).length ≤ 1099511627776 := by omega
  clear hline htake hS hst hc hf hix N htn htl
  go_wp2_with fail
  refine SP.out.mono ?_; rintro e w3 (⟨rfl, hnone, o3, st3⟩ | ⟨v, ws, o3, rfl, hsome, hwl, hT, st3⟩)
  · have HD := Lib.hid (ThingDid.stop (b := b) (q := .fault wQuotes) (by rw [HX.out, HLN.out]; simp only [hnone]) rfl (HTT.out.trans (st3.wide (List.prefix_append _ _))))
    clear hnone st3 SP HSC HTT
    go_wp2_with fail
    exact ⟨rfl, HD.out⟩
  · have hE : thingR l (s.drop at_) = if l.args < ws.length then .fault wWords else if ws.any (fun w => decide (l.bulk < w.length)) then .fault wWords else .ok ws (s.drop n) := by
      rw [HX.out, HLN.out]; simp only [hsome]
    have HE := Lib.hid hE
    have HSS := Lib.hid (HSC.out.keep st3 (np_app (by simp)))
    have hc := HSS.out.cell
    unfold scanC at hc
    have HST := Lib.hid (HTT.out.trans (st3.wide (List.prefix_append _ _)))
    have HT := Lib.hid hT
    obtain ⟨a, cap, rfl, hcap1, hcap2, hcells⟩ := texts_cells hT
    clear hE hsome st3 SP HSC HTT hT HLN HX HL
    by_cases hargs : l.args < ws.length
    · have HD := Lib.hid (ThingDid.stop (b := b) (q := .fault wWords) (by rw [HE.out, if_pos hargs]) rfl HST.out)
      have hd : decide ((l.args : Int) < (ws.length : Int)) = true := by simpa using hargs
      clear hcells
      go_wp2_with fail
      exact ⟨rfl, HD.out⟩
    · have hd : decide ((l.args : Int) < (ws.length : Int)) = false := by simpa using hargs
      have hE := HE.out
      rw [if_neg hargs] at hE
      have HE2 := Lib.hid hE
      have hat : WordsRel l ws (.int .i64 0) := ⟨0, Nat.zero_le _, rfl, by simp⟩
      clear hE HE
      go_wp2_with fail
      go_loop [69] (fun i => WordsRel l ws i) (fun i => ws.length - (intOf i).toNat)
      case atStart => exact hat
      case round =>
        obtain ⟨k, hk, rfl, hall⟩ := hrel
        clear hat
        by_cases hkl : k < ws.length
        · obtain ⟨x, hx⟩ : ∃ x, ws[k]? = some x := ⟨_, List.getElem?_eq_getElem hkl⟩
          rcases hcells with hnil | ⟨g, rfl, hg, hcells⟩
          · subst hnil; exact absurd hkl (by simp)
          have hcell := hcells k x hx
          have hxs : (⟨x.toArray⟩ : ByteArray).size = x.length := by simp [ByteArray.size]
          clear hcells
          by_cases hxl : l.bulk < x.length
          · have HD := Lib.hid (ThingDid.stop (b := b) (q := .fault wWords) (by rw [HE2.out, if_pos (any_at hx hxl)]) rfl HST.out)
            have hd2 : decide ((l.bulk : Int) < (x.length : Int)) = true := by simpa using hxl
            clear hx hall
            go_wp2_with fail
            exact ⟨rfl, HD.out⟩
          · have HN := Lib.hid (words_go hall hx hxl)
            have hd2 : decide ((l.bulk : Int) < (x.length : Int)) = false := by simpa using hxl
            clear hx hall
            go_wp2_with fail
            go_round
            case rel => exact ⟨k + 1, by omega, by go_num, HN.out⟩
            case measure => simp [intOf]; omega
        · have HD := Lib.hid (show ThingDid o w' r b s at_ l (.returned (.slice a ws.length cap)) w3 from .inr ⟨_, ws, n, o3, rfl, by rw [HE2.out, if_neg (by rw [any_none (by rw [List.take_of_length_le (by omega)] at hall; exact hall)]; simp)], hatn, hn, HT.out, HSS.out, HST.out⟩)
          clear hcells hall
          go_wp2_with fail
          go_ret
          exact HD.out

/-- What stands at a place of the stream. -/
theorem thing_ok {o : Roles} {w : World} {r : List Nat} {b at_ : Nat} {s : List UInt8} {l : Lim} (h : Scan o w (r ++ [0]) b s at_ l) (ha : at_ ≤ s.length) (hs : s.length ≤ 1099511627776) (hl : LimOk l) :
    Calls Try.prog 49 #[.pointer (some ⟨b, 0, none⟩)] w (ThingDid o w r b s at_ l) := by
  by_cases hlt : at_ < s.length
  · by_cases h42 : s[at_] = 42
    · exact thing_array h hlt (by rw [List.getElem?_eq_getElem hlt, h42]) hs hl
    · exact thing_typed h hlt (List.getElem?_eq_getElem hlt) h42 hs
  · have hc := h.cell
    unfold scanC at hc
    have N := need_no b s w (hc 0) at_ (by omega)
    have HH := Lib.hid (ThingDid.stop (o := o) (w := w) (w' := w) (r := r) (b := b) (at_ := at_) (s := s) (l := l) (q := .more) (by rw [List.drop_eq_nil_of_le (by omega), thingR, lineR.eq_def]) rfl (Stp.refl _ _ _))
    go_enter Try.func49, Try.ntmps49
    go_wp2_with fail
    refine N.mono ?_; rintro e w' ⟨rfl, rfl⟩
    exact ⟨rfl, HH.out⟩
end Go.Proofs.Ytgdgnpjgemcjgaa
