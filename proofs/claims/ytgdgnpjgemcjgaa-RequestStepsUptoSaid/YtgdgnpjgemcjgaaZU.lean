import Derived.Test.YtgdgnpjgemcjgaaZT
namespace Go.Proofs.Ytgdgnpjgemcjgaa
open Go Go.RowKit
def RWordsRel (w : World) (l : Lim) (ws : List (List UInt8)) (i : Value) (wr : World) : Prop := ∃ k q : Nat, k ≤ ws.length ∧ i = .int .i64 (k : Int) ∧ wr = w.drewN q ∧ ∀ x ∈ ws.take k, x.length ≤ l.bulk
set_option maxRecDepth 10000 in
set_option maxHeartbeats 4000000 in
theorem rthing_typed (o : Roles) (w : World) (r : List Nat) (s : List UInt8) (at_ : Nat) (l : Lim) (hlt : at_ < s.length) {c : UInt8} (hck : s[at_]? = some c) (h42 : c ≠ 42) (hs : s.length ≤ 1099511627776) :
    Calls Try.prog 43 #[limW l, .string ⟨s.toArray⟩, .int .i64 at_] w (RThingDid o w r s at_ l) := by
  have hsz : (⟨s.toArray⟩ : ByteArray).size = s.length := by simp [ByteArray.size]
  have HW := Lib.hid wrong_ok
  have hix := idx_ok hck
  have t1 : ((c.toNat : Int) == 42) = false := beqF 42 h42
  have HL := Lib.hid (fun W => rline_ok s at_ l.line W (Nat.le_of_lt hlt) hs)
  have HX := Lib.hid (thingR_typed (l := l) hck h42)
  obtain ⟨hT0, hS0⟩ := RTh.start o w r l
  have HT0 := Lib.hid hT0
  have HS0 := Lib.hid hS0
  clear hck hT0 hS0
  unfold limW limV
  go_enter Try.func43, Try.ntmps43
  go_wp2_with fail
  refine (HL.out _).mono ?_
  rintro e w0 ⟨rfl, (⟨rfl, hm⟩ | ⟨rfl, hm⟩ | ⟨t, n, rfl, hline, htn, hn⟩)⟩
  · have hE : thingR l (s.drop at_) = .more := by rw [HX.out, hm]
    clear hm hix
    go_wp2_with fail
    exact bodyPost_ret (v := .agg (thingC (.slice none 0 0) 0 0 [])) (by simp [results, Try.results43, go_sem]) rfl ⟨o, Stp.ofBelow r o (by repeat (first | exact Below.refl _ _ | refine Below.setCell ?_ (by simp) _ | refine Below.drew ?_ | refine below_drewN ?_ _ | refine Below.alloc ?_ (by simp) _)), .inl ⟨rfl, hE⟩⟩
  · have hE : thingR l (s.drop at_) = .fault wLine := by rw [HX.out, hm]
    clear hm hix
    go_wp2_with fail
    refine (HW.out wLine _).mono ?_; rintro e w1 ⟨rfl, hB⟩
    obtain ⟨hc, hf⟩ := bcell hB
    have HB := Lib.hid ((((Below.refl w.heap.size w).alloc (Nat.le_refl _) _).alloc (by simp) _).trans (hB.mono (by simp; omega)))
    clear hB
    unfold thingV
    go_wp2_with fail
    exact bodyPost_ret (v := .agg (thingC (.slice none 0 0) 0 2 wLine)) (by simp [results, Try.results43, go_sem, hc]) rfl ⟨o, Stp.ofBelow r o (by repeat (first | exact HB.out | refine Below.setCell ?_ (by simp) _)), .inr (.inl ⟨_, rfl, hE⟩)⟩
  · have htl := trim_len t
    have htb : (trim13 t).length ≤ 1099511627776 := by omega
    have SP := Lib.hid (rsplit_ok ((o.put w.heap.size (r ++ [5])).put (w.heap.size + 1) (r ++ [6])) ((w.alloc (.cells #[.int .i64 l.bulk, .int .i64 l.args, .int .i64 l.line] 23)).alloc (.cells (thingC (.slice none 0 0) 0 0 []) 84)) (r ++ [0]) (trim13 t) htb)
    have hatn : at_ < n := by omega
    go_wp2_with fail
    refine SP.out.mono ?_; rintro e w3 (⟨rfl, hnone, o3, st3⟩ | ⟨v, ws, o3, rfl, hsome, hwl, hT, st3⟩)
    · have HE := Lib.hid (show thingR l (s.drop at_) = .fault wQuotes by rw [HX.out, hline]; simp only [hnone])
      have HTh := Lib.hid (HT0.out.keep (t := [0]) st3 (by simp) (by simp))
      have HS3 := Lib.hid (HS0.out.trans (st3.wide (List.prefix_append _ _)))
      clear hnone st3 hline hix SP
      go_wp2_with fail
      refine (HW.out wQuotes _).mono ?_; rintro e w4 ⟨rfl, hB⟩
      have hRes := (HTh.out.below hB).res
      have hcR := hRes.cell
      have hfR := hRes.free
      have hp6 : o3 (w.heap.size + 1) = r ++ [6] := hRes.role
      have HS4 := Lib.hid (HS3.out.trans (Stp.ofBelow r o3 hB))
      clear hB hRes
      unfold thingV
      go_wp2_with fail
      exact bodyPost_ret (v := .agg (thingC (.slice none 0 0) 0 2 wQuotes)) (by simp [results, Try.results43, go_sem, hcR]) rfl ⟨o3, stp4 HS4.out hp6 _ _ _ _, .inr (.inl ⟨_, rfl, HE.out⟩)⟩
    · have hE : thingR l (s.drop at_) = if l.args < ws.length then .fault wWords else if ws.any (fun w => decide (l.bulk < w.length)) then .fault wWords else .ok ws (s.drop n) := by
        rw [HX.out, hline]; simp only [hsome]
      have HE := Lib.hid hE
      have HTh := Lib.hid (HT0.out.keep (t := [0]) st3 (by simp) (by simp))
      have HS3 := Lib.hid (HS0.out.trans (st3.wide (List.prefix_append _ _)))
      have HT := Lib.hid hT
      have hc5 := HTh.out.lim.cell
      obtain ⟨a, cap, rfl, hcap1, hcap2, hcells⟩ := texts_cells hT
      clear hE hsome st3 SP hT hline hix
      by_cases hargs : l.args < ws.length
      · have hd : decide ((l.args : Int) < (ws.length : Int)) = true := by simpa using hargs
        have hE := HE.out
        rw [if_pos hargs] at hE
        clear hcells
        go_wp2_with fail
        refine (HW.out wWords _).mono ?_; rintro e w4 ⟨rfl, hB⟩
        have hRes := (HTh.out.below hB).res
        have hcR := hRes.cell
        have hfR := hRes.free
        have hp6 : o3 (w.heap.size + 1) = r ++ [6] := hRes.role
        have HS4 := Lib.hid (HS3.out.trans (Stp.ofBelow r o3 hB))
        clear hB hRes
        unfold thingV
        go_wp2_with fail
        exact bodyPost_ret (v := .agg (thingC (.slice none 0 0) 0 2 wWords)) (by simp [results, Try.results43, go_sem, hcR]) rfl ⟨o3, stp4 HS4.out hp6 _ _ _ _, .inr (.inl ⟨_, rfl, hE⟩)⟩
      · have hd : decide ((l.args : Int) < (ws.length : Int)) = false := by simpa using hargs
        have hE := HE.out
        rw [if_neg hargs] at hE
        have HE2 := Lib.hid hE
        have hat : RWordsRel w3 l ws (.int .i64 0) w3 := ⟨0, 0, Nat.zero_le _, rfl, rfl, by simp⟩
        clear hE HE
        go_wp2_with fail
        go_loopw [18] (fun i wr => RWordsRel w3 l ws i wr) (fun i _ => ws.length - (intOf i).toNat)
        case atStart => exact hat
        case round =>
          obtain ⟨k, q, hk, rfl, rfl, hall⟩ := hrel
          clear hat
          by_cases hkl : k < ws.length
          · obtain ⟨x, hx⟩ : ∃ x, ws[k]? = some x := ⟨_, List.getElem?_eq_getElem hkl⟩
            rcases hcells with hnil | ⟨g, rfl, hg, hcells⟩
            · subst hnil; exact absurd hkl (by simp)
            have hcell := hcells k x hx
            have hxs : (⟨x.toArray⟩ : ByteArray).size = x.length := by simp [ByteArray.size]
            have hkI : (0 : Int) ≤ k ∧ (k : Int) < ws.length := by omega
            obtain ⟨hk0, hk1⟩ := hkI
            clear hcells
            by_cases hxl : l.bulk < x.length
            · have hE := HE2.out
              rw [if_pos (any_at hx hxl)] at hE
              have hd2 : decide ((l.bulk : Int) < (x.length : Int)) = true := by simpa using hxl
              have HThq := Lib.hid (HTh.out.drewN q)
              clear hx hall
              go_wp2_with fail
              go_quiet (fail)
              go_wp2_with fail
              refine (HW.out wWords _).mono ?_; rintro e w4 ⟨rfl, hB⟩
              have hRes := ((HTh.out.drewN (q + nq)).below hB).res
              have hcR := hRes.cell
              have hfR := hRes.free
              have hp6 : o3 (w.heap.size + 1) = r ++ [6] := hRes.role
              have HS4 := Lib.hid ((HS3.out.drewN (q + nq)).trans (Stp.ofBelow r o3 hB))
              clear hB hRes
              unfold thingV
              go_wp2_with fail
              exact bodyPost_ret (v := .agg (thingC (.slice none 0 0) 0 2 wWords)) (by simp [results, Try.results43, go_sem, hcR]) rfl ⟨o3, stp4 HS4.out hp6 _ _ _ _, .inr (.inl ⟨_, rfl, hE⟩)⟩
            · have HN := Lib.hid (words_go hall hx hxl)
              have hd2 : decide ((l.bulk : Int) < (x.length : Int)) = false := by simpa using hxl
              clear hx hall
              go_wp2_with fail
              go_quiet (fail)
              go_wp2_with fail
              go_roundw
              case rel => exact ⟨k + 1, _, by omega, by go_num, by first | rfl | exact World.drewN_drewN _ _ _, HN.out⟩
              case measure => simp [intOf]; omega
          · have hE := HE2.out
            rw [if_neg (by rw [any_none (by rw [List.take_of_length_le (by omega)] at hall; exact hall)]; simp)] at hE
            have HE3 := Lib.hid hE
            have hRes := (HTh.out.drewN q).res
            have hcR := hRes.cell
            have hfR := hRes.free
            have hcR0 := HTh.out.res.cell
            have hfR0 := HTh.out.res.free
            have hp6 : o3 (w.heap.size + 1) = r ++ [6] := hRes.role
            have hr6 : o3 (w.heap.size + 1) ≠ r ++ [0] ++ [0] := by rw [hRes.role, List.append_assoc]; exact ne_app (by simp)
            have HTq := Lib.hid (Row.drewN HT.out q)
            clear hcells hall hE hRes
            go_wp2_with fail
            exact bodyPost_ret (v := .agg (thingC (.slice a ws.length cap) n 1 [])) (by simp [results, Try.results43, go_sem, hcR]) rfl ⟨o3, stp4 (HS3.out.drewN q) hp6 _ _ _ _, .inr (.inr ⟨_, ws, n, rfl, HE3.out, row4 HTq.out hr6 _ _ _ _, hatn, hn⟩)⟩
theorem rthing_ok (o : Roles) (w : World) (r : List Nat) (s : List UInt8) (at_ : Nat) (l : Lim) (hlt : at_ < s.length) (hs : s.length ≤ 1099511627776) (hl : LimOk l) :
    Calls Try.prog 43 #[limW l, .string ⟨s.toArray⟩, .int .i64 at_] w (RThingDid o w r s at_ l) := by
  by_cases h42 : s[at_] = 42
  · exact rthing_array o w r s at_ l hlt (by rw [List.getElem?_eq_getElem hlt, h42]) hs hl
  · exact rthing_typed o w r s at_ l hlt (List.getElem?_eq_getElem hlt) h42 hs
end Go.Proofs.Ytgdgnpjgemcjgaa
