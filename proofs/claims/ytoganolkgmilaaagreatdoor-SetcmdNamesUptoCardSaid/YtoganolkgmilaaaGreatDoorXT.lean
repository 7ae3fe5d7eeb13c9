import Derived.Test.YtoganolkgmilaaaGreatDoorXJ
namespace Go.Proofs.YtoganolkgmilaaaGreatDoor
open Go Go.RowKit
/-! The document's sets. -/
theorem gt_facts (e x : Tx) : (ltB x e = true → Op.bytesLess e x = false ∧ (e == x) = false) ∧ (ltB x e = false → Op.bytesLess e x = true ∨ (e == x) = true) := by
  have h := ltB_gt e x
  constructor
  · intro h1
    rw [h1] at h
    simpa using h
  · intro h1
    rw [h1] at h
    cases h2 : Op.bytesLess e x with
    | true => exact .inl rfl
    | false =>
      rw [h2] at h
      simp at h
      exact .inr (by simp [h])
/-- One more, in its place. -/
theorem ofL_ins {L pre : List Tx} {x : Tx} {at_ : Nat} (hL : L = ofL pre) (hlo : ∀ y ∈ L.take at_, ltB y x = true) (hhi : ∀ y ∈ L.drop at_, ltB x y = true) : ofL (pre ++ [x]) = L.take at_ ++ x :: L.drop at_ := by
  have ha : Asc L := by rw [hL]; exact ofL_asc _
  refine (ofL_eq ?_ fun y => ?_).symm
  · have e := ha
    rw [← List.take_append_drop at_ L] at e
    obtain ⟨e1, e2, e3⟩ := List.pairwise_append.1 e
    refine List.pairwise_append.2 ⟨e1, List.pairwise_cons.2 ⟨fun y hy => hhi y hy, e2⟩, fun a ha b hb => ?_⟩
    rcases List.mem_cons.1 hb with rfl | hb
    · exact hlo a ha
    · exact e3 a ha b hb
  · have h1 : y ∈ L ↔ y ∈ pre := by rw [hL]; exact ofL_mem y pre
    have h2 : y ∈ L ↔ y ∈ L.take at_ ∨ y ∈ L.drop at_ := by
      conv => lhs; rw [← List.take_append_drop at_ L]
      exact List.mem_append
    rw [List.mem_append, List.mem_cons, List.mem_append, List.mem_singleton, ← h1, h2]
    constructor
    · rintro (h | h | h)
      · exact .inl (.inl h)
      · exact .inr h
      · exact .inl (.inr h)
    · rintro ((h | h) | h)
      · exact .inl h
      · exact .inr (.inr h)
      · exact .inr (.inl h)
theorem ofL_has {L pre : List Tx} {x : Tx} (hL : L = ofL pre) (hx : x ∈ L) : ofL (pre ++ [x]) = L := by
  refine (ofL_eq (by rw [hL]; exact ofL_asc _) fun y => ?_).symm
  rw [List.mem_append, List.mem_singleton, hL, ofL_mem]
  constructor
  · exact .inl
  · rintro (h | h)
    · exact h
    · rw [h, ← ofL_mem, ← hL]; exact hx
def OfRel (w : World) (l : List Tx) (out i : Value) (wr : World) : Prop :=
  ∃ k o', k ≤ l.length ∧ i = .int .i64 (k : Int) ∧ Row o' wr [9, 0] 9 1 out (ofL (l.take k)).length ((ofL (l.take k)).map txt) ∧ Stp [9] none0 w o' wr
def AtRel (L : List Tx) (x : Tx) (w1 : World) (i : Value) (wr : World) : Prop := ∃ a n : Nat, a ≤ L.length ∧ i = .int .i64 (a : Int) ∧ wr = w1.drewN n ∧ ∀ y ∈ L.drop a, ltB x y = true
def ShRel (w : World) (L : List Tx) (a : Nat) (out i : Value) (wr : World) : Prop :=
  ∃ j o' y, a ≤ j ∧ j ≤ L.length ∧ i = .int .i64 (j : Int) ∧ Row o' wr [9, 0] 9 1 out (L.length + 1) ((L.take j ++ y :: L.drop j).map txt) ∧ Stp [9] none0 w o' wr
set_option maxRecDepth 100000 in
set_option maxHeartbeats 8000000 in
theorem rof_ok {A : Nat → Prop} {w : World} {v : Value} {l : List Tx} (h : Vw A w v 1 l.length (l.map txt)) (hn : l.length ≤ 1099511627776) : Calls Tryz.prog 20 #[v] w (MDid w (ofL l)) := by
  obtain ⟨a, c, rfl, _⟩ := id h.slice
  have HV := Lib.hid h
  have HAT := Lib.hid (show OfRel w l (.slice none 0 0) (.int .i64 0) w from ⟨0, none0, Nat.zero_le _, rfl, Row.nil _ _ _ _ _, Stp.refl _ _ _⟩)
  obtain ⟨i0, hi0, hz0, hz1, hz2⟩ := info_parts infoS
  clear h
  go_enter Tryz.func20, Tryz.ntmps20
  go_wp2_with fail
  go_loopw [3, 4] (fun out i wr => OfRel w l out i wr) (fun _ i _ => l.length - (intOf i).toNat)
  case atStart => exact HAT.out
  case round =>
    clear HAT
    obtain ⟨k, o', hk, rfl, hrow, hst⟩ := hrel
    obtain ⟨ao, co, rfl, _⟩ := id hrow.slice
    by_cases hkl : k < l.length
    · obtain ⟨x, hx⟩ : ∃ x, l[k]? = some x := ⟨_, List.getElem?_eq_getElem hkl⟩
      obtain ⟨b2, off2, rfl, _, hcap2, hg⟩ := vw_get (HV.out.below hst.below0) (by omega)
      have hc : wr.cell? ⟨b2, off2 + k, none⟩ = some (.string ⟨x.toArray⟩) := hg k x hx
      have hkI : (0 : Int) ≤ k ∧ (k : Int) < l.length := by omega
      obtain ⟨L, hL⟩ : ∃ L, L = ofL (l.take k) := ⟨_, rfl⟩
      have hLl : L.length ≤ l.length := by rw [hL]; exact Nat.le_trans (ofL_len _) (by simp; omega)
      rw [← hL] at hrow ⊢
      have HL := Lib.hid hL
      have HX := Lib.hid hx
      have HROW := Lib.hid hrow
      have HST := Lib.hid hst
      have hatr : AtRel L x wr (.int .i64 L.length) wr := ⟨L.length, 0, Nat.le_refl _, rfl, rfl, fun y hy => by rw [List.drop_length] at hy; cases hy⟩
      have HATR := Lib.hid hatr
      clear hL hx hrow hst hg hatr
      go_wp2_with fail
      go_loopw [5] (fun i wx => AtRel L x wr i wx) (fun i _ => (intOf i).toNat)
      case atStart => exact HATR.out
      case round =>
        clear HATR
        obtain ⟨at_, n, hat, rfl, rfl, hhi⟩ := hrel
        by_cases hz : at_ = 0
        · subst hz
          have hlo : ∀ y ∈ L.take 0, ltB y x = true := fun y hy => by rw [List.take_zero] at hy; cases hy
          have HFIN := Lib.hid (fun (o5 : Roles) (w5 : World) (vo : Value) (hr : Row o5 w5 [9, 0] 9 1 vo (L.length + 1) ((L.take 0 ++ x :: L.drop 0).map txt)) (hs : Stp [9] none0 w o5 w5) =>
            show OfRel w l vo (.int .i64 ((k + 1 : Nat) : Int)) w5 from ⟨k + 1, o5, hkl, rfl, by
              rw [show l.take (k + 1) = l.take k ++ [x] by rw [List.take_add_one, HX.out]; rfl, ofL_ins HL.out hlo hhi]
              have e : (L.take 0 ++ x :: L.drop 0).length = L.length + 1 := by simp
              rw [e]; exact hr, hs⟩)
          have hm1 : L.length + 1 ≤ maxLen := by unfold maxLen; omega
          have hm2 : (L.length + 1) * 16 ≤ 140737488355328 := by omega
          have HRQ := Lib.hid (fun (q : Nat) => show Row o' ((wr.drewN q).alloc (.cells #[.string ⟨#[]⟩] 9)) [9, 0] 9 1 (.slice ao L.length co) L.length (L.map txt) ∧ Stp [9] none0 w o' ((wr.drewN q).alloc (.cells #[.string ⟨#[]⟩] 9)) from ⟨(HROW.out.drewN q).below (lit_below _ _), (HST.out.drewN q).trans (Stp.ofBelow [9] o' (lit_below _ _))⟩)
          have HSQ := Lib.hid (fun (q : Nat) => (vw_new1 (wr.drewN q) [] 9).src (P := Tryz.prog) Tryz.underlying22 (one_list [[]]))
          have HVV := Lib.hid (show ∀ (W : World), Below w.heap.size w W → W.cell? ⟨b2, off2 + k, none⟩ = some (.string ⟨x.toArray⟩) from fun W hW => by
            obtain ⟨b3, off3, e3, _, _, hg3⟩ := vw_get (HV.out.below hW) (by omega)
            injection e3 with e4
            injection e4 with e5 e6 _
            subst e5 e6
            exact hg3 k x HX.out)
          unfold txt at HSQ
          clear HV HROW HST HX HL hlo hhi 
          go_wp2_with fail
          go_quiet (fail)
          go_wp2_with fail
          go_quiet (fail)
          go_wp2_with (
            at_builtin
            refine wpList_app _ rfl _ _ 22 22 rfl 9 i0 _ 1 16 Tryz.underlying22 hi0 hz0 hz1 hz2 rfl rfl (HRQ.out _).1 rfl (HSQ.out _) hm1 hm2 ?_
            intro v5 w5 o5 hrow5 hst5
            obtain ⟨a5, c5, rfl, _⟩ := id hrow5.slice
            have HSH := Lib.hid (show ShRel w L 0 (.slice a5 (L.length + 1) c5) (.int .i64 L.length) w5 from ⟨L.length, o5, [], by omega, Nat.le_refl _, rfl, by
              rw [List.take_length, List.drop_length, List.map_append]; exact hrow5, (HRQ.out _).2.trans (hst5.wide (by decide))⟩)
            clear hrow5 hst5 HRQ HSQ)
          go_loopw [6] (fun i wx => ShRel w L 0 (.slice a5 (L.length + 1) c5) i wx) (fun i _ => (intOf i).toNat)
          case atStart => exact HSH.out
          case round =>
            clear HSH
            obtain ⟨j, o6, y, hj1, hj2, rfl, hr6, hs6⟩ := hrel
            by_cases hja : 0 < j
            · obtain ⟨j1, rfl⟩ : ∃ j1, j = j1 + 1 := ⟨j - 1, by omega⟩
              obtain ⟨z, hzz⟩ : ∃ z, L[j1]? = some z := ⟨_, List.getElem?_eq_getElem (by omega)⟩
              have htk1 : L.take (j1 + 1) = L.take j1 ++ [z] := by rw [List.take_add_one, hzz]; rfl
              have hdr1 : L.drop j1 = z :: L.drop (j1 + 1) := by
                rw [List.drop_eq_getElem_cons (by omega)]
                congr 1
                rw [List.getElem?_eq_getElem (by omega)] at hzz
                exact Option.some.inj hzz
              obtain ⟨g6, cap6, e6, hcap6, hg6, hfz6, hcy, hset⟩ := hr6.set1 (k := j1 + 1) (by omega) (txt z)
              injection e6 with e7 _ e8
              subst e7 e8
              obtain ⟨g7, cap7, e9, _, _, _, hcl6, _⟩ := hr6.set1 (k := j1) (by omega) (txt z)
              injection e9 with e10 _ e11
              injection e10 with e10
              injection e10 with e10 _ _
              subst e10 e11
              have hcz : wr.cell? ⟨g6, j1, none⟩ = some (.string ⟨z.toArray⟩) := by
                have hl1 : (L.take j1).length = j1 := by simp; omega
                rw [hcl6, htk1, List.getElem?_map, List.append_assoc, List.getElem?_append_right (by omega), hl1, Nat.sub_self]
                rfl
              have hst6 : ((L.take (j1 + 1) ++ y :: L.drop (j1 + 1)).map txt).set (j1 + 1) (txt z) = (L.take j1 ++ z :: L.drop j1).map txt := by
                have hl : (L.take (j1 + 1)).length = j1 + 1 := by simp; omega
                rw [← List.map_set]
                congr 1
                conv => lhs; arg 2; rw [← hl]
                rw [set_append_mid, hdr1, htk1]; simp
              rw [hst6] at hset
              have D := Lib.hid (show ShRel w L 0 (.slice (some ⟨g6, 0, none⟩) (L.length + 1) c5) (.int .i64 (j1 : Int)) (wr.setCell ⟨g6, j1 + 1, none⟩ (.string ⟨z.toArray⟩)) from ⟨j1, o6, z, by omega, by omega, rfl, hset, hs6.setCell (by show [9] <+: o6 g6; rw [hg6]; decide) _⟩)
              have huu : wr.cell? ⟨g6, j1 + 1, none⟩ = some (.string ⟨y.toArray⟩) := by
                have hl2 : (L.take (j1 + 1)).length = j1 + 1 := by simp; omega
                rw [hcy, List.getElem?_map, List.getElem?_append_right (by omega), hl2, Nat.sub_self]
                rfl
              have ew6 : IntKind.i64.wrap (j1 : Int) = (j1 : Int) := by rw [IntKind.wrap_i64]; omega
              have hjI : (0 : Int) < (j1 : Int) + 1 := by omega
              have hj0 : (0 : Int) ≤ (j1 : Int) := by omega
              have hjl6 : (j1 : Int) + 1 < (L.length : Int) + 1 := by omega
              have etn6 : ((j1 : Int) + 1).toNat = j1 + 1 := by omega
              clear hset hst6 hcl6 hr6 hs6 hzz htk1 hdr1 HFIN HVV hj1 hj2 hcy
              go_wp2_with fail
              go_roundw
              case rel => exact D.out
              case measure => simp [intOf]
            · obtain rfl : j = 0 := by omega
              obtain ⟨g6, cap6, e6, hcap6, hg6, hfz6, hcl6, hset⟩ := hr6.set1 (k := 0) (by omega) (txt x)
              injection e6 with e7 _ e8
              subst e7 e8
              have hst6 : ((L.take 0 ++ y :: L.drop 0).map txt).set 0 (txt x) = (L.take 0 ++ x :: L.drop 0).map txt := by simp
              rw [hst6] at hset
              have D := Lib.hid (HFIN.out o6 _ _ hset (hs6.setCell (by show [9] <+: o6 g6; rw [hg6]; decide) _))
              have hcx := HVV.out wr hs6.below0
              have huu : wr.cell? ⟨g6, 0, none⟩ = some (.string ⟨y.toArray⟩) := by
                have hl2 : (L.take 0).length = 0 := by simp <;> omega
                rw [hcl6, List.getElem?_map, List.getElem?_append_right (by omega), hl2, Nat.sub_self]
                rfl
              have hjl6 : (0 : Int) < (L.length : Int) + 1 := by omega
              have hj0 : (0 : Int) ≤ (0 : Int) := by omega
              unfold txt at D
              clear hset hst6 hcl6 hr6 hs6 HFIN HVV hj1 hj2
              go_wp2_with fail
              go_roundw
              case rel => exact D.out
              case measure => simp [intOf]; omega
        · obtain ⟨a1, rfl⟩ : ∃ a1, at_ = a1 + 1 := ⟨at_ - 1, by omega⟩
          obtain ⟨e, he⟩ : ∃ e, L[a1]? = some e := ⟨_, List.getElem?_eq_getElem (by omega)⟩
          obtain ⟨bo, offo, rfl, _, hcapo, hgo⟩ := vw_get HROW.out.vw (by omega)
          have hce : wr.cell? ⟨bo, offo + a1, none⟩ = some (.string ⟨e.toArray⟩) := hgo _ e he
          have ew : IntKind.i64.wrap (a1 : Int) = (a1 : Int) := by rw [IntKind.wrap_i64]; omega
          have h0I : (0 : Int) < (a1 : Int) + 1 := by omega
          have hix : (a1 : Int) < (L.length : Int) := by omega
          have hix0 : (0 : Int) ≤ (a1 : Int) := by omega
          have hde : L.drop a1 = e :: L.drop (a1 + 1) := by
            rw [List.drop_eq_getElem_cons (by omega)]
            congr 1
            rw [List.getElem?_eq_getElem (by omega)] at he
            exact Option.some.inj he
          obtain ⟨g1, g2⟩ := gt_facts e x
          have HA1 := Lib.hid (show Asc L from by rw [HL.out]; exact ofL_asc _)
          clear hz
          cases hxe : ltB x e with
          | true =>
            obtain ⟨f1, f2⟩ := g1 hxe
            have D := Lib.hid (fun (q : Nat) => show AtRel L x wr (.int .i64 (a1 : Int)) (wr.drewN q) from ⟨a1, q, by omega, rfl, rfl, fun y hy => by
              rw [hde] at hy
              rcases List.mem_cons.1 hy with rfl | hy
              · exact hxe
              · exact hhi y hy⟩)
            clear g1 g2 hde hhi he hgo hxe HV HST HROW HA1
            go_wp2_with fail
            go_quiet (fail)
            go_wp2_with fail
            go_roundw
            case rel => first | exact D.out _ | (rw [World.drewN_drewN]; exact D.out _)
            case measure => simp [intOf]
          | false =>
            by_cases hex : e = x
            · subst hex
              have hmem : e ∈ L := List.mem_of_getElem? he
              have D := Lib.hid (fun (q : Nat) => show OfRel w l (.slice (some ⟨bo, offo, none⟩) L.length co) (.int .i64 ((k + 1 : Nat) : Int)) (wr.drewN q) from ⟨k + 1, o', hkl, rfl, by
                rw [show l.take (k + 1) = l.take k ++ [e] by rw [List.take_add_one, HX.out]; rfl, ofL_has HL.out hmem]
                exact HROW.out.drewN q, HST.out.drewN q⟩)
              have f1 : Op.bytesLess e e = false := less_irrefl e
              have f2 : (e == e) = true := by simp
              clear g1 g2 hde hhi he hgo hxe HV HST HROW HA1 hmem HX HL
              go_wp2_with fail
              go_quiet (fail)
              go_wp2_with fail
              go_quiet (fail)
              go_wp2_with fail
              go_roundw
              case rel => first | exact D.out _ | (rw [World.drewN_drewN]; exact D.out _) | (rw [World.drewN_drewN, World.drewN_drewN]; exact D.out _)
              case measure => simp [intOf]; omega
            · have f2 : (e == x) = false := beq_eq_false_iff_ne.2 hex
              have f1 : Op.bytesLess e x = true := by
                rcases g2 hxe with h | h
                · exact h
                · rw [f2] at h; cases h
              have hlo : ∀ y ∈ L.take (a1 + 1), ltB y x = true := fun y hy => by
                have e1 : L.take (a1 + 1) = L.take a1 ++ [e] := by rw [List.take_add_one, he]; rfl
                have ha := HA1.out
                rw [← List.take_append_drop a1 L, hde] at ha
                obtain ⟨_, _, h3⟩ := List.pairwise_append.1 ha
                rw [e1, List.mem_append, List.mem_singleton] at hy
                rcases hy with hy | rfl
                · exact less_trans y e x (h3 y hy e (by simp)) f1
                · exact f1
              have HFIN := Lib.hid (fun (o5 : Roles) (w5 : World) (vo : Value) (hr : Row o5 w5 [9, 0] 9 1 vo (L.length + 1) ((L.take (a1 + 1) ++ x :: L.drop (a1 + 1)).map txt)) (hs : Stp [9] none0 w o5 w5) =>
                show OfRel w l vo (.int .i64 ((k + 1 : Nat) : Int)) w5 from ⟨k + 1, o5, hkl, rfl, by
                  rw [show l.take (k + 1) = l.take k ++ [x] by rw [List.take_add_one, HX.out]; rfl, ofL_ins HL.out hlo hhi]
                  have e : (L.take (a1 + 1) ++ x :: L.drop (a1 + 1)).length = L.length + 1 := by simp; omega
                  rw [e]; exact hr, hs⟩)
              have hm1 : L.length + 1 ≤ maxLen := by unfold maxLen; omega
              have hm2 : (L.length + 1) * 16 ≤ 140737488355328 := by omega
              have HRQ := Lib.hid (fun (q : Nat) => show Row o' ((wr.drewN q).alloc (.cells #[.string ⟨#[]⟩] 9)) [9, 0] 9 1 (.slice (some ⟨bo, offo, none⟩) L.length co) L.length (L.map txt) ∧ Stp [9] none0 w o' ((wr.drewN q).alloc (.cells #[.string ⟨#[]⟩] 9)) from ⟨(HROW.out.drewN q).below (lit_below _ _), (HST.out.drewN q).trans (Stp.ofBelow [9] o' (lit_below _ _))⟩)
              have HSQ := Lib.hid (fun (q : Nat) => (vw_new1 (wr.drewN q) [] 9).src (P := Tryz.prog) Tryz.underlying22 (one_list [[]]))
              have HVV := Lib.hid (show ∀ (W : World), Below w.heap.size w W → W.cell? ⟨b2, off2 + k, none⟩ = some (.string ⟨x.toArray⟩) from fun W hW => by
                obtain ⟨b3, off3, e3, _, _, hg3⟩ := vw_get (HV.out.below hW) (by omega)
                injection e3 with e4
                injection e4 with e5 e6 _
                subst e5 e6
                exact hg3 k x HX.out)
              unfold txt at HSQ
              clear HV HROW HST HX HL hlo hhi g1 g2 hde he hgo hxe HA1 hex
              go_wp2_with fail
              go_quiet (fail)
              go_wp2_with fail
              go_quiet (fail)
              go_wp2_with (
                at_builtin
                refine wpList_app _ rfl _ _ 22 22 rfl 9 i0 _ 1 16 Tryz.underlying22 hi0 hz0 hz1 hz2 rfl rfl (HRQ.out _).1 rfl (HSQ.out _) hm1 hm2 ?_
                intro v5 w5 o5 hrow5 hst5
                obtain ⟨a5, c5, rfl, _⟩ := id hrow5.slice
                have HSH := Lib.hid (show ShRel w L (a1 + 1) (.slice a5 (L.length + 1) c5) (.int .i64 L.length) w5 from ⟨L.length, o5, [], by omega, Nat.le_refl _, rfl, by
                  rw [List.take_length, List.drop_length, List.map_append]; exact hrow5, (HRQ.out _).2.trans (hst5.wide (by decide))⟩)
                clear hrow5 hst5 HRQ HSQ)
              go_loopw [6] (fun i wx => ShRel w L (a1 + 1) (.slice a5 (L.length + 1) c5) i wx) (fun i _ => (intOf i).toNat)
              case atStart => exact HSH.out
              case round =>
                clear HSH
                obtain ⟨j, o6, y, hj1, hj2, rfl, hr6, hs6⟩ := hrel
                by_cases hja : (a1 + 1) < j
                · obtain ⟨j1, rfl⟩ : ∃ j1, j = j1 + 1 := ⟨j - 1, by omega⟩
                  obtain ⟨z, hzz⟩ : ∃ z, L[j1]? = some z := ⟨_, List.getElem?_eq_getElem (by omega)⟩
                  have htk1 : L.take (j1 + 1) = L.take j1 ++ [z] := by rw [List.take_add_one, hzz]; rfl
                  have hdr1 : L.drop j1 = z :: L.drop (j1 + 1) := by
                    rw [List.drop_eq_getElem_cons (by omega)]
                    congr 1
                    rw [List.getElem?_eq_getElem (by omega)] at hzz
                    exact Option.some.inj hzz
                  obtain ⟨g6, cap6, e6, hcap6, hg6, hfz6, hcy, hset⟩ := hr6.set1 (k := j1 + 1) (by omega) (txt z)
                  injection e6 with e7 _ e8
                  subst e7 e8
                  obtain ⟨g7, cap7, e9, _, _, _, hcl6, _⟩ := hr6.set1 (k := j1) (by omega) (txt z)
                  injection e9 with e10 _ e11
                  injection e10 with e10
                  injection e10 with e10 _ _
                  subst e10 e11
                  have hcz : wr.cell? ⟨g6, j1, none⟩ = some (.string ⟨z.toArray⟩) := by
                    have hl1 : (L.take j1).length = j1 := by simp; omega
                    rw [hcl6, htk1, List.getElem?_map, List.append_assoc, List.getElem?_append_right (by omega), hl1, Nat.sub_self]
                    rfl
                  have hst6 : ((L.take (j1 + 1) ++ y :: L.drop (j1 + 1)).map txt).set (j1 + 1) (txt z) = (L.take j1 ++ z :: L.drop j1).map txt := by
                    have hl : (L.take (j1 + 1)).length = j1 + 1 := by simp; omega
                    rw [← List.map_set]
                    congr 1
                    conv => lhs; arg 2; rw [← hl]
                    rw [set_append_mid, hdr1, htk1]; simp
                  rw [hst6] at hset
                  have D := Lib.hid (show ShRel w L (a1 + 1) (.slice (some ⟨g6, 0, none⟩) (L.length + 1) c5) (.int .i64 (j1 : Int)) (wr.setCell ⟨g6, j1 + 1, none⟩ (.string ⟨z.toArray⟩)) from ⟨j1, o6, z, by omega, by omega, rfl, hset, hs6.setCell (by show [9] <+: o6 g6; rw [hg6]; decide) _⟩)
                  have huu : wr.cell? ⟨g6, j1 + 1, none⟩ = some (.string ⟨y.toArray⟩) := by
                    have hl2 : (L.take (j1 + 1)).length = j1 + 1 := by simp; omega
                    rw [hcy, List.getElem?_map, List.getElem?_append_right (by omega), hl2, Nat.sub_self]
                    rfl
                  have ew6 : IntKind.i64.wrap (j1 : Int) = (j1 : Int) := by rw [IntKind.wrap_i64]; omega
                  have hjI : ((a1 + 1) : Int) < (j1 : Int) + 1 := by omega
                  have hj0 : (0 : Int) ≤ (j1 : Int) := by omega
                  have hjl6 : (j1 : Int) + 1 < (L.length : Int) + 1 := by omega
                  have etn6 : ((j1 : Int) + 1).toNat = j1 + 1 := by omega
                  clear hset hst6 hcl6 hr6 hs6 hzz htk1 hdr1 HFIN HVV hj1 hj2 hcy
                  go_wp2_with fail
                  go_roundw
                  case rel => exact D.out
                  case measure => simp [intOf]
                · obtain rfl : j = a1 + 1 := by omega
                  obtain ⟨g6, cap6, e6, hcap6, hg6, hfz6, hcl6, hset⟩ := hr6.set1 (k := a1 + 1) (by omega) (txt x)
                  injection e6 with e7 _ e8
                  subst e7 e8
                  have hst6 : ((L.take (a1 + 1) ++ y :: L.drop (a1 + 1)).map txt).set (a1 + 1) (txt x) = (L.take (a1 + 1) ++ x :: L.drop (a1 + 1)).map txt := by
                    have hl : (L.take (a1 + 1)).length = (a1 + 1) := by simp; omega
                    rw [← List.map_set]
                    congr 1
                    conv => lhs; arg 2; rw [← hl]
                    rw [set_append_mid]
                  rw [hst6] at hset
                  have D := Lib.hid (HFIN.out o6 _ _ hset (hs6.setCell (by show [9] <+: o6 g6; rw [hg6]; decide) _))
                  have hcx := HVV.out wr hs6.below0
                  have huu : wr.cell? ⟨g6, (a1 + 1), none⟩ = some (.string ⟨y.toArray⟩) := by
                    have hl2 : (L.take (a1 + 1)).length = (a1 + 1) := by simp <;> omega
                    rw [hcl6, List.getElem?_map, List.getElem?_append_right (by omega), hl2, Nat.sub_self]
                    rfl
                  have hjl6 : ((a1 : Int) + 1) < (L.length : Int) + 1 := by omega
                  have hj0 : (0 : Int) ≤ ((a1 : Int) + 1) := by omega
                  unfold txt at D
                  clear hset hst6 hcl6 hr6 hs6 HFIN HVV hj1 hj2
                  go_wp2_with fail
                  go_roundw
                  case rel => exact D.out
                  case measure => simp [intOf]; omega
    · obtain rfl : k = l.length := by omega
      have hlt : ofL (l.take l.length) = ofL l := by rw [List.take_length]
      rw [hlt] at hrow ⊢
      have hF := hrow.fresh2 (by decide) hst
      have D := Lib.hid (show MDid w (ofL l) (.returned (.slice ao (ofL l).length co)) wr from ⟨ao, co, rfl, hF.vw, hF.below⟩)
      clear hrow hst hF HV hlt
      go_wp2_with fail
      go_ret
      exact D.out
end Go.Proofs.YtoganolkgmilaaaGreatDoor
namespace Go.Proofs.YtoganolkgmilaaaGreatDoor
open Go Go.RowKit
/-! The document's sets: has, same, union. -/
set_option maxRecDepth 10000 in
set_option maxHeartbeats 2000000 in
theorem rhas_ok {A : Nat → Prop} {w : World} {v : Value} {n : Nat} {ws : List Tx} (h : Vw A w v 1 n (ws.map txt)) (hn : n ≤ 1099511627776) (x : Tx) : Calls Tryz.prog 21 #[v, txt x] w (HasDid w ws x) := by
  have hl : n = ws.length := by have := h.len; simpa using this.symm
  obtain ⟨a, cap, rfl, _⟩ := id h.slice
  have HV := Lib.hid h
  clear h
  unfold txt
  go_enter Tryz.func21, Tryz.ntmps21
  go_wp2_with fail
  go_loopw [5] (fun i wr => wr = w ∧ ∃ k : Nat, k ≤ n ∧ i = .int .i64 (k : Int) ∧ ∀ j y, j < k → ws[j]? = some y → y ≠ x) (fun i _ => n - (intOf i).toNat)
  case atStart => exact ⟨rfl, 0, Nat.zero_le _, rfl, fun j y hj => absurd hj (Nat.not_lt_zero _)⟩
  case round =>
    obtain ⟨rfl, k, hk, rfl, hno⟩ := hrel
    have HNO := Lib.hid hno
    clear hno
    by_cases hkl : k < n
    · obtain ⟨y, hy⟩ : ∃ y, ws[k]? = some y := ⟨_, List.getElem?_eq_getElem (by omega)⟩
      obtain ⟨bb, off, rfl, _, hcap, hgt⟩ := vw_get HV.out (by omega)
      have hcell : wr.cell? ⟨bb, off + k, none⟩ = some (.string ⟨y.toArray⟩) := hgt k y hy
      have hkI : (0 : Int) ≤ k ∧ (k : Int) < n := by omega
      have HY := Lib.hid hy
      clear hgt hy
      by_cases hyx : x = y
      · subst hyx
        go_wp2_with fail
        go_ret
        exact ⟨by rw [decide_eq_true (List.mem_of_getElem? HY.out)]; rfl, rfl⟩
      · have hd : (y == x) = false := beq_eq_false_iff_ne.2 (Ne.symm hyx)
        go_wp2_with fail
        go_roundw
        case rel => exact ⟨trivial, k + 1, hkl, by go_num, fun j z hj hz => by
          rcases Nat.lt_or_ge j k with h | h
          · exact HNO.out j z h hz
          · obtain rfl : j = k := by omega
            rw [HY.out] at hz
            cases hz
            exact fun e => hyx e.symm⟩
        case measure => simp [intOf]; omega
    · have hm : x ∉ ws := fun hx => by
        obtain ⟨j, hj, e⟩ := List.mem_iff_getElem.1 hx
        exact HNO.out j x (by omega) (by rw [List.getElem?_eq_getElem hj, e]) rfl
      have HM := Lib.hid hm
      clear hm
      go_wp2_with fail
      go_ret
      exact ⟨by rw [decide_eq_false HM.out]; rfl, rfl⟩
def SameDid (w : World) (a b : List Tx) (e : Ending) (w' : World) : Prop := e = .returned (.bool (decide (a = b))) ∧ Below w.heap.size w w'
set_option maxRecDepth 10000 in
set_option maxHeartbeats 2000000 in
theorem rsame_ok {A B : Nat → Prop} {w : World} {va vb : Value} {a b : List Tx} (ha : Vw A w va 1 a.length (a.map txt)) (hb : Vw B w vb 1 b.length (b.map txt)) (hn : a.length ≤ 1099511627776) (hm : b.length ≤ 1099511627776) : Calls Tryz.prog 23 #[va, vb] w (SameDid w a b) := by
  obtain ⟨aa, ca, rfl, _⟩ := id ha.slice
  obtain ⟨ab, cb, rfl, _⟩ := id hb.slice
  have HA := Lib.hid ha
  have HB := Lib.hid hb
  clear ha hb
  by_cases hl : a.length = b.length
  · have hl1 : ((a.length : Int) != (b.length : Int)) = false := by simp [hl]
    have hl2 : ((a.length : Int) == (b.length : Int)) = true := by simp [hl]
    have HLN := Lib.hid hl
    clear hl
    go_enter Tryz.func23, Tryz.ntmps23
    go_wp2_with fail
    go_loopw [5] (fun i wr => (∃ q, wr = w.drewN q) ∧ ∃ k : Nat, k ≤ a.length ∧ i = .int .i64 (k : Int) ∧ a.take k = b.take k) (fun i _ => a.length - (intOf i).toNat)
    case atStart => exact ⟨⟨0, rfl⟩, 0, Nat.zero_le _, rfl, by simp⟩
    case round =>
      obtain ⟨⟨q, rfl⟩, k, hk, rfl, htk⟩ := hrel
      have HTK := Lib.hid htk
      clear htk
      by_cases hkl : k < a.length
      · have hkb : k < b.length := by have := HLN.out; omega
        obtain ⟨x, hx⟩ : ∃ x, a[k]? = some x := ⟨_, List.getElem?_eq_getElem hkl⟩
        obtain ⟨y, hy⟩ : ∃ y, b[k]? = some y := ⟨_, List.getElem?_eq_getElem hkb⟩
        obtain ⟨b1, o1, rfl, _, hc1, hg1⟩ := vw_get HA.out (by omega)
        obtain ⟨b2, o2, rfl, _, hc2, hg2⟩ := vw_get HB.out (by omega)
        have hx1 : w.cell? ⟨b1, o1 + k, none⟩ = some (.string ⟨x.toArray⟩) := hg1 k x hx
        have hy1 : w.cell? ⟨b2, o2 + k, none⟩ = some (.string ⟨y.toArray⟩) := hg2 k y hy
        have hkI : (0 : Int) ≤ k ∧ (k : Int) < a.length := by omega
        obtain ⟨hk0, hk1⟩ := hkI
        have hk2 : (k : Int) < b.length := by omega
        have HX := Lib.hid hx
        have HY := Lib.hid hy
        clear hg1 hg2 hx hy
        by_cases hxy : x = y
        · subst hxy
          go_wp2_with fail
          go_quiet (fail)
          go_wp2_with fail
          go_roundw
          case rel => exact ⟨⟨_, by first | rfl | exact World.drewN_drewN _ _ _⟩, k + 1, hkl, by go_num, by rw [List.take_add_one, List.take_add_one, HX.out, HY.out, HTK.out]⟩
          case measure => simp [intOf]; omega
        · have hd : (x == y) = false := beq_eq_false_iff_ne.2 hxy
          have hd2 : (x != y) = true := by rw [bne, hd]; rfl
          have HN := Lib.hid (show a ≠ b from fun e => hxy (by have h1 := HX.out; have h2 := HY.out; rw [e, h2] at h1; exact (Option.some.inj h1).symm))
          clear hxy
          go_wp2_with fail
          go_quiet (fail)
          go_wp2_with fail
          go_ret
          exact ⟨by rw [decide_eq_false HN.out]; rfl, below_drewN (below_drewN (Below.refl _ _) _) _⟩
      · have HE := Lib.hid (show a = b from by
          have h := HTK.out
          have h2 := HLN.out
          obtain rfl : k = a.length := by omega
          rw [List.take_length, h2, List.take_length] at h
          exact h)
        go_wp2_with fail
        go_ret
        exact ⟨by rw [decide_eq_true HE.out]; rfl, below_drewN (Below.refl _ _) _⟩
  · have hl1 : ((a.length : Int) != (b.length : Int)) = true := by rw [bne, beq_eq_false_iff_ne.2 (show (a.length : Int) ≠ b.length by omega)]; rfl
    have hl2 : ((a.length : Int) == (b.length : Int)) = false := beq_eq_false_iff_ne.2 (by omega)
    have HN := Lib.hid (show a ≠ b from fun e => hl (by rw [e]))
    clear hl
    go_enter Tryz.func23, Tryz.ntmps23
    go_wp2_with fail
    go_ret
    exact ⟨by rw [decide_eq_false HN.out]; rfl, Below.refl _ _⟩
def UnRel (w : World) (R : List (List Tx)) (out i : Value) (wr : World) : Prop :=
  ∃ k o', k ≤ R.length ∧ i = .int .i64 (k : Int) ∧ Row o' wr [9, 0] 9 1 out (R.take k).flatten.length ((R.take k).flatten.map txt) ∧ Stp [9] none0 w o' wr
set_option maxRecDepth 10000 in
set_option maxHeartbeats 4000000 in
theorem runion_ok {A : Nat → Prop} {w : World} {v : Value} {R : List (List Tx)} (h : VwS A w v R) (hl : R.flatten.length ≤ 1099511627776) (hn : R.length ≤ 1099511627776) :
    Calls Tryz.prog 15 #[v] w (MDid w (ofL R.flatten)) := by
  obtain ⟨a, cap, rfl, hcap, _⟩ := id h.slice
  have HV := Lib.hid h
  have HAT := Lib.hid (show UnRel w R (.slice none 0 0) (.int .i64 0) w from ⟨0, none0, Nat.zero_le _, rfl, Row.nil _ _ _ _ _, Stp.refl _ _ _⟩)
  have HL := Lib.hid (show ∀ k l, R[k]? = some l → (R.take (k + 1)).flatten = (R.take k).flatten ++ l ∧ (R.take k).flatten.length + l.length ≤ 1099511627776 from fun k l hk => by
    have e2 : (R.take (k + 1)).flatten = (R.take k).flatten ++ l := by rw [List.take_add_one, hk]; simp
    have e : (R.take (k + 1)).flatten.length ≤ R.flatten.length := by
      conv => rhs; rw [← List.take_append_drop (k + 1) R, List.flatten_append, List.length_append]
      omega
    rw [e2, List.length_append] at e
    exact ⟨e2, by omega⟩)
  obtain ⟨i0, hi0, hz0, hz1, hz2⟩ := info_parts infoS
  have HLF := Lib.hid hl
  clear h hl
  go_enter Tryz.func15, Tryz.ntmps15
  go_wp2_with fail
  go_loopw [3, 4] (fun out i wr => UnRel w R out i wr) (fun _ i _ => R.length - (intOf i).toNat)
  case atStart => exact HAT.out
  case round =>
    clear HAT
    obtain ⟨k, o', hk, rfl, hrow, hst⟩ := hrel
    obtain ⟨ao, co, rfl, _⟩ := id hrow.slice
    by_cases hkl : k < R.length
    · obtain ⟨l, hx⟩ : ∃ l, R[k]? = some l := ⟨_, List.getElem?_eq_getElem hkl⟩
      obtain ⟨b2, off2, a6, c6, rfl, _, _, hc, hvl⟩ := (HV.out.below hst.below0).get (j := k) (l := l) hx
      obtain ⟨e1, hll⟩ := HL.out k l hx
      have hkI : (0 : Int) ≤ k ∧ (k : Int) < R.length := by omega
      have HROW := Lib.hid hrow
      have HSRC := Lib.hid (hvl.src (P := Tryz.prog) Tryz.underlying22 (one_list l))
      have HFIN := Lib.hid (fun (o5 : Roles) (w5 : World) (vo : Value) (hr : Row o5 w5 [9, 0] 9 1 vo ((R.take k).flatten.length + l.length) ((R.take k).flatten.map txt ++ l.map txt)) (hs : Stp [9, 0] o' wr o5 w5) =>
        show UnRel w R vo (.int .i64 ((k + 1 : Nat) : Int)) w5 from ⟨k + 1, o5, hkl, rfl, by rw [e1, List.length_append, List.map_append]; exact hr, hst.trans (hs.wide (by decide))⟩)
      have hm1 : (R.take k).flatten.length + l.length ≤ maxLen := by unfold maxLen; omega
      have hm2 : ((R.take k).flatten.length + l.length) * 16 ≤ 140737488355328 := by omega
      clear hx hvl hrow hst e1 HV HL
      generalize (R.take k).flatten = F at *
      go_wp2_with (
        at_builtin
        refine wpList_app _ rfl _ _ 22 22 rfl 9 i0 _ 1 16 Tryz.underlying22 hi0 hz0 hz1 hz2 rfl rfl HROW.out rfl HSRC.out hm1 hm2 ?_
        intro v5 w5 o5 hrow5 hst5
        obtain ⟨a5, c5, rfl, _⟩ := id hrow5.slice
        have D := Lib.hid (HFIN.out o5 w5 _ hrow5 hst5)
        clear hrow5 hst5 HROW HSRC HFIN)
      go_roundw
      case rel => exact D.out
      case measure => simp [intOf]; omega
    · obtain rfl : k = R.length := by omega
      have hlt : (R.take R.length).flatten = R.flatten := by rw [List.take_length]
      rw [hlt] at hrow ⊢
      have HO := Lib.hid (rof_ok hrow.vw HLF.out)
      have HB := Lib.hid hst.below0
      generalize R.flatten = F at *
      clear hrow hst hlt HV HL
      go_wp2_with fail
      refine HO.out.mono ?_; rintro e w5 ⟨a5, c5, rfl, hv5, hB5⟩
      have HV5 := Lib.hid (hv5.since HB.out)
      have HB5 := Lib.hid (HB.out.trans (hB5.mono HB.out.size))
      clear hv5 hB5 HO
      go_wp2_with fail
      go_ret
      exact ⟨a5, c5, rfl, HV5.out, HB5.out⟩
end Go.Proofs.YtoganolkgmilaaaGreatDoor
