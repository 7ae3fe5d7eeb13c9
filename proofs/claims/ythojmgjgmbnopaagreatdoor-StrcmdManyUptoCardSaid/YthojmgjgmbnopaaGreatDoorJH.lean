import Derived.Test.YthojmgjgmbnopaaGreatDoorVn
namespace Go.Proofs.YthojmgjgmbnopaaGreatDoor
open Go Go.RowKit
/-! The document's set of a list. -/
theorem ltB_gt (x m : Tx) : (!(Op.bytesLess x m || x == m)) = ltB m x := by
  rcases less_total x m with h | h | h
  · rw [h, ltB_asymm h]; rfl
  · subst h; simp [less_irrefl, ltB]
  · have h2 : Op.bytesLess x m = false := ltB_asymm h
    have h3 : (x == m) = false := by
      apply beq_eq_false_iff_ne.2
      rintro rfl
      rw [less_irrefl] at h; cases h
    rw [h2, h3]; exact h.symm
def MDid (w : World) (l : List Tx) (e : Ending) (w' : World) : Prop :=
  ∃ a c, e = .returned (.slice a l.length c) ∧ Vw (fun b => w.heap.size ≤ b) w' (.slice a l.length c) 1 l.length (l.map txt) ∧ Below w.heap.size w w'
theorem Row.freshW {o' : Roles} {w w' : World} {r t : List Nat} {a n sz : Nat} {e : TypeId} {v : Value} {xs : List Value} (h : Row o' w' r e sz v n xs) (h0 : r ≠ []) (st : Stp (a :: t) none0 w o' w') : Fresh w w' e sz v n xs := by
  refine ⟨?_, st.below0⟩
  rcases h.own.2 with h1 | ⟨g, cap, cur, h1, h2, h3, rest⟩
  · exact ⟨h.own.1, .inl h1⟩
  · refine ⟨h.own.1, .inr ⟨g, cap, cur, h1, ?_, h3, rest⟩⟩
    rcases Nat.lt_or_ge g w.heap.size with hg | hg
    · have e1 := h.role g (by simp [h1, Value.ownBlock])
      rw [st.old g hg] at e1
      exact absurd e1.symm h0
    · exact hg
theorem gt_facts (e x : Tx) : (ltB x e = true → Op.bytesLess e x = false ∧ (e == x) = false) ∧ (ltB x e = false → Op.bytesLess e x = true ∨ (e == x) = true) := by
  have h := ltB_gt e x
  constructor
  · intro h1
    rw [h1] at h
    simpa using h
  · intro h1
    rw [h1] at h
    cases h2 : Op.bytesLess e x with
    | true => exact .inl rfl
    | false =>
      rw [h2] at h
      simp at h
      exact .inr (by simp [h])
/-- One more, in its place. -/
theorem ofL_ins {L pre : List Tx} {x : Tx} {at_ : Nat} (hL : L = ofL pre) (hlo : ∀ y ∈ L.take at_, ltB y x = true) (hhi : ∀ y ∈ L.drop at_, ltB x y = true) : ofL (pre ++ [x]) = L.take at_ ++ x :: L.drop at_ := by
  have ha : Asc L := by rw [hL]; exact ofL_asc _
  refine (ofL_eq ?_ fun y => ?_).symm
  · have e := ha
    rw [← List.take_append_drop at_ L] at e
    obtain ⟨e1, e2, e3⟩ := List.pairwise_append.1 e
    refine List.pairwise_append.2 ⟨e1, List.pairwise_cons.2 ⟨fun y hy => hhi y hy, e2⟩, fun a ha b hb => ?_⟩
    rcases List.mem_cons.1 hb with rfl | hb
    · exact hlo a ha
    · exact e3 a ha b hb
  · have h1 : y ∈ L ↔ y ∈ pre := by rw [hL]; exact ofL_mem y pre
    have h2 : y ∈ L ↔ y ∈ L.take at_ ∨ y ∈ L.drop at_ := by
      conv => lhs; rw [← List.take_append_drop at_ L]
      exact List.mem_append
    rw [List.mem_append, List.mem_cons, List.mem_append, List.mem_singleton, ← h1, h2]
    constructor
    · rintro (h | h | h)
      · exact .inl (.inl h)
      · exact .inr h
      · exact .inl (.inr h)
    · rintro ((h | h) | h)
      · exact .inl h
      · exact .inr (.inr h)
      · exact .inr (.inl h)
theorem ofL_has {L pre : List Tx} {x : Tx} (hL : L = ofL pre) (hx : x ∈ L) : ofL (pre ++ [x]) = L := by
  refine (ofL_eq (by rw [hL]; exact ofL_asc _) fun y => ?_).symm
  rw [List.mem_append, List.mem_singleton, hL, ofL_mem]
  constructor
  · exact .inl
  · rintro (h | h)
    · exact h
    · rw [h, ← ofL_mem, ← hL]; exact hx
def OfRel (w : World) (l : List Tx) (out i : Value) (wr : World) : Prop :=
  ∃ k o', k ≤ l.length ∧ i = .int .i64 (k : Int) ∧ Row o' wr [9, 0] 9 1 out (ofL (l.take k)).length ((ofL (l.take k)).map txt) ∧ Stp [9] none0 w o' wr
def AtRel (L : List Tx) (x : Tx) (w1 : World) (i : Value) (wr : World) : Prop := ∃ a n : Nat, a ≤ L.length ∧ i = .int .i64 (a : Int) ∧ wr = w1.drewN n ∧ ∀ y ∈ L.drop a, ltB x y = true
def ShRel (w : World) (L : List Tx) (a : Nat) (out i : Value) (wr : World) : Prop :=
  ∃ j o' y, a ≤ j ∧ j ≤ L.length ∧ i = .int .i64 (j : Int) ∧ Row o' wr [9, 0] 9 1 out (L.length + 1) ((L.take j ++ y :: L.drop j).map txt) ∧ Stp [9] none0 w o' wr
set_option maxRecDepth 100000 in
set_option maxHeartbeats 8000000 in
theorem rof_ok {A : Nat → Prop} {w : World} {v : Value} {l : List Tx} (h : Vw A w v 1 l.length (l.map txt)) (hn : l.length ≤ 1099511627776) : Calls Tryz.prog 210 #[v] w (MDid w (ofL l)) := by
  obtain ⟨a, c, rfl, _⟩ := id h.slice
  have HV := Lib.hid h
  have HAT := Lib.hid (show OfRel w l (.slice none 0 0) (.int .i64 0) w from ⟨0, none0, Nat.zero_le _, rfl, Row.nil _ _ _ _ _, Stp.refl _ _ _⟩)
  obtain ⟨i0, hi0, hz0, hz1, hz2⟩ := info_parts infoS
  clear h
  go_enter Tryz.func210, Tryz.ntmps210
  go_wp2_with fail
  go_loopw [3, 4] (fun out i wr => OfRel w l out i wr) (fun _ i _ => l.length - (intOf i).toNat)
  case atStart => exact HAT.out
  case round =>
    clear HAT
    obtain ⟨k, o', hk, rfl, hrow, hst⟩ := hrel
    obtain ⟨ao, co, rfl, _⟩ := id hrow.slice
    by_cases hkl : k < l.length
    · obtain ⟨x, hx⟩ : ∃ x, l[k]? = some x := ⟨_, List.getElem?_eq_getElem hkl⟩
      obtain ⟨b2, off2, rfl, _, hcap2, hg⟩ := vw_get (HV.out.below hst.below0) (by omega)
      have hc : wr.cell? ⟨b2, off2 + k, none⟩ = some (.string ⟨x.toArray⟩) := hg k x hx
      have hkI : (0 : Int) ≤ k ∧ (k : Int) < l.length := by omega
      obtain ⟨L, hL⟩ : ∃ L, L = ofL (l.take k) := ⟨_, rfl⟩
      have hLl : L.length ≤ l.length := by rw [hL]; exact Nat.le_trans (ofL_len _) (by simp; omega)
      rw [← hL] at hrow ⊢
      have HL := Lib.hid hL
      have HX := Lib.hid hx
      have HROW := Lib.hid hrow
      have HST := Lib.hid hst
      have hatr : AtRel L x wr (.int .i64 L.length) wr := ⟨L.length, 0, Nat.le_refl _, rfl, rfl, fun y hy => by rw [List.drop_length] at hy; cases hy⟩
      have HATR := Lib.hid hatr
      clear hL hx hrow hst hg hatr
      go_wp2_with fail
      go_loopw [5] (fun i wx => AtRel L x wr i wx) (fun i _ => (intOf i).toNat)
      case atStart => exact HATR.out
      case round =>
        clear HATR
        obtain ⟨at_, n, hat, rfl, rfl, hhi⟩ := hrel
        by_cases hz : at_ = 0
        · subst hz
          have hlo : ∀ y ∈ L.take 0, ltB y x = true := fun y hy => by rw [List.take_zero] at hy; cases hy
          have HFIN := Lib.hid (fun (o5 : Roles) (w5 : World) (vo : Value) (hr : Row o5 w5 [9, 0] 9 1 vo (L.length + 1) ((L.take 0 ++ x :: L.drop 0).map txt)) (hs : Stp [9] none0 w o5 w5) =>
            show OfRel w l vo (.int .i64 ((k + 1 : Nat) : Int)) w5 from ⟨k + 1, o5, hkl, rfl, by
              rw [show l.take (k + 1) = l.take k ++ [x] by rw [List.take_add_one, HX.out]; rfl, ofL_ins HL.out hlo hhi]
              have e : (L.take 0 ++ x :: L.drop 0).length = L.length + 1 := by simp
              rw [e]; exact hr, hs⟩)
          have hm1 : L.length + 1 ≤ maxLen := by unfold maxLen; omega
          have hm2 : (L.length + 1) * 16 ≤ 140737488355328 := by omega
          have HRQ := Lib.hid (fun (q : Nat) => show Row o' ((wr.drewN q).alloc (.cells #[.string ⟨#[]⟩] 9)) [9, 0] 9 1 (.slice ao L.length co) L.length (L.map txt) ∧ Stp [9] none0 w o' ((wr.drewN q).alloc (.cells #[.string ⟨#[]⟩] 9)) from ⟨(HROW.out.drewN q).below (lit_below _ _), (HST.out.drewN q).trans (Stp.ofBelow [9] o' (lit_below _ _))⟩)
          have HSQ := Lib.hid (fun (q : Nat) => (vw_new1 (wr.drewN q) [] 9).src (P := Tryz.prog) Tryz.underlying39 (one_list [[]]))
          have HVV := Lib.hid (show ∀ (W : World), Below w.heap.size w W → W.cell? ⟨b2, off2 + k, none⟩ = some (.string ⟨x.toArray⟩) from fun W hW => by
            obtain ⟨b3, off3, e3, _, _, hg3⟩ := vw_get (HV.out.below hW) (by omega)
            injection e3 with e4
            injection e4 with e5 e6 _
            subst e5 e6
            exact hg3 k x HX.out)
          unfold txt at HSQ
          clear HV HROW HST HX HL hlo hhi 
          go_wp2_with fail
          go_quiet (fail)
          go_wp2_with fail
          go_quiet (fail)
          go_wp2_with (
            at_builtin
            refine wpList_app _ rfl _ _ 39 39 rfl 9 i0 _ 1 16 Tryz.underlying39 hi0 hz0 hz1 hz2 rfl rfl (HRQ.out _).1 rfl (HSQ.out _) hm1 hm2 ?_
            intro v5 w5 o5 hrow5 hst5
            obtain ⟨a5, c5, rfl, _⟩ := id hrow5.slice
            have HSH := Lib.hid (show ShRel w L 0 (.slice a5 (L.length + 1) c5) (.int .i64 L.length) w5 from ⟨L.length, o5, [], by omega, Nat.le_refl _, rfl, by
              rw [List.take_length, List.drop_length, List.map_append]; exact hrow5, (HRQ.out _).2.trans (hst5.wide (by decide))⟩)
            clear hrow5 hst5 HRQ HSQ)
          go_loopw [6] (fun i wx => ShRel w L 0 (.slice a5 (L.length + 1) c5) i wx) (fun i _ => (intOf i).toNat)
          case atStart => exact HSH.out
          case round =>
            clear HSH
            obtain ⟨j, o6, y, hj1, hj2, rfl, hr6, hs6⟩ := hrel
            by_cases hja : 0 < j
            · obtain ⟨j1, rfl⟩ : ∃ j1, j = j1 + 1 := ⟨j - 1, by omega⟩
              obtain ⟨z, hzz⟩ : ∃ z, L[j1]? = some z := ⟨_, List.getElem?_eq_getElem (by omega)⟩
              have htk1 : L.take (j1 + 1) = L.take j1 ++ [z] := by rw [List.take_add_one, hzz]; rfl
              have hdr1 : L.drop j1 = z :: L.drop (j1 + 1) := by
                rw [List.drop_eq_getElem_cons (by omega)]
                congr 1
                rw [List.getElem?_eq_getElem (by omega)] at hzz
                exact Option.some.inj hzz
              obtain ⟨g6, cap6, e6, hcap6, hg6, hfz6, hcy, hset⟩ := hr6.set1 (k := j1 + 1) (by omega) (txt z)
              injection e6 with e7 _ e8
              subst e7 e8
              obtain ⟨g7, cap7, e9, _, _, _, hcl6, _⟩ := hr6.set1 (k := j1) (by omega) (txt z)
              injection e9 with e10 _ e11
              injection e10 with e10
              injection e10 with e10 _ _
              subst e10 e11
              have hcz : wr.cell? ⟨g6, j1, none⟩ = some (.string ⟨z.toArray⟩) := by
                have hl1 : (L.take j1).length = j1 := by simp; omega
                rw [hcl6, htk1, List.getElem?_map, List.append_assoc, List.getElem?_append_right (by omega), hl1, Nat.sub_self]
                rfl
              have hst6 : ((L.take (j1 + 1) ++ y :: L.drop (j1 + 1)).map txt).set (j1 + 1) (txt z) = (L.take j1 ++ z :: L.drop j1).map txt := by
                have hl : (L.take (j1 + 1)).length = j1 + 1 := by simp; omega
                rw [← List.map_set]
                congr 1
                conv => lhs; arg 2; rw [← hl]
                rw [set_append_mid, hdr1, htk1]; simp
              rw [hst6] at hset
              have D := Lib.hid (show ShRel w L 0 (.slice (some ⟨g6, 0, none⟩) (L.length + 1) c5) (.int .i64 (j1 : Int)) (wr.setCell ⟨g6, j1 + 1, none⟩ (.string ⟨z.toArray⟩)) from ⟨j1, o6, z, by omega, by omega, rfl, hset, hs6.setCell (by show [9] <+: o6 g6; rw [hg6]; decide) _⟩)
              have huu : wr.cell? ⟨g6, j1 + 1, none⟩ = some (.string ⟨y.toArray⟩) := by
                have hl2 : (L.take (j1 + 1)).length = j1 + 1 := by simp; omega
                rw [hcy, List.getElem?_map, List.getElem?_append_right (by omega), hl2, Nat.sub_self]
                rfl
              have ew6 : IntKind.i64.wrap (j1 : Int) = (j1 : Int) := by rw [IntKind.wrap_i64]; omega
              have hjI : (0 : Int) < (j1 : Int) + 1 := by omega
              have hj0 : (0 : Int) ≤ (j1 : Int) := by omega
              have hjl6 : (j1 : Int) + 1 < (L.length : Int) + 1 := by omega
              have etn6 : ((j1 : Int) + 1).toNat = j1 + 1 := by omega
              clear hset hst6 hcl6 hr6 hs6 hzz htk1 hdr1 HFIN HVV hj1 hj2 hcy
              go_wp2_with fail
              go_roundw
              case rel => exact D.out
              case measure => simp [intOf]
            · obtain rfl : j = 0 := by omega
              obtain ⟨g6, cap6, e6, hcap6, hg6, hfz6, hcl6, hset⟩ := hr6.set1 (k := 0) (by omega) (txt x)
              injection e6 with e7 _ e8
              subst e7 e8
              have hst6 : ((L.take 0 ++ y :: L.drop 0).map txt).set 0 (txt x) = (L.take 0 ++ x :: L.drop 0).map txt := by simp
              rw [hst6] at hset
              have D := Lib.hid (HFIN.out o6 _ _ hset (hs6.setCell (by show [9] <+: o6 g6; rw [hg6]; decide) _))
              have hcx := HVV.out wr hs6.below0
              have huu : wr.cell? ⟨g6, 0, none⟩ = some (.string ⟨y.toArray⟩) := by
                have hl2 : (L.take 0).length = 0 := by simp <;> omega
                rw [hcl6, List.getElem?_map, List.getElem?_append_right (by omega), hl2, Nat.sub_self]
                rfl
              have hjl6 : (0 : Int) < (L.length : Int) + 1 := by omega
              have hj0 : (0 : Int) ≤ (0 : Int) := by omega
              unfold txt at D
              clear hset hst6 hcl6 hr6 hs6 HFIN HVV hj1 hj2
              go_wp2_with fail
              go_roundw
              case rel => exact D.out
              case measure => simp [intOf]; omega
        · obtain ⟨a1, rfl⟩ : ∃ a1, at_ = a1 + 1 := ⟨at_ - 1, by omega⟩
          obtain ⟨e, he⟩ : ∃ e, L[a1]? = some e := ⟨_, List.getElem?_eq_getElem (by omega)⟩
          obtain ⟨bo, offo, rfl, _, hcapo, hgo⟩ := vw_get HROW.out.vw (by omega)
          have hce : wr.cell? ⟨bo, offo + a1, none⟩ = some (.string ⟨e.toArray⟩) := hgo _ e he
          have ew : IntKind.i64.wrap (a1 : Int) = (a1 : Int) := by rw [IntKind.wrap_i64]; omega
          have h0I : (0 : Int) < (a1 : Int) + 1 := by omega
          have hix : (a1 : Int) < (L.length : Int) := by omega
          have hix0 : (0 : Int) ≤ (a1 : Int) := by omega
          have hde : L.drop a1 = e :: L.drop (a1 + 1) := by
            rw [List.drop_eq_getElem_cons (by omega)]
            congr 1
            rw [List.getElem?_eq_getElem (by omega)] at he
            exact Option.some.inj he
          obtain ⟨g1, g2⟩ := gt_facts e x
          have HA1 := Lib.hid (show Asc L from by rw [HL.out]; exact ofL_asc _)
          clear hz
          cases hxe : ltB x e with
          | true =>
            obtain ⟨f1, f2⟩ := g1 hxe
            have D := Lib.hid (fun (q : Nat) => show AtRel L x wr (.int .i64 (a1 : Int)) (wr.drewN q) from ⟨a1, q, by omega, rfl, rfl, fun y hy => by
              rw [hde] at hy
              rcases List.mem_cons.1 hy with rfl | hy
              · exact hxe
              · exact hhi y hy⟩)
            clear g1 g2 hde hhi he hgo hxe HV HST HROW HA1
            go_wp2_with fail
            go_quiet (fail)
            go_wp2_with fail
            go_roundw
            case rel => first | exact D.out _ | (rw [World.drewN_drewN]; exact D.out _)
            case measure => simp [intOf]
          | false =>
            by_cases hex : e = x
            · subst hex
              have hmem : e ∈ L := List.mem_of_getElem? he
              have D := Lib.hid (fun (q : Nat) => show OfRel w l (.slice (some ⟨bo, offo, none⟩) L.length co) (.int .i64 ((k + 1 : Nat) : Int)) (wr.drewN q) from ⟨k + 1, o', hkl, rfl, by
                rw [show l.take (k + 1) = l.take k ++ [e] by rw [List.take_add_one, HX.out]; rfl, ofL_has HL.out hmem]
                exact HROW.out.drewN q, HST.out.drewN q⟩)
              have f1 : Op.bytesLess e e = false := less_irrefl e
              have f2 : (e == e) = true := by simp
              clear g1 g2 hde hhi he hgo hxe HV HST HROW HA1 hmem HX HL
              go_wp2_with fail
              go_quiet (fail)
              go_wp2_with fail
              go_quiet (fail)
              go_wp2_with fail
              go_roundw
              case rel => first | exact D.out _ | (rw [World.drewN_drewN]; exact D.out _) | (rw [World.drewN_drewN, World.drewN_drewN]; exact D.out _)
              case measure => simp [intOf]; omega
            · have f2 : (e == x) = false := beq_eq_false_iff_ne.2 hex
              have f1 : Op.bytesLess e x = true := by
                rcases g2 hxe with h | h
                · exact h
                · rw [f2] at h; cases h
              have hlo : ∀ y ∈ L.take (a1 + 1), ltB y x = true := fun y hy => by
                have e1 : L.take (a1 + 1) = L.take a1 ++ [e] := by rw [List.take_add_one, he]; rfl
                have ha := HA1.out
                rw [← List.take_append_drop a1 L, hde] at ha
                obtain ⟨_, _, h3⟩ := List.pairwise_append.1 ha
                rw [e1, List.mem_append, List.mem_singleton] at hy
                rcases hy with hy | rfl
                · exact less_trans y e x (h3 y hy e (by simp)) f1
                · exact f1
              have HFIN := Lib.hid (fun (o5 : Roles) (w5 : World) (vo : Value) (hr : Row o5 w5 [9, 0] 9 1 vo (L.length + 1) ((L.take (a1 + 1) ++ x :: L.drop (a1 + 1)).map txt)) (hs : Stp [9] none0 w o5 w5) =>
                show OfRel w l vo (.int .i64 ((k + 1 : Nat) : Int)) w5 from ⟨k + 1, o5, hkl, rfl, by
                  rw [show l.take (k + 1) = l.take k ++ [x] by rw [List.take_add_one, HX.out]; rfl, ofL_ins HL.out hlo hhi]
                  have e : (L.take (a1 + 1) ++ x :: L.drop (a1 + 1)).length = L.length + 1 := by simp; omega
                  rw [e]; exact hr, hs⟩)
              have hm1 : L.length + 1 ≤ maxLen := by unfold maxLen; omega
              have hm2 : (L.length + 1) * 16 ≤ 140737488355328 := by omega
              have HRQ := Lib.hid (fun (q : Nat) => show Row o' ((wr.drewN q).alloc (.cells #[.string ⟨#[]⟩] 9)) [9, 0] 9 1 (.slice (some ⟨bo, offo, none⟩) L.length co) L.length (L.map txt) ∧ Stp [9] none0 w o' ((wr.drewN q).alloc (.cells #[.string ⟨#[]⟩] 9)) from ⟨(HROW.out.drewN q).below (lit_below _ _), (HST.out.drewN q).trans (Stp.ofBelow [9] o' (lit_below _ _))⟩)
              have HSQ := Lib.hid (fun (q : Nat) => (vw_new1 (wr.drewN q) [] 9).src (P := Tryz.prog) Tryz.underlying39 (one_list [[]]))
              have HVV := Lib.hid (show ∀ (W : World), Below w.heap.size w W → W.cell? ⟨b2, off2 + k, none⟩ = some (.string ⟨x.toArray⟩) from fun W hW => by
                obtain ⟨b3, off3, e3, _, _, hg3⟩ := vw_get (HV.out.below hW) (by omega)
                injection e3 with e4
                injection e4 with e5 e6 _
                subst e5 e6
                exact hg3 k x HX.out)
              unfold txt at HSQ
              clear HV HROW HST HX HL hlo hhi g1 g2 hde he hgo hxe HA1 hex
              go_wp2_with fail
              go_quiet (fail)
              go_wp2_with fail
              go_quiet (fail)
              go_wp2_with (
                at_builtin
                refine wpList_app _ rfl _ _ 39 39 rfl 9 i0 _ 1 16 Tryz.underlying39 hi0 hz0 hz1 hz2 rfl rfl (HRQ.out _).1 rfl (HSQ.out _) hm1 hm2 ?_
                intro v5 w5 o5 hrow5 hst5
                obtain ⟨a5, c5, rfl, _⟩ := id hrow5.slice
                have HSH := Lib.hid (show ShRel w L (a1 + 1) (.slice a5 (L.length + 1) c5) (.int .i64 L.length) w5 from ⟨L.length, o5, [], by omega, Nat.le_refl _, rfl, by
                  rw [List.take_length, List.drop_length, List.map_append]; exact hrow5, (HRQ.out _).2.trans (hst5.wide (by decide))⟩)
                clear hrow5 hst5 HRQ HSQ)
              go_loopw [6] (fun i wx => ShRel w L (a1 + 1) (.slice a5 (L.length + 1) c5) i wx) (fun i _ => (intOf i).toNat)
              case atStart => exact HSH.out
              case round =>
                clear HSH
                obtain ⟨j, o6, y, hj1, hj2, rfl, hr6, hs6⟩ := hrel
                by_cases hja : (a1 + 1) < j
                · obtain ⟨j1, rfl⟩ : ∃ j1, j = j1 + 1 := ⟨j - 1, by omega⟩
                  obtain ⟨z, hzz⟩ : ∃ z, L[j1]? = some z := ⟨_, List.getElem?_eq_getElem (by omega)⟩
                  have htk1 : L.take (j1 + 1) = L.take j1 ++ [z] := by rw [List.take_add_one, hzz]; rfl
                  have hdr1 : L.drop j1 = z :: L.drop (j1 + 1) := by
                    rw [List.drop_eq_getElem_cons (by omega)]
                    congr 1
                    rw [List.getElem?_eq_getElem (by omega)] at hzz
                    exact Option.some.inj hzz
                  obtain ⟨g6, cap6, e6, hcap6, hg6, hfz6, hcy, hset⟩ := hr6.set1 (k := j1 + 1) (by omega) (txt z)
                  injection e6 with e7 _ e8
                  subst e7 e8
                  obtain ⟨g7, cap7, e9, _, _, _, hcl6, _⟩ := hr6.set1 (k := j1) (by omega) (txt z)
                  injection e9 with e10 _ e11
                  injection e10 with e10
                  injection e10 with e10 _ _
                  subst e10 e11
                  have hcz : wr.cell? ⟨g6, j1, none⟩ = some (.string ⟨z.toArray⟩) := by
                    have hl1 : (L.take j1).length = j1 := by simp; omega
                    rw [hcl6, htk1, List.getElem?_map, List.append_assoc, List.getElem?_append_right (by omega), hl1, Nat.sub_self]
                    rfl
                  have hst6 : ((L.take (j1 + 1) ++ y :: L.drop (j1 + 1)).map txt).set (j1 + 1) (txt z) = (L.take j1 ++ z :: L.drop j1).map txt := by
                    have hl : (L.take (j1 + 1)).length = j1 + 1 := by simp; omega
                    rw [← List.map_set]
                    congr 1
                    conv => lhs; arg 2; rw [← hl]
                    rw [set_append_mid, hdr1, htk1]; simp
                  rw [hst6] at hset
                  have D := Lib.hid (show ShRel w L (a1 + 1) (.slice (some ⟨g6, 0, none⟩) (L.length + 1) c5) (.int .i64 (j1 : Int)) (wr.setCell ⟨g6, j1 + 1, none⟩ (.string ⟨z.toArray⟩)) from ⟨j1, o6, z, by omega, by omega, rfl, hset, hs6.setCell (by show [9] <+: o6 g6; rw [hg6]; decide) _⟩)
                  have huu : wr.cell? ⟨g6, j1 + 1, none⟩ = some (.string ⟨y.toArray⟩) := by
                    have hl2 : (L.take (j1 + 1)).length = j1 + 1 := by simp; omega
                    rw [hcy, List.getElem?_map, List.getElem?_append_right (by omega), hl2, Nat.sub_self]
                    rfl
                  have ew6 : IntKind.i64.wrap (j1 : Int) = (j1 : Int) := by rw [IntKind.wrap_i64]; omega
                  have hjI : ((a1 + 1) : Int) < (j1 : Int) + 1 := by omega
                  have hj0 : (0 : Int) ≤ (j1 : Int) := by omega
                  have hjl6 : (j1 : Int) + 1 < (L.length : Int) + 1 := by omega
                  have etn6 : ((j1 : Int) + 1).toNat = j1 + 1 := by omega
                  clear hset hst6 hcl6 hr6 hs6 hzz htk1 hdr1 HFIN HVV hj1 hj2 hcy
                  go_wp2_with fail
                  go_roundw
                  case rel => exact D.out
                  case measure => simp [intOf]
                · obtain rfl : j = a1 + 1 := by omega
                  obtain ⟨g6, cap6, e6, hcap6, hg6, hfz6, hcl6, hset⟩ := hr6.set1 (k := a1 + 1) (by omega) (txt x)
                  injection e6 with e7 _ e8
                  subst e7 e8
                  have hst6 : ((L.take (a1 + 1) ++ y :: L.drop (a1 + 1)).map txt).set (a1 + 1) (txt x) = (L.take (a1 + 1) ++ x :: L.drop (a1 + 1)).map txt := by
                    have hl : (L.take (a1 + 1)).length = (a1 + 1) := by simp; omega
                    rw [← List.map_set]
                    congr 1
                    conv => lhs; arg 2; rw [← hl]
                    rw [set_append_mid]
                  rw [hst6] at hset
                  have D := Lib.hid (HFIN.out o6 _ _ hset (hs6.setCell (by show [9] <+: o6 g6; rw [hg6]; decide) _))
                  have hcx := HVV.out wr hs6.below0
                  have huu : wr.cell? ⟨g6, (a1 + 1), none⟩ = some (.string ⟨y.toArray⟩) := by
                    have hl2 : (L.take (a1 + 1)).length = (a1 + 1) := by simp <;> omega
                    rw [hcl6, List.getElem?_map, List.getElem?_append_right (by omega), hl2, Nat.sub_self]
                    rfl
                  have hjl6 : ((a1 : Int) + 1) < (L.length : Int) + 1 := by omega
                  have hj0 : (0 : Int) ≤ ((a1 : Int) + 1) := by omega
                  unfold txt at D
                  clear hset hst6 hcl6 hr6 hs6 HFIN HVV hj1 hj2
                  go_wp2_with fail
                  go_roundw
                  case rel => exact D.out
                  case measure => simp [intOf]; omega
    · obtain rfl : k = l.length := by omega
      have hlt : ofL (l.take l.length) = ofL l := by rw [List.take_length]
      rw [hlt] at hrow ⊢
      have hF := hrow.freshW (by decide) hst
      have D := Lib.hid (show MDid w (ofL l) (.returned (.slice ao (ofL l).length co)) wr from ⟨ao, co, rfl, hF.vw, hF.below⟩)
      clear hrow hst hF HV hlt
      go_wp2_with fail
      go_ret
      exact D.out
end Go.Proofs.YthojmgjgmbnopaaGreatDoor
namespace Go.Proofs.YthojmgjgmbnopaaGreatDoor
open Go Go.RowKit
/-! The document's look at a rank, in plain words. -/
def aheadB (p f : Scr) : Bool := decide (p.2 < f.2) || (decide (p.2 = f.2) && ltB p.1 f.1)
def scrD (l : List Scr) (j : Nat) : Bool := match l[j]? with
  | none => true
  | some f => shortB f.1 && decide (-9007199254740992 ≤ f.2) && decide (f.2 ≤ 9007199254740992) && (match j with | 0 => true | i + 1 => aheadB (l[i]?.getD ([], 0)) f)
theorem insL_new {x : Tx} : ∀ {l : List Tx}, x ∉ l → (insL x l).length = l.length + 1
  | [], _ => rfl
  | y :: t, h => by
    have h1 : x ≠ y := fun e => h (by simp [e])
    have h2 : x ∉ t := fun e => h (by simp [e])
    unfold insL
    split
    · rfl
    · first | (simp [insL_new h2]; done) | (rw [if_neg h1]; simp [insL_new h2])
theorem insL_old {x : Tx} {s : List Tx} (hs : Asc s) (h : x ∈ s) : insL x s = s :=
  (insL_asc x hs).ext hs fun z => by
    rw [insL_mem]
    constructor
    · rintro (rfl | e)
      · exact h
      · exact e
    · exact .inr
theorem ofL_full : ∀ l : List Tx, (ofL l).length = l.length ↔ l.Nodup
  | [] => by simp [ofL]
  | x :: t => by
    have ih := ofL_full t
    have hl := ofL_len t
    rw [List.nodup_cons, ← ih]
    show (insL x (ofL t)).length = t.length + 1 ↔ _
    by_cases hx : x ∈ t
    · rw [insL_old (ofL_asc t) ((ofL_mem x t).2 hx)]
      constructor
      · intro h; omega
      · intro h; exact absurd hx h.1
    · rw [insL_new (fun e => hx ((ofL_mem x t).1 e))]
      constructor
      · intro h; exact ⟨hx, by omega⟩
      · intro h; omega
theorem scrAt_eq (l : List Scr) (j : Nat) : scrAt l j = (scrD l j && (match l[j]? with | none => true | some f => decide (f.1 ∉ (l.take j).map Prod.fst))) := by
  unfold scrAt scrD aheadB
  cases l[j]? with
  | none => rfl
  | some f =>
    simp only
    cases j with
    | zero => simp
    | succ i =>
      simp only
      cases shortB f.1 <;> cases decide (-9007199254740992 ≤ f.2) <;> cases decide (f.2 ≤ 9007199254740992) <;> simp [Bool.and_comm]
theorem fresh_nodup (l : List Scr) : ((List.range l.length).all fun j => match l[j]? with | none => true | some f => decide (f.1 ∉ (l.take j).map Prod.fst)) = decide ((l.map Prod.fst).Nodup) := by
  rw [Bool.eq_iff_iff, List.all_eq_true, decide_eq_true_eq]
  constructor
  · intro h
    rw [List.Nodup, List.pairwise_iff_getElem]
    intro i j hi hj hij e
    have hjl : j < l.length := by simpa using hj
    have h1 := h j (List.mem_range.2 hjl)
    rw [List.getElem?_eq_getElem hjl] at h1
    simp only [decide_eq_true_eq] at h1
    apply h1
    rw [List.getElem_map, List.getElem_map] at e
    rw [← e]
    refine List.mem_map.2 ⟨l[i]'(by omega), ?_, rfl⟩
    exact List.mem_take_iff_getElem.2 ⟨i, by omega, rfl⟩
  · intro h j hj
    have hjl := List.mem_range.1 hj
    rw [List.getElem?_eq_getElem hjl]
    simp only [decide_eq_true_eq]
    intro hm
    obtain ⟨f, hf, e⟩ := List.mem_map.1 hm
    obtain ⟨i, hi, rfl⟩ := List.mem_take_iff_getElem.1 hf
    rw [List.Nodup, List.pairwise_iff_getElem] at h
    have := h i j (by simp; omega) (by simpa using hjl) (by omega)
    rw [List.getElem_map, List.getElem_map] at this
    exact this e
theorem all_and {α : Type} (f g : α → Bool) : ∀ l : List α, l.all (fun x => f x && g x) = (l.all f && l.all g)
  | [] => rfl
  | x :: t => by simp only [List.all_cons, all_and f g t]; cases f x <;> cases g x <;> simp
/-- The same in the document's words. -/
theorem rankB_doc (l : List Scr) : rankB l = ((List.range l.length).all (scrD l) && decide ((ofL (l.map Prod.fst)).length = l.length)) := by
  unfold rankB
  rw [show scrAt l = fun j => scrD l j && (match l[j]? with | none => true | some f => decide (f.1 ∉ (l.take j).map Prod.fst)) from funext fun j => scrAt_eq l j, all_and, fresh_nodup]
  congr 1
  rw [Bool.eq_iff_iff, decide_eq_true_eq, decide_eq_true_eq, ← ofL_full]
  simp
theorem scrD_zero {l : List Scr} {x : Tx} {sc : Int} (hx : l[0]? = some (x, sc)) : scrD l 0 = (shortB x && decide (-9007199254740992 ≤ sc) && decide (sc ≤ 9007199254740992)) := by unfold scrD; rw [hx]; simp
theorem scrD_succ {l : List Scr} {i : Nat} {p : Scr} {x : Tx} {sc : Int} (hp : l[i]? = some p) (hx : l[i + 1]? = some (x, sc)) :
    scrD l (i + 1) = (shortB x && decide (-9007199254740992 ≤ sc) && decide (sc ≤ 9007199254740992) && aheadB p (x, sc)) := by
  unfold scrD; rw [hx]; simp only [hp, Option.getD_some]
end Go.Proofs.YthojmgjgmbnopaaGreatDoor
