import Derived.Test.YtoganolkgmilaaaGreatDoorXS
import Derived.Test.YtoganolkgmilaaaGreatDoorXT
namespace Go.Proofs.YtoganolkgmilaaaGreatDoor
open Go Go.RowKit
/-! A value that is a text, put into a space of sets. -/
abbrev textV (s : List UInt8) : VV := ⟨1, s, [], [], []⟩
abbrev tvV (s : List UInt8) : Value := .agg #[.int .i64 1, .string ⟨s.toArray⟩, .slice none 0 0, .slice none 0 0, .slice none 0 0]
theorem val3_text (A : Nat → Prop) (w : World) (s : List UInt8) : Val3 A w (textV s) (.slice none 0 0) (.slice none 0 0) (.slice none 0 0) := ⟨Vw.nil _ _ _, Vw.nil _ _ _, Vw.nil _ _ _⟩
set_option maxRecDepth 10000 in
theorem vof_text (w : World) (l f r : Value) (V : VV) (hk : V.kind = 1) (hl : ∃ a n c, l = .slice a n c) (hf : ∃ a n c, f = .slice a n c) (hr : ∃ a n c, r = .slice a n c) : Calls Tryz.prog 57 #[valV V l f r] w fun e w' => e = .returned (.tuple #[.iface 145 (.string ⟨V.text.toArray⟩), .bool true]) ∧ Below w.heap.size w w' := by
  obtain ⟨kind, text, list, fields, ranked⟩ := V
  dsimp only at hk
  subst hk
  obtain ⟨a1, n1, c1, rfl⟩ := hl
  obtain ⟨a2, n2, c2, rfl⟩ := hf
  obtain ⟨a3, n3, c3, rfl⟩ := hr
  go_enter Tryz.func57, Tryz.ntmps57
  go_wp2
  go_ret2
  exact ⟨rfl, (Below.refl _ _).alloc (Nat.le_refl _) _⟩
set_option maxRecDepth 10000 in
theorem vcheck_text {A : Nat → Prop} {w : World} {V : VV} {l f r : Value} (h : Val3 A w V l f r) (hk : V.kind = 1) (hl : V.list = []) (hf : V.fields = []) (hr : V.ranked = []) (hs : V.text.length ≤ 1048576) :
    Calls Tryz.prog 34 #[valV V l f r] w fun e w' => e = .returned (.int .i64 0) ∧ Below w.heap.size w w' := by
  obtain ⟨a1, c1, e1, _⟩ := h.list.slice
  obtain ⟨a2, c2, e2, _⟩ := h.fields.slice
  obtain ⟨a3, c3, e3, _⟩ := h.ranked.slice
  have HO := Lib.hid (fun W => vof_text W l f r V hk ⟨_, _, _, e1⟩ ⟨_, _, _, e2⟩ ⟨_, _, _, e3⟩)
  have HR := Lib.hid (fun W => vshort_ok V.text W)
  rw [decide_eq_true hs] at HR
  obtain ⟨kind, text, list, fields, ranked⟩ := V
  dsimp only at hk hl hf hr hs e1 e2 e3 HO HR
  subst hk hl hf hr e1 e2 e3
  unfold txt at HR
  clear h hs
  go_enter Tryz.func34, Tryz.ntmps34
  go_wp2_with fail
  refine (HO.out _).mono ?_; rintro e w2 ⟨rfl, hB2⟩
  have HB2 := Lib.hid (((Below.refl w.heap.size w).alloc (Nat.le_refl _) _).trans (hB2.mono (by simp)))
  obtain ⟨hq, _⟩ := bcell hB2
  have x0 : w2.cell? ⟨w.heap.size, 0, none⟩ = some (.int .i64 1) := by rw [hq _ _ (by simp)]; simp [go_sem]
  have x1 : w2.cell? ⟨w.heap.size, 1, none⟩ = some (.string ⟨text.toArray⟩) := by rw [hq _ _ (by simp)]; simp [go_sem]
  have x2 : w2.cell? ⟨w.heap.size, 2, none⟩ = some (.slice a1 0 c1) := by rw [hq _ _ (by simp)]; simp [go_sem]
  have x3 : w2.cell? ⟨w.heap.size, 3, none⟩ = some (.slice a2 0 c2) := by rw [hq _ _ (by simp)]; simp [go_sem]
  have x4 : w2.cell? ⟨w.heap.size, 4, none⟩ = some (.slice a3 0 c3) := by rw [hq _ _ (by simp)]; simp [go_sem]
  clear hB2 hq HO
  go_wp2_with fail
  clear x0 x1 x2 x3 x4
  refine upon_method (f := 217) (y := .string ⟨text.toArray⟩) (by kernel_rfl) ?_
  have HE : Calls Tryz.prog 217 #[.string ⟨text.toArray⟩] w2 fun e w' => e = .returned (.bool false) ∧ w' = w2 := by
    go_enter Tryz.func217, Tryz.ntmps217
    go_wp2
    go_ret
    exact ⟨rfl, rfl⟩
  have HG : Calls Tryz.prog 218 #[.string ⟨text.toArray⟩] w2 fun e w' => e = .returned (.bool true) ∧ w' = w2 := by
    go_enter Tryz.func218, Tryz.ntmps218
    go_wp2_with fail
    refine (HR.out _).mono ?_; rintro e w3 ⟨rfl, rfl⟩
    go_wp2_with fail
    go_ret
    exact ⟨rfl, rfl⟩
  go_wp2_with fail
  refine HE.mono ?_; rintro e w3 ⟨rfl, rfl⟩
  go_wp2_with fail
  refine upon_method (f := 218) (y := .string ⟨text.toArray⟩) (by kernel_rfl) ?_
  go_wp2_with fail
  refine HG.mono ?_; rintro e w4 ⟨rfl, rfl⟩
  go_wp2_with fail
  go_ret
  exact ⟨rfl, HB2.out⟩
/-- Every key but one holds a set. -/
def SetsBut (d : Tx) (f : Tx → List Tx) (S : SP) : Prop := ∀ k, k ≠ d → SetIs S k (f k) ∧ Asc (f k)
section
variable {o : Roles} {w w0 : World} {p n : Nat} {c : Cnt} {S : SP} {f : Tx → List Tx} {d : Tx}
theorem Sets.but (h : Sets f S) (d : Tx) (H : Hd) : SetsBut d f (S.put d H) := fun k hk => ⟨(h k).1.far (if_neg hk), (h k).2⟩
theorem SetsBut.lists (h : SetsBut d f S) {ks : List Tx} (hk : d ∉ ks) : ks.map (fun k => ((S.at 0 k).getD hd0).v.list) = ks.map f := by
  refine List.map_congr_left fun k hm => ?_
  exact ((h k (fun e => hk (e ▸ hm))).1.at 0).1
theorem SetsBut.right (h : SetsBut d f S) {ks : List Tx} (hk : d ∉ ks) : ∀ k ∈ ks, ((S.at 0 k).isSome && ((S.at 0 k).getD hd0).v.kind != 4) = false := fun k hm => ((h k (fun e => hk (e ▸ hm))).1.at 0).2.1
theorem SetsBut.lay (h : SetsBut d f S) {H : Hd} (hS : S.at 0 d = some H) (l : List Tx) (ha : Asc l) (m : Nat) : Sets (upd f d l) (S.layS 0 d l 0 m) := fun j => by
  by_cases hj : j = d
  · subst hj
    rw [upd_same]
    refine ⟨?_, ha⟩
    unfold SP.layS
    by_cases e : l = []
    · rw [if_pos e, hS]; exact .inl ⟨e, if_pos rfl⟩
    · rw [if_neg e]; exact .inr ⟨e, m, if_pos rfl⟩
  · rw [upd_far hj]
    exact ⟨(h j hj).1.far (layS_far hj _ _ _), (h j hj).2⟩
theorem put_at {H : Hd} (h : H.over 0 = false) : (S.put d H).at 0 d = some H := by
  have e : (S.put d H) d = some H := if_pos rfl
  rw [SP.at_over e, h]; rfl
/-- A text is put. -/
def PutAt (w0 : World) (p : Nat) (n : Nat) (K : SP → Prop) (e : Ending) (w' : World) : Prop := e = .returned (.int .i64 0) ∧ ∃ o' S' c', At w0 o' w' p S' c' (n + 2) ∧ K S'
theorem put_text (h : At w0 o w p S c n) (hn : n ≤ 1099511620000) (hf : Sets f S) (d s : Tx) (hs : s.length ≤ 1048576) {due : Int} (hd : 0 < due ∧ due ≤ 9007199254740992) :
    Calls Tryz.prog 13 #[.pointer (some ⟨p, 0, none⟩), txt d, tvV s, .int .i64 due] w (PutAt w0 p n (fun S' => SetsBut d f S' ∧ ∃ H, S'.at 0 d = some H)) := by
  have := jput_ok h.sp d (val3_text (fun _ => False) w s) ⟨by show s.length ≤ _; omega, by simp, by simp, by simp⟩ (fun b hb => hb.elim) due ⟨by omega, hd.2⟩ (fun W _ => vcheck_text (val3_text (fun _ => False) W s) rfl rfl rfl rfl hs) (by have := h.num; omega) (by have := h.few; omega)
  refine this.mono ?_
  rintro e w' ⟨rfl, o', hj, hst⟩
  exact ⟨rfl, o', _, _, ⟨hj, h.st.trans hst, by have := h.num; show c.num + 1 ≤ _; omega, by have := h.few; show c.few + 1 ≤ _; omega⟩, hf.but d _, _, put_at (by unfold Hd.over; dsimp only; rw [decide_eq_false (by omega), Bool.and_false])⟩
end
end Go.Proofs.YtoganolkgmilaaaGreatDoor
namespace Go.Proofs.YtoganolkgmilaaaGreatDoor
open Go Go.RowKit
/-! The document's Inter, Diff of two lists; Remove. -/
def FlRel (w : World) (L : List Tx) (pr : Tx → Bool) (out i : Value) (wr : World) : Prop :=
  ∃ k o', k ≤ L.length ∧ i = .int .i64 (k : Int) ∧ Row o' wr [9, 0] 9 1 out ((L.take k).filter pr).length (((L.take k).filter pr).map txt) ∧ Stp [9] none0 w o' wr
def InR (wr : World) (st fin : Bool) (fl kv : Value) (wx : World) : Prop := ∃ n, wx = wr.drewN n ∧ ((kv = .int .i64 1 ∧ fl = .bool st) ∨ (kv = .int .i64 2 ∧ fl = .bool fin))
def intM : Value → Nat | .int _ 1 => 1 | _ => 0
theorem FlRel.next {L : List Tx} {pr : Tx → Bool} {k : Nat} {x : Tx} (hx : L[k]? = some x) : (L.take (k + 1)).filter pr = (L.take k).filter pr ++ (if pr x = true then [x] else []) := by
  rw [List.take_add_one, hx, List.filter_append]
  simp only [Option.toList_some, List.filter_cons, List.filter_nil]
set_option maxRecDepth 10000 in
set_option maxHeartbeats 4000000 in
theorem rinter_ok {A : Nat → Prop} {w : World} {v : Value} {a b : List Tx} (h : VwS A w v [a, b]) (hla : a.length ≤ 1099511627776) (hlb : b.length ≤ 1099511627776) :
    Calls Tryz.prog 14 #[v] w (MDid w ((ofL a).filter (fun x => decide (x ∈ b)))) := by
  obtain ⟨as0, cs, rfl, hcs, _⟩ := id h.slice
  have HV := Lib.hid h
  obtain ⟨bs, offs, a1, c1, e1, _, _, hca, hva⟩ := h.get (j := 0) (l := a) rfl
  subst e1
  have HO := Lib.hid (rof_ok hva hla)
  have hol := ofL_len a
  obtain ⟨i0, hi0, hz0, hz1, hz2⟩ := info_parts infoS
  rw [Nat.add_zero] at hca
  have HLB := Lib.hid hlb
  have hcs2 : 2 ≤ cs := hcs
  have HPR := Lib.hid (show ∀ x, (fun x => decide (x ∈ b)) x = (fun x => decide (x ∈ b)) x from fun _ => rfl)
  obtain ⟨pr, hpr⟩ : ∃ pr : Tx → Bool, pr = fun x => decide (x ∈ b) := ⟨_, rfl⟩
  have HPP := Lib.hid (fun x => congrFun hpr x)
  rw [← hpr]
  clear h hva hlb hcs hpr HPR
  go_enter Tryz.func14, Tryz.ntmps14
  go_wp2_with fail
  refine HO.out.mono ?_; rintro e w1 ⟨a3, c3, rfl, hv1, hB1⟩
  have HAT := Lib.hid (show FlRel w1 (ofL a) pr (.slice none 0 0) (.int .i64 0) w1 from ⟨0, none0, Nat.zero_le _, rfl, Row.nil _ _ _ _ _, Stp.refl _ _ _⟩)
  have HV1 := Lib.hid hv1
  have HVS := Lib.hid (HV.out.below hB1)
  have HB1 := Lib.hid hB1
  generalize ofL a = L at *
  clear hv1 HO HV hB1 hca
  go_wp2_with fail
  go_loopw [3, 5] (fun out i wr => FlRel w1 L pr out i wr) (fun _ i _ => L.length - (intOf i).toNat)
  case atStart => exact HAT.out
  case round =>
    clear HAT
    obtain ⟨k, o', hk, rfl, hrow, hst⟩ := hrel
    obtain ⟨ao, co, rfl, _⟩ := id hrow.slice
    by_cases hkl : k < L.length
    · obtain ⟨x, hx⟩ : ∃ x, L[k]? = some x := ⟨_, List.getElem?_eq_getElem hkl⟩
      obtain ⟨b2, off2, e2, _, hcap2, hg⟩ := vw_get (HV1.out.below hst.below0) (by omega)
      subst e2
      have hc : wr.cell? ⟨b2, off2 + k, none⟩ = some (.string ⟨x.toArray⟩) := hg k x hx
      obtain ⟨b6, off6, a6, c6, e6, _, _, hc6, hv6⟩ := (HVS.out.below hst.below0).get (j := 1) (l := b) rfl
      injection e6 with e6
      injection e6 with e6 e7 _
      subst e6 e7
      have hkI : (0 : Int) ≤ k ∧ (k : Int) < L.length := by omega
      have hal : ((L.take k).filter pr).length ≤ k := Nat.le_trans (List.length_filter_le _ _) (by simp; omega)
      have HTK := Lib.hid (FlRel.next (pr := pr) hx)
      have HIN := Lib.hid (show InR wr true (decide (x ∈ b)) (.bool true) (.int .i64 1) wr from ⟨0, rfl, .inl ⟨rfl, rfl⟩⟩)
      have HH := Lib.hid (fun (W : World) (hW : Below wr.heap.size wr W) => show Calls Tryz.prog 21 #[.slice a6 b.length c6, txt x] W (HasDid W b x) from rhas_ok (hv6.below hW) HLB.out x)
      have HPX := Lib.hid (HPP.out x)
      have hS0 : wr.cell? ⟨bs, offs + 1, none⟩ = some (.slice a6 b.length c6) ∧ wr.cell? ⟨b2, off2 + k, none⟩ = some (.string ⟨x.toArray⟩) := ⟨hc6, hc⟩
      have HS0 := Lib.hid hS0
      have HROW := Lib.hid hrow
      have HST := Lib.hid hst
      unfold HasDid txt at HH
      obtain ⟨bo, hbo⟩ : ∃ bo, bo = decide (x ∈ b) := ⟨_, rfl⟩
      have hm1 : ((L.take k).filter pr).length + 1 ≤ maxLen := by unfold maxLen; omega
      have hm2 : (((L.take k).filter pr).length + 1) * 16 ≤ 140737488355328 := by omega
      rw [← hbo] at HH HIN
      replace HPX := Lib.hid (show pr x = (bo) by rw [HPX.out, hbo])
      clear hc6 hv6 hg hx hrow hst hbo hc hS0
      go_wp2_with fail
      go_loopw [6, 7] (fun fl kv wx => InR wr true bo fl kv wx) (fun _ kv _ => intM kv)
      case atStart => exact HIN.out
      case round =>
        clear HIN
        obtain ⟨n, rfl, (⟨rfl, rfl⟩ | ⟨rfl, rfl⟩)⟩ := hrel
        · have hBn : Below wr.heap.size wr (wr.drewN n) := below_drewN (Below.refl _ _) n
          have hS0 : (wr.drewN n).cell? ⟨bs, offs + 1, none⟩ = some (.slice a6 b.length c6) ∧ (wr.drewN n).cell? ⟨b2, off2 + k, none⟩ = some (.string ⟨x.toArray⟩) := ⟨cell_below hBn HS0.out.1, cell_below hBn HS0.out.2⟩
          have HBN := Lib.hid hBn
          clear hBn HROW HST
          go_wp2_with fail
          go_region_held (fun W => W.cell? ⟨bs, offs + 1, none⟩ = some (.slice a6 b.length c6) ∧ W.cell? ⟨b2, off2 + k, none⟩ = some (.string ⟨x.toArray⟩))
            (first | exact hS0 | (go_simp; done)) (
            ((with_reducible refine (HH.out _ ?_).mono ?_)
             · repeat (first | exact Below.refl _ _ | refine Below.drew ?_ | refine below_drewN ?_ _)
             rintro e w4 ⟨rfl, rfl⟩
             clear HH))
          all_goals (
            go_wp2_with fail
            go_roundw
            case rel => exact ⟨_, by first | rfl | exact World.drewN_drewN _ _ _, .inr ⟨rfl, rfl⟩⟩
            case measure => simp [intM])
        · have hBn : Below wr.heap.size wr (wr.drewN n) := below_drewN (Below.refl _ _) n
          have hc : (wr.drewN n).cell? ⟨b2, off2 + k, none⟩ = some (.string ⟨x.toArray⟩) := cell_below hBn HS0.out.2
          cases bo with
          | true =>
            have HD := Lib.hid (fun (vo : Value) (w5 : World) (o5 : Roles) (h3 : Row o5 w5 [9, 0] 9 1 vo (((L.take k).filter pr).length + 1) (((L.take k).filter pr).map txt ++ [txt x])) (h4 : Stp [9] none0 w1 o5 w5) =>
              show FlRel w1 L pr vo (.int .i64 ((k + 1 : Nat) : Int)) w5 from ⟨k + 1, o5, hkl, rfl, by
                rw [HTK.out, HPX.out, if_pos (by decide), List.map_append, List.length_append]; exact h3, h4⟩)
            have HRW := Lib.hid (show Row o' ((wr.drewN n).alloc (.cells #[.string ⟨x.toArray⟩] 9)) [9, 0] 9 1 (.slice ao ((L.take k).filter pr).length co) ((L.take k).filter pr).length (((L.take k).filter pr).map txt) ∧ Stp [9] none0 w1 o' ((wr.drewN n).alloc (.cells #[.string ⟨x.toArray⟩] 9)) from ⟨(HROW.out.drewN n).below (lit_below _ _), (HST.out.drewN n).trans (Stp.ofBelow [9] o' (lit_below _ _))⟩)
            have HSRC := Lib.hid ((vw_new1 (wr.drewN n) x 9).src (P := Tryz.prog) Tryz.underlying22 (one_list [x]))
            unfold txt at HSRC
            clear hBn HROW HST HTK HPX HH
            generalize ((L.take k).filter pr).length = al at *
            go_wp2_with (
              at_builtin
              refine wpList_app _ rfl _ _ 22 22 rfl 9 i0 _ 1 16 Tryz.underlying22 hi0 hz0 hz1 hz2 rfl rfl HRW.out.1 rfl HSRC.out hm1 hm2 ?_
              intro v' w5 o5 hrow5 hst5
              obtain ⟨a5, c5, rfl, _⟩ := id hrow5.slice
              have D := Lib.hid (HD.out _ w5 o5 hrow5 (HRW.out.2.trans (hst5.wide (by decide))))
              clear hrow5 hst5 HD HRW HSRC)
            go_roundw
            case rel => exact D.out
            case measure => simp [intOf]; omega
          | false =>
            have D := Lib.hid (show FlRel w1 L pr (.slice ao ((L.take k).filter pr).length co) (.int .i64 ((k + 1 : Nat) : Int)) (wr.drewN n) from ⟨k + 1, o', hkl, rfl, by
              rw [HTK.out, HPX.out, if_neg (by decide), List.append_nil]; exact HROW.out.drewN n, HST.out.drewN n⟩)
            clear hBn HROW HST HTK HPX HH
            generalize ((L.take k).filter pr).length = al at *
            go_wp2_with fail
            go_roundw
            case rel => exact D.out
            case measure => simp [intOf]; omega
    · obtain rfl : k = L.length := by omega
      have hlt : (L.take L.length).filter pr = L.filter pr := by rw [List.take_length]
      rw [hlt] at hrow ⊢
      have hF := (hrow.fresh2 (by decide) hst).since HB1.out
      have D := Lib.hid (show MDid w (L.filter pr) (.returned (.slice ao (L.filter pr).length co)) wr from ⟨ao, co, rfl, hF.vw, hF.below⟩)
      clear hrow hst hF HVS HV1 hlt
      go_wp2_with fail
      go_ret
      exact D.out
set_option maxRecDepth 10000 in
set_option maxHeartbeats 4000000 in
theorem rdiff_ok {A : Nat → Prop} {w : World} {v : Value} {a b : List Tx} (h : VwS A w v [a, b]) (hla : a.length ≤ 1099511627776) (hlb : b.length ≤ 1099511627776) :
    Calls Tryz.prog 16 #[v] w (MDid w ((ofL a).filter (fun x => !decide (x ∈ b)))) := by
  obtain ⟨as0, cs, rfl, hcs, _⟩ := id h.slice
  have HV := Lib.hid h
  obtain ⟨bs, offs, a1, c1, e1, _, _, hca, hva⟩ := h.get (j := 0) (l := a) rfl
  subst e1
  have HO := Lib.hid (rof_ok hva hla)
  have hol := ofL_len a
  obtain ⟨i0, hi0, hz0, hz1, hz2⟩ := info_parts infoS
  rw [Nat.add_zero] at hca
  have HLB := Lib.hid hlb
  have hcs2 : 2 ≤ cs := hcs
  have HPR := Lib.hid (show ∀ x, (fun x => !decide (x ∈ b)) x = (fun x => !decide (x ∈ b)) x from fun _ => rfl)
  obtain ⟨pr, hpr⟩ : ∃ pr : Tx → Bool, pr = fun x => !decide (x ∈ b) := ⟨_, rfl⟩
  have HPP := Lib.hid (fun x => congrFun hpr x)
  rw [← hpr]
  clear h hva hlb hcs hpr HPR
  go_enter Tryz.func16, Tryz.ntmps16
  go_wp2_with fail
  refine HO.out.mono ?_; rintro e w1 ⟨a3, c3, rfl, hv1, hB1⟩
  have HAT := Lib.hid (show FlRel w1 (ofL a) pr (.slice none 0 0) (.int .i64 0) w1 from ⟨0, none0, Nat.zero_le _, rfl, Row.nil _ _ _ _ _, Stp.refl _ _ _⟩)
  have HV1 := Lib.hid hv1
  have HVS := Lib.hid (HV.out.below hB1)
  have HB1 := Lib.hid hB1
  generalize ofL a = L at *
  clear hv1 HO HV hB1 hca
  go_wp2_with fail
  go_loopw [3, 5] (fun out i wr => FlRel w1 L pr out i wr) (fun _ i _ => L.length - (intOf i).toNat)
  case atStart => exact HAT.out
  case round =>
    clear HAT
    obtain ⟨k, o', hk, rfl, hrow, hst⟩ := hrel
    obtain ⟨ao, co, rfl, _⟩ := id hrow.slice
    by_cases hkl : k < L.length
    · obtain ⟨x, hx⟩ : ∃ x, L[k]? = some x := ⟨_, List.getElem?_eq_getElem hkl⟩
      obtain ⟨b2, off2, e2, _, hcap2, hg⟩ := vw_get (HV1.out.below hst.below0) (by omega)
      subst e2
      have hc : wr.cell? ⟨b2, off2 + k, none⟩ = some (.string ⟨x.toArray⟩) := hg k x hx
      obtain ⟨b6, off6, a6, c6, e6, _, _, hc6, hv6⟩ := (HVS.out.below hst.below0).get (j := 1) (l := b) rfl
      injection e6 with e6
      injection e6 with e6 e7 _
      subst e6 e7
      have hkI : (0 : Int) ≤ k ∧ (k : Int) < L.length := by omega
      have hal : ((L.take k).filter pr).length ≤ k := Nat.le_trans (List.length_filter_le _ _) (by simp; omega)
      have HTK := Lib.hid (FlRel.next (pr := pr) hx)
      have HIN := Lib.hid (show InR wr false (decide (x ∈ b)) (.bool false) (.int .i64 1) wr from ⟨0, rfl, .inl ⟨rfl, rfl⟩⟩)
      have HH := Lib.hid (fun (W : World) (hW : Below wr.heap.size wr W) => show Calls Tryz.prog 21 #[.slice a6 b.length c6, txt x] W (HasDid W b x) from rhas_ok (hv6.below hW) HLB.out x)
      have HPX := Lib.hid (HPP.out x)
      have hS0 : wr.cell? ⟨bs, offs + 1, none⟩ = some (.slice a6 b.length c6) ∧ wr.cell? ⟨b2, off2 + k, none⟩ = some (.string ⟨x.toArray⟩) := ⟨hc6, hc⟩
      have HS0 := Lib.hid hS0
      have HROW := Lib.hid hrow
      have HST := Lib.hid hst
      unfold HasDid txt at HH
      obtain ⟨bo, hbo⟩ : ∃ bo, bo = decide (x ∈ b) := ⟨_, rfl⟩
      have hm1 : ((L.take k).filter pr).length + 1 ≤ maxLen := by unfold maxLen; omega
      have hm2 : (((L.take k).filter pr).length + 1) * 16 ≤ 140737488355328 := by omega
      rw [← hbo] at HH HIN
      replace HPX := Lib.hid (show pr x = (!bo) by rw [HPX.out, hbo])
      clear hc6 hv6 hg hx hrow hst hbo hc hS0
      go_wp2_with fail
      go_loopw [6, 7] (fun fl kv wx => InR wr false bo fl kv wx) (fun _ kv _ => intM kv)
      case atStart => exact HIN.out
      case round =>
        clear HIN
        obtain ⟨n, rfl, (⟨rfl, rfl⟩ | ⟨rfl, rfl⟩)⟩ := hrel
        · have hBn : Below wr.heap.size wr (wr.drewN n) := below_drewN (Below.refl _ _) n
          have hS0 : (wr.drewN n).cell? ⟨bs, offs + 1, none⟩ = some (.slice a6 b.length c6) ∧ (wr.drewN n).cell? ⟨b2, off2 + k, none⟩ = some (.string ⟨x.toArray⟩) := ⟨cell_below hBn HS0.out.1, cell_below hBn HS0.out.2⟩
          have HBN := Lib.hid hBn
          clear hBn HROW HST
          go_wp2_with fail
          go_region_held (fun W => W.cell? ⟨bs, offs + 1, none⟩ = some (.slice a6 b.length c6) ∧ W.cell? ⟨b2, off2 + k, none⟩ = some (.string ⟨x.toArray⟩))
            (first | exact hS0 | (go_simp; done)) (
            ((with_reducible refine (HH.out _ ?_).mono ?_)
             · repeat (first | exact Below.refl _ _ | refine Below.drew ?_ | refine below_drewN ?_ _)
             rintro e w4 ⟨rfl, rfl⟩
             clear HH))
          all_goals (
            go_wp2_with fail
            go_roundw
            case rel => exact ⟨_, by first | rfl | exact World.drewN_drewN _ _ _, .inr ⟨rfl, rfl⟩⟩
            case measure => simp [intM])
        · have hBn : Below wr.heap.size wr (wr.drewN n) := below_drewN (Below.refl _ _) n
          have hc : (wr.drewN n).cell? ⟨b2, off2 + k, none⟩ = some (.string ⟨x.toArray⟩) := cell_below hBn HS0.out.2
          cases bo with
          | false =>
            have HD := Lib.hid (fun (vo : Value) (w5 : World) (o5 : Roles) (h3 : Row o5 w5 [9, 0] 9 1 vo (((L.take k).filter pr).length + 1) (((L.take k).filter pr).map txt ++ [txt x])) (h4 : Stp [9] none0 w1 o5 w5) =>
              show FlRel w1 L pr vo (.int .i64 ((k + 1 : Nat) : Int)) w5 from ⟨k + 1, o5, hkl, rfl, by
                rw [HTK.out, HPX.out, if_pos (by decide), List.map_append, List.length_append]; exact h3, h4⟩)
            have HRW := Lib.hid (show Row o' ((wr.drewN n).alloc (.cells #[.string ⟨x.toArray⟩] 9)) [9, 0] 9 1 (.slice ao ((L.take k).filter pr).length co) ((L.take k).filter pr).length (((L.take k).filter pr).map txt) ∧ Stp [9] none0 w1 o' ((wr.drewN n).alloc (.cells #[.string ⟨x.toArray⟩] 9)) from ⟨(HROW.out.drewN n).below (lit_below _ _), (HST.out.drewN n).trans (Stp.ofBelow [9] o' (lit_below _ _))⟩)
            have HSRC := Lib.hid ((vw_new1 (wr.drewN n) x 9).src (P := Tryz.prog) Tryz.underlying22 (one_list [x]))
            unfold txt at HSRC
            clear hBn HROW HST HTK HPX HH
            generalize ((L.take k).filter pr).length = al at *
            go_wp2_with (
              at_builtin
              refine wpList_app _ rfl _ _ 22 22 rfl 9 i0 _ 1 16 Tryz.underlying22 hi0 hz0 hz1 hz2 rfl rfl HRW.out.1 rfl HSRC.out hm1 hm2 ?_
              intro v' w5 o5 hrow5 hst5
              obtain ⟨a5, c5, rfl, _⟩ := id hrow5.slice
              have D := Lib.hid (HD.out _ w5 o5 hrow5 (HRW.out.2.trans (hst5.wide (by decide))))
              clear hrow5 hst5 HD HRW HSRC)
            go_roundw
            case rel => exact D.out
            case measure => simp [intOf]; omega
          | true =>
            have D := Lib.hid (show FlRel w1 L pr (.slice ao ((L.take k).filter pr).length co) (.int .i64 ((k + 1 : Nat) : Int)) (wr.drewN n) from ⟨k + 1, o', hkl, rfl, by
              rw [HTK.out, HPX.out, if_neg (by decide), List.append_nil]; exact HROW.out.drewN n, HST.out.drewN n⟩)
            clear hBn HROW HST HTK HPX HH
            generalize ((L.take k).filter pr).length = al at *
            go_wp2_with fail
            go_roundw
            case rel => exact D.out
            case measure => simp [intOf]; omega
    · obtain rfl : k = L.length := by omega
      have hlt : (L.take L.length).filter pr = L.filter pr := by rw [List.take_length]
      rw [hlt] at hrow ⊢
      have hF := (hrow.fresh2 (by decide) hst).since HB1.out
      have D := Lib.hid (show MDid w (L.filter pr) (.returned (.slice ao (L.filter pr).length co)) wr from ⟨ao, co, rfl, hF.vw, hF.below⟩)
      clear hrow hst hF HVS HV1 hlt
      go_wp2_with fail
      go_ret
      exact D.out
/-- The slice of two slices, written. -/
theorem lit_vwSO {w : World} {x y : Value} {a b : List Tx} {ca cb : Nat} {aa ab : Option Addr} (hx : x = .slice aa a.length ca) (hy : y = .slice ab b.length cb) (ha : Vw (Old w) w x 1 a.length (a.map txt)) (hb : Vw (Old w) w y 1 b.length (b.map txt)) :
    ∃ A, VwS A (w.alloc (.cells #[x, y] 22)) (.slice (some ⟨w.heap.size, 0, none⟩) 2 2) [a, b] := by
  subst hx hy
  have hB := lit_below w (.cells #[.slice aa a.length ca, .slice ab b.length cb] 22)
  refine ⟨fun b => b = w.heap.size, ⟨[.slice aa a.length ca, .slice ab b.length cb], ⟨⟨_, 2, rfl, Nat.le_refl _, by unfold maxLen; omega, .inr ⟨w.heap.size, 0, rfl, by simp, rfl, fun k u hk => ?_⟩⟩, rfl⟩, fun j l hj => ?_⟩⟩
  · unfold World.cell?
    rw [show (w.alloc (.cells #[.slice aa a.length ca, .slice ab b.length cb] 22)).heap[w.heap.size]? = some (.cells #[.slice aa a.length ca, .slice ab b.length cb] 22 (0, 0)) from heap_alloc_new w _]
    simpa using hk
  · rcases j with _ | _ | j
    · simp at hj; subst hj
      exact ⟨aa, ca, rfl, (ha.below hB).imp fun _ h => Nat.lt_of_lt_of_le h hB.size⟩
    · simp at hj; subst hj
      exact ⟨ab, cb, rfl, (hb.below hB).imp fun _ h => Nat.lt_of_lt_of_le h hB.size⟩
    · simp at hj
def RemDid (w : World) (l : List Tx) (n : Int) (e : Ending) (w' : World) : Prop :=
  ∃ a c, e = .returned (.tuple #[.slice a l.length c, .int .i64 n]) ∧ Vw (fun b => w.heap.size ≤ b) w' (.slice a l.length c) 1 l.length (l.map txt) ∧ Below w.heap.size w w'
set_option maxRecDepth 10000 in
set_option maxHeartbeats 4000000 in
theorem rremove_ok {w : World} {va vb : Value} {a b : List Tx} (ha : Vw (Old w) w va 1 a.length (a.map txt)) (hb : Vw (Old w) w vb 1 b.length (b.map txt)) (hla : a.length ≤ 1099511627776) (hlb : b.length ≤ 1099511627776) {R : List Tx} (hR : R = (ofL a).filter fun x => !decide (x ∈ b)) :
    Calls Tryz.prog 30 #[va, vb] w (RemDid w R (((ofL a).length : Int) - (R.length : Int))) := by
  obtain ⟨aa, ca, rfl, _⟩ := id ha.slice
  obtain ⟨ab, cb, rfl, _⟩ := id hb.slice
  obtain ⟨A, hS⟩ := lit_vwSO rfl rfl ha hb
  have HD := Lib.hid (rdiff_ok hS hla hlb)
  rw [← hR] at HD
  have hB0 := lit_below w (.cells #[.slice aa a.length ca, .slice ab b.length cb] 22)
  have HB0 := Lib.hid hB0
  have HO := Lib.hid (fun (W : World) (hW : Below w.heap.size w W) => rof_ok (ha.below hW) hla)
  have hol := ofL_len a
  have hrl : R.length ≤ (ofL a).length := by rw [hR]; exact List.length_filter_le _ _
  generalize ofL a = L at *
  have ew : IntKind.i64.wrap ((L.length : Int) - (R.length : Int)) = (L.length : Int) - (R.length : Int) := by rw [IntKind.wrap_i64]; omega
  clear hS hB0 hR ha hb
  go_enter Tryz.func30, Tryz.ntmps30
  go_wp2_with fail
  refine HD.out.mono ?_; rintro e w1 ⟨a1, c1, rfl, hv1, hB1⟩
  have HB1 := Lib.hid (HB0.out.trans (hB1.mono (by simp)))
  have HV1 := Lib.hid (hv1.since HB0.out)
  clear hv1 hB1 HD
  go_wp2_with fail
  refine (HO.out _ HB1.out).mono ?_; rintro e w2 ⟨a2, c2, rfl, hv2, hB2⟩
  have HB2 := Lib.hid (HB1.out.trans (hB2.mono HB1.out.size))
  have HV2 := Lib.hid (HV1.out.below hB2)
  clear hv2 hB2 HO
  go_wp2_with fail
  go_ret2
  exact ⟨a1, c1, rfl, HV2.out, HB2.out⟩
end Go.Proofs.YtoganolkgmilaaaGreatDoor
namespace Go.Proofs.YtoganolkgmilaaaGreatDoor
open Go Go.RowKit
/-! Runs of a law that keep what the law has laid by (role [9]). -/
section
variable {o o' : Roles} {w w' w0 : World} {p n : Nat} {c : Cnt} {S : SP} {f : Tx → List Tx} {k : Tx} {nm : Tx} {sv : Value}
/-- Roles whose every later block is the law's own. -/
def later (o : Roles) (w : World) : Roles := fun b => if b < w.heap.size then o b else [9]
theorem later_new {b : Nat} (h : w.heap.size ≤ b) : later o w b = [9] := if_neg (by omega)
theorem At.later (h : At w0 o w p S c n) : At w0 (later o w) w p S c n := by
  have s1 : Stp [9] o w (Proofs.YtoganolkgmilaaaGreatDoor.later o w) w := ⟨rfl, rfl, rfl, Nat.le_refl _, fun b hb => if_pos hb, fun _ _ _ => rfl⟩
  exact ⟨h.sp.keep s1 (by intro t ht; simp at ht), h.st.hide s1 (fun b _ => by unfold none0; simp), h.num, h.few⟩
/-- A cell that the law has laid by. -/
structure Kp (o : Roles) (w : World) (b k : Nat) (u : Value) : Prop where
  lt : b < w.heap.size
  role : o b = [9]
  cell : w.cell? ⟨b, k, none⟩ = some u
theorem Kp.below {b k : Nat} {u : Value} (h : Kp o w b k u) (hB : Below w.heap.size w w') : Kp o w' b k u := ⟨Nat.lt_of_lt_of_le h.lt hB.size, h.role, cell_below hB h.cell⟩
theorem Kp.keep {b k : Nat} {u : Value} (h : Kp o w b k u) (st : Stp [1] o w o' w') : Kp o' w' b k u := by
  refine ⟨Nat.lt_of_lt_of_le h.lt st.size, by rw [st.old b h.lt]; exact h.role, ?_⟩
  rw [← h.cell]
  unfold World.cell?
  simp only [st.block b h.lt (by rw [h.role]; decide)]
def RunF (o : Roles) (w0 : World) (w : World) (p : Nat) (n : Nat) (r : RP) (K : SP → Prop) (e : Ending) (w' : World) : Prop :=
  ∃ v, e = .returned (repV r.kind r.text r.n v) ∧ Vw (fun b => w.heap.size ≤ b) w' v 4 r.list.length (rfsC r.list) ∧ ∃ o' S' c', At w0 o' w' p S' c' (n + 2) ∧ K S' ∧ Stp [1] o w o' w'
theorem at_ofF (h : At w0 o w p S c n) {r : RP} {K : SP → Cnt → Prop} {K2 : SP → Prop} (hK : ∀ S' c', K S' c' → K2 S' ∧ c'.num ≤ c.num + 2 ∧ c'.few ≤ c.few + 2) {e : Ending} {w' : World} (hr : RepL o w [1] p r K e w') : RunF o w0 w p n r K2 e w' := by
  obtain ⟨v, rfl, hv', o', S', c', hj, hk, hst⟩ := hr
  obtain ⟨h1, h2, h3⟩ := hK S' c' hk
  exact ⟨v, rfl, hv', o', S', c', ⟨hj, h.st.trans hst, by have := h.num; omega, by have := h.few; omega⟩, h1, hst⟩
theorem at_runF (h : At w0 o w p S c n) {low : Tx} {args : List Tx} (hv : Vw (Old w) w sv 1 (args.length + 1) ((nm :: args).map txt)) (hlow : lowL nm = low) (hn : nm.length ≤ 1099511627776) (hl : args.length + 1 ≤ 1099511627776) (hne : 0 < args.length)
    (hft : Fits low (args.length + 1)) {F : FuncId} (hg : Goes low F) {r : RP} {K : SP → Prop} (hs : Serves F w [1] p S c low args r (fun S' c' => K S' ∧ c.near c')) :
    Calls Tryz.prog 12 #[.pointer (some ⟨p, 0, none⟩), sv] w (RunF o w0 w p n r K) :=
  (lawrun_of h.sp (by decide) hv (K := fun S' c' => K S' ∧ c.near c') fun o1 w1 hj hB => lRun_ok hj (by decide) ((hv.below hB).imp fun _ hb => Nat.lt_of_lt_of_le hb hB.size) hlow hn hl hne hft hg
    (fun o2 w2 cb m2 sv hj2 hm2 hB2 hcb hv2 => hs o2 w2 cb m2 sv hj2 hm2 (hB.trans (hB2.mono hB.size)) hcb hv2)).mono fun _ _ hr => at_ofF h (fun _ _ hk => ⟨hk.1, hk.2.1, hk.2.2⟩) hr
theorem at_joinF (h : At w0 o w p S c n) {low : Tx} {args : List Tx} (hv : Vw (Old w) w sv 1 (args.length + 1) ((nm :: args).map txt)) (hlow : lowL nm = low) (hn : nm.length ≤ 1099511627776) (hl : args.length + 1 ≤ 1099511627776) (hne : 0 < args.length)
    (hft : Fits low (args.length + 1)) {way : Nat} (hg : UName low way) {l0 : List Tx} {R : List (List Tx)} (hLs : args.map (fun k => ((S.at 0 k).getD hd0).v.list) = l0 :: R) (hwr : ∀ k ∈ args, ((S.at 0 k).isSome && ((S.at 0 k).getD hd0).v.kind != 4) = false) (hfl : (l0 :: R).flatten.length ≤ 274877906944) (hkl : args.length ≤ 274877906944) :
    Calls Tryz.prog 12 #[.pointer (some ⟨p, 0, none⟩), sv] w (RunF o w0 w p n (bulksR (joinL way l0 R)) (fun S' => S' = S)) :=
  (lawrun_of h.sp (by decide) hv fun o1 w1 hj hB => lRun_join hj (by decide) ((hv.below hB).imp fun _ hb => Nat.lt_of_lt_of_le hb hB.size) hlow hn hl hne hft hg hLs hwr hfl hkl).mono fun _ _ hr => at_ofF h (fun S' c' hk => ⟨hk.1, by rw [hk.2]; omega, by rw [hk.2]; omega⟩) hr
theorem at_storeF (h : At w0 o w p S c n) {low : Tx} {d : Tx} {ks : List Tx} (hv : Vw (Old w) w sv 1 ((d :: ks).length + 1) ((nm :: d :: ks).map txt)) (hlow : lowL nm = low) (hn : nm.length ≤ 1099511627776) (hl : (d :: ks).length + 1 ≤ 1099511627776)
    (hft : Fits low ((d :: ks).length + 1)) {way : Nat} (hg : SName low way) {l0 : List Tx} {R : List (List Tx)} (hLs : ks.map (fun k => ((S.at 0 k).getD hd0).v.list) = l0 :: R) (hwr : ∀ k ∈ ks, ((S.at 0 k).isSome && ((S.at 0 k).getD hd0).v.kind != 4) = false) (hfl : (l0 :: R).flatten.length ≤ 274877906944) (hkl : ks.length ≤ 274877906944)
    (hsm : ∀ x ∈ joinL way l0 R, x.length ≤ 1048576) (hnn : n ≤ 1099511620000) :
    Calls Tryz.prog 12 #[.pointer (some ⟨p, 0, none⟩), sv] w (RunF o w0 w p n (numR (joinL way l0 R).length) (fun S' => ∃ m, S' = S.layS 0 d (joinL way l0 R) 0 m)) :=
  (lawrun_of h.sp (by decide) hv fun o1 w1 hj hB => lRun_store hj (by decide) ((hv.below hB).imp fun _ hb => Nat.lt_of_lt_of_le hb hB.size) hlow hn hl (by simp) hft hg rfl hLs hwr hfl hkl hsm (by have := h.num; omega) (by have := h.few; omega)).mono fun _ _ hr => at_ofF h (fun S' c' hk => ⟨⟨_, hk.1⟩, by rw [hk.2]; have := layS_near c (S.at 0 d).isSome (joinL way l0 R); omega, by rw [hk.2]; have := layS_near c (S.at 0 d).isSome (joinL way l0 R); omega⟩) hr
/-- A list of texts as a reply. -/
def BksF (o : Roles) (w0 : World) (w : World) (p : Nat) (n : Nat) (L : List Tx) (K : SP → Prop) (e : Ending) (w' : World) : Prop :=
  ∃ a c, e = .returned (repV 6 [] 0 (.slice a L.length c)) ∧ Vw (fun b => w.heap.size ≤ b) w' (.slice a L.length c) 4 L.length (rfsC (L.map bulkF)) ∧ ∃ o' S' c', At w0 o' w' p S' c' (n + 2) ∧ K S' ∧ Stp [1] o w o' w'
theorem RunF.bks {L : List Tx} {K : SP → Prop} {e : Ending} (h : RunF o w0 w p n (bulksR L) K e w') : BksF o w0 w p n L K e w' := by
  obtain ⟨v, rfl, hv, h⟩ := h
  have e : (bulksR L).list.length = L.length := by simp [bulksR]
  rw [e] at hv
  obtain ⟨a, c, rfl, _⟩ := id hv.slice
  exact ⟨a, c, rfl, hv, h⟩
/-- A number as a reply. -/
def NumF (o : Roles) (w0 : World) (w : World) (p : Nat) (n : Nat) (N : Int) (K : SP → Prop) (e : Ending) (w' : World) : Prop :=
  ∃ a k c, e = .returned (repV 3 [] N (.slice a k c)) ∧ ∃ o' S' c', At w0 o' w' p S' c' (n + 2) ∧ K S' ∧ Stp [1] o w o' w'
theorem RunF.num {N : Int} {K : SP → Prop} {e : Ending} (h : RunF o w0 w p n (numR N) K e w') : NumF o w0 w p n N K e w' := by
  obtain ⟨v, rfl, hv, h⟩ := h
  obtain ⟨a, c, rfl, _⟩ := id hv.slice
  exact ⟨a, _, c, rfl, h⟩
theorem runF_card (h : At w0 o w p S c n) (hf : Sets f S) (hv : Vw (Old w) w sv 1 2 ([nm, k].map txt)) (hlow : lowL nm = scardB) (hnm : nm.length ≤ 1099511627776) :
    Calls Tryz.prog 12 #[.pointer (some ⟨p, 0, none⟩), sv] w (NumF o w0 w p n (f k).length (Sets f)) :=
  (at_runF h (args := [k]) hv hlow hnm (by simp) (by simp) fits_scard (.inr (.inl ⟨rfl, .inl rfl⟩)) (serves_card (by decide) (hf k).1 ⟨hf, c.near_refl⟩)).mono fun _ _ h => h.num
theorem runF_members (h : At w0 o w p S c n) (hf : Sets f S) (hv : Vw (Old w) w sv 1 2 ([nm, k].map txt)) (hlow : lowL nm = smembersB) (hnm : nm.length ≤ 1099511627776) (hl : (f k).length ≤ 1099511627776) :
    Calls Tryz.prog 12 #[.pointer (some ⟨p, 0, none⟩), sv] w (BksF o w0 w p n (f k) (Sets f)) :=
  (at_runF h (args := [k]) hv hlow hnm (by simp) (by simp) fits_smembers (.inr (.inl ⟨rfl, .inr (.inr (.inr rfl))⟩)) (serves_members (by decide) (hf k).1 hl ⟨hf, c.near_refl⟩)).mono fun _ _ h => h.bks
theorem runF_join2 (h : At w0 o w p S c n) {d : Tx} (hf : SetsBut d f S) {low : Tx} {way : Nat} (hg : UName low way) {j : Tx} (hd : d ∉ [k, j]) (hv : Vw (Old w) w sv 1 3 ([nm, k, j].map txt)) (hlow : lowL nm = low) (hnm : nm.length ≤ 1099511627776) (hl : (f k).length + (f j).length ≤ 274877906944) {J : List Tx} (hJ : joinL way (f k) [f j] = J) :
    Calls Tryz.prog 12 #[.pointer (some ⟨p, 0, none⟩), sv] w (BksF o w0 w p n J (fun S' => S' = S)) := by
  subst hJ
  exact (at_joinF h (args := [k, j]) hv hlow hnm (by simp) (by simp) (fits_u hg (by simp)) hg (l0 := f k) (R := [f j]) (hf.lists hd) (hf.right hd) (by simp; omega) (by simp)).mono fun _ _ h => h.bks
theorem runF_store2 (h : At w0 o w p S c n) {d : Tx} (hf : SetsBut d f S) (hS : ∃ H, S.at 0 d = some H) {low : Tx} {way : Nat} (hg : SName low way) {j : Tx} (hd : d ∉ [k, j]) (hv : Vw (Old w) w sv 1 4 ([nm, d, k, j].map txt)) (hlow : lowL nm = low) (hnm : nm.length ≤ 1099511627776) (hl : (f k).length + (f j).length ≤ 274877906944) {J : List Tx} (hJ : joinL way (f k) [f j] = J) (hsm : ∀ x ∈ J, x.length ≤ 1048576) (hnn : n ≤ 1099511620000) :
    Calls Tryz.prog 12 #[.pointer (some ⟨p, 0, none⟩), sv] w (NumF o w0 w p n J.length (Sets (upd f d J))) := by
  obtain ⟨H, hH⟩ := hS
  subst hJ
  refine (at_storeF h (ks := [k, j]) hv hlow hnm (by simp) (fits_s hg (by simp)) hg (l0 := f k) (R := [f j]) (hf.lists hd) (hf.right hd) (by simp; omega) (by simp) hsm hnn).mono fun _ _ h => ?_
  obtain ⟨a, k', c', he, o', S', c2, h1, ⟨m, h2⟩, h3⟩ := h.num
  exact ⟨a, k', c', he, o', S', c2, h1, by rw [h2]; exact hf.lay hH _ (joinL_asc _ _ _) m, h3⟩
end
theorem st_inter (a b : List Tx) : joinL 0 (upd (upd (fun _ => []) aB (ofL a)) bB (ofL b) aB) [upd (upd (fun _ => []) aB (ofL a)) bB (ofL b) bB] = (ofL a).filter fun x => decide (x ∈ b) := by
  have hab : aB ≠ bB := by decide
  rw [upd_far hab, upd_same, upd_same]
  unfold joinL interP
  rw [if_pos rfl]
  refine (ofL_asc _).ext (List.Pairwise.filter _ (ofL_asc a)) fun x => ?_
  simp [ofL_mem, interP]
theorem st_union (a b : List Tx) : joinL 1 (upd (upd (fun _ => []) aB (ofL a)) bB (ofL b) aB) [upd (upd (fun _ => []) aB (ofL a)) bB (ofL b) bB] = ofL [a, b].flatten := by
  have hab : aB ≠ bB := by decide
  rw [upd_far hab, upd_same, upd_same]
  unfold joinL
  rw [if_neg (by decide), if_pos rfl]
  refine ofL_congr fun x => ?_
  simp [ofL_mem]
theorem st_diff (a b : List Tx) : joinL 2 (upd (upd (fun _ => []) aB (ofL a)) bB (ofL b) aB) [upd (upd (fun _ => []) aB (ofL a)) bB (ofL b) bB] = (ofL a).filter fun x => !decide (x ∈ b) := by
  have hab : aB ≠ bB := by decide
  rw [upd_far hab, upd_same, upd_same]
  unfold joinL diffP
  rw [if_neg (by decide), if_neg (by decide)]
  refine (ofL_asc _).ext (List.Pairwise.filter _ (ofL_asc a)) fun x => ?_
  simp [ofL_mem, diffP]
end Go.Proofs.YtoganolkgmilaaaGreatDoor
