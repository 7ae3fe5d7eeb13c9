import Derived.Test.YtoganolkgmilaaaGreatDoorXF
namespace Go.Proofs.YtoganolkgmilaaaGreatDoor
open Go Go.RowKit
/-! A set that is put. -/
def ValRel (w : World) (i : Value) (wr : World) : Prop := ∃ j q : Nat, i = .int .i64 ((j : Int) + 1) ∧ wr = w.drewN q
set_option maxRecDepth 10000 in
set_option maxHeartbeats 1000000 in
theorem mvalid_ok {A : Nat → Prop} {w : World} {v : Value} {l : List Tx} (h : Vw A w v 1 l.length (l.map txt)) (hs : Asc l) (hn : l.length ≤ 1099511627776) :
    Calls Tryz.prog 233 #[v] w fun e w' => e = .returned (.bool true) ∧ Below w.heap.size w w' := by
  obtain ⟨a, cap, rfl, _⟩ := id h.slice
  have HV := Lib.hid h
  have HS := Lib.hid hs
  clear h hs
  go_enter Tryz.func233, Tryz.ntmps233
  go_wp2_with fail
  go_loopw [3] (fun i wr => ∃ j q : Nat, i = .int .i64 ((j : Int) + 1) ∧ j ≤ l.length ∧ wr = w.drewN q) (fun i _ => l.length + 1 - (intOf i).toNat)
  case atStart => exact ⟨0, 0, rfl, Nat.zero_le _, rfl⟩
  case round =>
    obtain ⟨j, q, rfl, hjl, rfl⟩ := hrel
    by_cases hj : j + 1 < l.length
    · obtain ⟨x, hx⟩ : ∃ x, l[j]? = some x := ⟨_, List.getElem?_eq_getElem (by omega)⟩
      obtain ⟨y, hy⟩ : ∃ y, l[j + 1]? = some y := ⟨_, List.getElem?_eq_getElem hj⟩
      obtain ⟨b, off, rfl, _, _, hg⟩ := vw_get HV.out (by omega)
      have hcx : w.cell? ⟨b, off + j, none⟩ = some (.string ⟨x.toArray⟩) := hg j x hx
      have hcy : w.cell? ⟨b, off + (j + 1), none⟩ = some (.string ⟨y.toArray⟩) := hg (j + 1) y hy
      have hxy : Op.bytesLess x y = true := by
        have h1 : l[j] = x := by rw [List.getElem?_eq_getElem (by omega)] at hx; exact Option.some.inj hx
        have h2 : l[j + 1] = y := by rw [List.getElem?_eq_getElem hj] at hy; exact Option.some.inj hy
        rw [← h1, ← h2]
        exact List.pairwise_iff_getElem.1 HS.out j (j + 1) (by omega) hj (by omega)
      have hjI : (0 : Int) ≤ j ∧ (j : Int) + 1 < l.length := by omega
      obtain ⟨hj0, hj1⟩ := hjI
      have ew : IntKind.i64.wrap (j : Int) = (j : Int) := by rw [IntKind.wrap_i64]; omega
      have hj2 : (j : Int) < l.length := by omega
      have hj3 : (0 : Int) ≤ (j : Int) + 1 := by omega
      have etn : ((j : Int) + 1).toNat = j + 1 := by omega
      clear hg hx hy HS HV
      go_wp2_with fail
      go_quiet (fail)
      go_wp2_with fail
      go_roundw
      case rel => exact ⟨j + 1, _, by go_num, by omega, by first | rfl | exact World.drewN_drewN _ _ _⟩
      case measure => simp [intOf]; omega
    · have hjI : (0 : Int) ≤ j ∧ ¬ ((j : Int) + 1 < l.length) := by omega
      obtain ⟨hj0, hj1⟩ := hjI
      clear HS HV
      go_wp2_with fail
      go_ret
      exact ⟨rfl, below_drewN (Below.refl _ _) _⟩
set_option maxRecDepth 10000 in
theorem vsright_ok {A : Nat → Prop} {w : World} {v : Value} {ws : List Tx} (h : Vw A w v 1 ws.length (ws.map txt)) (hasc : Asc ws) (hs : ∀ x ∈ ws, x.length ≤ 1048576) (hn : ws.length ≤ 1099511627776) :
    Calls Tryz.prog 231 #[v] w fun e w' => e = .returned (.bool true) ∧ Below w.heap.size w w' := by
  have H := Lib.hid (vlright_ok h hs hn)
  have HM := Lib.hid (mvalid_ok h hasc hn)
  obtain ⟨a, cap, rfl, _⟩ := h.slice
  clear h hs
  go_enter Tryz.func231, Tryz.ntmps231
  go_wp2_with fail
  refine H.out.mono ?_; rintro e w' ⟨rfl, rfl⟩
  go_wp2_with fail
  refine HM.out.mono ?_; rintro e w2 ⟨rfl, hB⟩
  have HB := Lib.hid hB
  clear hB
  go_wp2_with fail
  go_ret
  exact ⟨rfl, HB.out⟩
set_option maxRecDepth 10000 in
theorem vof_set (w : World) (l f r : Value) (V : VV) (hk : V.kind = 4) (hl : ∃ a n c, l = .slice a n c) (hf : ∃ a n c, f = .slice a n c) (hr : ∃ a n c, r = .slice a n c) : Calls Tryz.prog 57 #[valV V l f r] w fun e w' => e = .returned (.tuple #[.iface 148 l, .bool true]) ∧ Below w.heap.size w w' := by
  obtain ⟨kind, text, list, fields, ranked⟩ := V
  dsimp only at hk
  subst hk
  obtain ⟨a1, n1, c1, rfl⟩ := hl
  obtain ⟨a2, n2, c2, rfl⟩ := hf
  obtain ⟨a3, n3, c3, rfl⟩ := hr
  go_enter Tryz.func57, Tryz.ntmps57
  go_wp2
  go_ret2
  exact ⟨rfl, (Below.refl _ _).alloc (Nat.le_refl _) _⟩
set_option maxRecDepth 10000 in
theorem vcheck_set {A : Nat → Prop} {w : World} {V : VV} {l f r : Value} (h : Val3 A w V l f r) (hk : V.kind = 4) (ht : V.text = []) (hf : V.fields = []) (hr : V.ranked = []) (hne : V.list ≠ []) (hasc : Asc V.list) (hs : ∀ x ∈ V.list, x.length ≤ 1048576) (hn : V.list.length ≤ 1099511627776) :
    Calls Tryz.prog 34 #[valV V l f r] w fun e w' => e = .returned (.int .i64 0) ∧ Below w.heap.size w w' := by
  obtain ⟨a1, c1, e1, _⟩ := h.list.slice
  obtain ⟨a2, c2, e2, _⟩ := h.fields.slice
  obtain ⟨a3, c3, e3, _⟩ := h.ranked.slice
  have HO := Lib.hid (fun W => vof_set W l f r V hk ⟨_, _, _, e1⟩ ⟨_, _, _, e2⟩ ⟨_, _, _, e3⟩)
  have HR := Lib.hid (fun W (hB : Below w.heap.size w W) => vsright_ok (h.list.below hB) hasc hs hn)
  obtain ⟨kind, text, list, fields, ranked⟩ := V
  dsimp only at hk ht hf hr hne hasc hs hn e1 e2 e3 HO HR
  subst hk ht hf hr e1 e2 e3
  have h0 : ((list.length : Int) == 0) = false := beq_eq_false_iff_ne.2 (by cases list with | nil => exact absurd rfl hne | cons x t => simp; omega)
  clear h hs hne hasc
  go_enter Tryz.func34, Tryz.ntmps34
  go_wp2_with fail
  refine (HO.out _).mono ?_; rintro e w2 ⟨rfl, hB2⟩
  have HB2 := Lib.hid (((Below.refl w.heap.size w).alloc (Nat.le_refl _) _).trans (hB2.mono (by simp)))
  obtain ⟨hq, _⟩ := bcell hB2
  have x0 : w2.cell? ⟨w.heap.size, 0, none⟩ = some (.int .i64 4) := by rw [hq _ _ (by simp)]; simp [go_sem]
  have x1 : w2.cell? ⟨w.heap.size, 1, none⟩ = some (.string ⟨#[]⟩) := by rw [hq _ _ (by simp)]; simp [go_sem]
  have x2 : w2.cell? ⟨w.heap.size, 2, none⟩ = some (.slice a1 list.length c1) := by rw [hq _ _ (by simp)]; simp [go_sem]
  have x3 : w2.cell? ⟨w.heap.size, 3, none⟩ = some (.slice a2 0 c2) := by rw [hq _ _ (by simp)]; simp [go_sem]
  have x4 : w2.cell? ⟨w.heap.size, 4, none⟩ = some (.slice a3 0 c3) := by rw [hq _ _ (by simp)]; simp [go_sem]
  clear hB2 hq HO
  go_wp2_with fail
  clear x0 x1 x2 x3 x4
  refine upon_method (f := 230) (y := .slice a1 list.length c1) (by kernel_rfl) ?_
  have HE : Calls Tryz.prog 230 #[.slice a1 list.length c1] w2 fun e w' => e = .returned (.bool false) ∧ w' = w2 := by
    go_enter Tryz.func230, Tryz.ntmps230
    go_wp2
    go_ret
    exact ⟨rfl, rfl⟩
  clear h0
  go_wp2_with fail
  refine HE.mono ?_; rintro e w3 ⟨rfl, rfl⟩
  go_wp2_with fail
  refine upon_method (f := 231) (y := .slice a1 list.length c1) (by kernel_rfl) ?_
  go_wp2_with fail
  refine (HR.out _ HB2.out).mono ?_; rintro e w4 ⟨rfl, hB4⟩
  have HB4 := Lib.hid (HB2.out.trans (hB4.mono HB2.out.size))
  clear hB4
  go_wp2_with fail
  go_ret
  exact ⟨rfl, HB4.out⟩
abbrev setV (l : List Tx) : VV := ⟨4, [], l, [], []⟩
def PutL (o : Roles) (w : World) (q : List Nat) (p : Nat) (S : SP) (c : Cnt) (b : Bool) (e : Ending) (w' : World) : Prop :=
  e = .returned (.bool b) ∧ ∃ o', SpJ o' w' q p S c ∧ Stp q o w o' w'
theorem val3_set {A : Nat → Prop} {w : World} {v : Value} {l : List Tx} (h : Vw A w v 1 l.length (l.map txt)) : Val3 A w (setV l) v (.slice none 0 0) (.slice none 0 0) := ⟨h, Vw.nil _ _ _, Vw.nil _ _ _⟩
section
variable {o : Roles} {w : World} {q : List Nat} {p : Nat} {c : Cnt} {S : SP}
set_option maxRecDepth 10000 in
set_option maxHeartbeats 4000000 in
theorem clay_ok {A : Nat → Prop} (h : SpJ o w q p S c) {cb : Nat} {ρ : List Nat} {now : Int} {nm : List UInt8} {sv : Value} (hcb : Blk o w ρ cb (callC p now nm sv) 93) (k : List UInt8) {l : List Tx} {v : Value} (hv : Vw A w v 1 l.length (l.map txt))
    (hA : ∀ b, A b → b ≠ p) (hl : l ≠ []) (hasc : Asc l) (hs : ∀ x ∈ l, x.length ≤ 1048576) (hn : l.length ≤ 1099511627776) (hc : c.num ≤ 4611686018427387904) (hf : c.few ≤ 1099511627776) (due : Int) (hd : 0 ≤ due ∧ due ≤ 9007199254740992) :
    Calls Tryz.prog 50 #[.pointer (some ⟨cb, 0, none⟩), txt k, v, .int .i64 due] w (PutL o w q p (S.put k ⟨setV l, due, c.num + 1⟩) c.next true) := by
  have e0 : ((l.length : Int) == 0) = false := beq_eq_false_iff_ne.2 (by cases l with | nil => exact absurd rfl hl | cons x t => simp; omega)
  obtain ⟨a, cap, rfl, _⟩ := id hv.slice
  have HP := Lib.hid (jput_ok h k (val3_set hv) ⟨by simp, by show l.length ≤ _; omega, by simp, by simp⟩ hA due hd (fun W hW => vcheck_set (val3_set (hv.below hW)) rfl rfl rfl rfl hl hasc hs (by show l.length ≤ _; omega)) hc hf)
  have hcc := hcb.cell
  clear h hcb hv hA hl hasc hs
  unfold txt at *
  go_enter Tryz.func50, Tryz.ntmps50
  go_wp2_with fail
  refine HP.out.mono ?_; rintro e w1 ⟨rfl, o1, h1, s1⟩
  have D := Lib.hid (show PutL o w q p (S.put k ⟨setV l, due, c.num + 1⟩) c.next true (.returned (.bool true)) w1 from ⟨rfl, o1, h1, s1⟩)
  clear h1 s1 HP
  go_wp2_with fail
  go_ret
  exact D.out
def LayR (w : World) (ok : Bool) (s10 : Value) (wx : World) : Prop := s10 = .bool ok ∧ Below w.heap.size w wx
/-- What a space holds behind a set is laid. -/
def SP.layS (S : SP) (now : Int) (k : List UInt8) (l : List Tx) (due : Int) (n : Nat) : SP := if l = [] then (if (S.at now k).isSome then S.del k else S) else S.put k ⟨setV l, due, n⟩
def Cnt.layS (c : Cnt) (ok : Bool) (l : List Tx) : Cnt := if l = [] then (if ok then c.touch else c) else c.next
set_option maxRecDepth 10000 in
set_option maxHeartbeats 20000000 in
theorem clay_nil (h : SpJ o w q p S c) {cb : Nat} {ρ : List Nat} {now : Int} {nm : List UInt8} {sv : Value} (hcb : Blk o w ρ cb (callC p now nm sv) 93) (k : List UInt8) (a : Option Addr) (cap : Nat) {ok : Bool} (hok : ok = (S.at now k).isSome) (hc : c.num ≤ 4611686018427387904) (hfw : c.few ≤ 1099511627776) (due : Int) :
    Calls Tryz.prog 50 #[.pointer (some ⟨cb, 0, none⟩), txt k, .slice a 0 cap, .int .i64 due] w (PutL o w q p (if ok then S.del k else S) (if ok then c.touch else c) true) := by
  have HDR := Lib.hid (fun (hs : ok = true) (W : World) (hW : Below w.heap.size w W) => show Calls Tryz.prog 81 #[.pointer (some ⟨p, 0, none⟩), txt k] W _ from by
    rw [hs] at hok
    obtain ⟨H, hH⟩ := Option.isSome_iff_exists.1 hok.symm
    exact jdrop_ok (h.below hW) k (SP.at_some hH).1 hc (by omega))
  have HCB := Lib.hid hcb
  have HSJ := Lib.hid h
  obtain ⟨S', hS'⟩ : ∃ S', S' = if ok then S.del k else S := ⟨_, rfl⟩
  obtain ⟨c', hc'⟩ : ∃ c', c' = if ok then c.touch else c := ⟨_, rfl⟩
  rw [← hS', ← hc']
  have HSC := Lib.hid (And.intro hS' hc')
  clear hS' hc'
  have hB1 : Below w.heap.size w (w.alloc (.cells #[.int .i64 0, .string ⟨#[]⟩, .slice none 0 0, .slice none 0 0, .slice none 0 0] 36)) := (Below.refl _ _).alloc (Nat.le_refl _) _
  have HG1 := Lib.hid (jget_ok (h.below (Below.refl _ w).drew) k now)
  have HG2 := Lib.hid (jget_ok (h.below hB1.drew) k now)
  have HD1 := Lib.hid (show Blk none0 (w.alloc (.cells #[.int .i64 0, .string ⟨#[]⟩, .slice none 0 0, .slice none 0 0, .slice none 0 0] 36)) [] w.heap.size #[.int .i64 0, .string ⟨#[]⟩, .slice none 0 0, .slice none 0 0, .slice none 0 0] 36 from ⟨heap_alloc_new w _, rfl⟩)
  have HB1 := Lib.hid hB1
  have hz : (w.alloc (.cells #[.int .i64 0, .string ⟨#[]⟩, .slice none 0 0, .slice none 0 0, .slice none 0 0] 36)).heap.size = w.heap.size + 1 := by simp
  have HZ := Lib.hid hz
  have hb := hcb.cell
  have hf := hcb.free
  have hl := hcb.lt
  generalize (S.at now k).getD hd0 = H at *
  rw [← hok] at HG1 HG2
  clear hok
  obtain ⟨⟨kind, text, list, fields, ranked⟩, due, ver⟩ := H
  dsimp only at HG1 HG2
  clear h hB1 hz hcb
  unfold txt at *
  go_enter Tryz.func50, Tryz.ntmps50
  go_wp2_with fail
  go_cut [10] from 14 to 26 (fun s10 wx => LayR w ok s10 wx)
  case first =>
    go_region_with (first
      | (go_at_call 80
         (with_reducible refine HG1.out.mono ?_)
         rintro e w2 ⟨l2, f2, r2, rfl, hv2, hB2⟩
         have HV2 := Lib.hid (show Val3 (fun b => w.heap.size ≤ b) w2 ⟨kind, text, list, fields, ranked⟩ l2 f2 r2 from hv2)
         have HB2 := Lib.hid (show Below w.heap.size w w2 from (Below.refl _ w).drew.trans hB2)
         obtain ⟨b1, d1, rfl, _⟩ := id hv2.list.slice
         obtain ⟨b2, d2, rfl, _⟩ := id hv2.fields.slice
         obtain ⟨b3, d3, rfl, _⟩ := id hv2.ranked.slice
         clear hv2 hB2)
      | (go_at_call 80
         (with_reducible refine HG2.out.mono ?_)
         rintro e w2 ⟨l2, f2, r2, rfl, hv2, hB2⟩
         have HV2 := Lib.hid (show Val3 (fun b => w.heap.size + 1 ≤ b) w2 ⟨kind, text, list, fields, ranked⟩ l2 f2 r2 from hv2.imp (fun b hb => Nat.le_trans (Nat.le_of_eq HZ.out.symm) hb))
         have HB2 := Lib.hid (show Below w.heap.size w w2 from HB1.out.trans ((((Below.refl _ _).drew).trans hB2).mono HB1.out.size))
         have HD2 := Lib.hid (HD1.out.below (((Below.refl _ _).drew).trans hB2))
         have hcd := HD2.out.cell
         have hfd := HD2.out.free
         obtain ⟨b1, d1, rfl, _⟩ := id hv2.list.slice
         obtain ⟨b2, d2, rfl, _⟩ := id hv2.fields.slice
         obtain ⟨b3, d3, rfl, _⟩ := id hv2.ranked.slice
         clear hv2 hB2))
    all_goals (
      first
      | (have HD := Lib.hid (show LayR w ok (.bool ok) (w2.alloc (.cells #[.int .i64 kind, .string ⟨text.toArray⟩, .slice b1 list.length d1, .slice b2 fields.length d2, .slice b3 ranked.length d3] 36)) from ⟨rfl, HB2.out.alloc HB2.out.size _⟩)
         clear HG1 HG2 HD1 HB1 HZ HV2 HB2
         go_wp2_with fail
         go_meet
         exact HD.out)
      | (have HD := Lib.hid (show LayR w ok (.bool ok) (((((w2.setCell ⟨w.heap.size, 0, none⟩ (.int .i64 kind)).setCell ⟨w.heap.size, 1, none⟩ (.string ⟨text.toArray⟩)).setCell ⟨w.heap.size, 2, none⟩ (.slice b1 list.length d1)).setCell ⟨w.heap.size, 3, none⟩ (.slice b2 fields.length d2)).setCell ⟨w.heap.size, 4, none⟩ (.slice b3 ranked.length d3)) from by
           refine ⟨rfl, ?_⟩
           iterate 5 refine Below.setCell ?_ (by exact Nat.le_refl _) _
           exact HB2.out)
         clear HG1 HG2 HD1 HB1 HZ HV2 HB2
         go_wp2_with fail
         go_meet
         exact HD.out))
  case rest =>
    obtain ⟨rfl, hB⟩ := hcut
    have hcc := (HCB.out.below hB).cell
    have HB := Lib.hid hB
    clear hB HG1 HG2 HD1 HB1 HZ hb hf hl
    cases ok with
    | true =>
      have HD := Lib.hid (HDR.out rfl wc HB.out)
      clear HDR
      unfold txt at HD
      go_wp2_with fail
      refine HD.out.mono ?_; rintro e w2 ⟨rfl, o2, h2, s2⟩
      have D := Lib.hid (show PutL o w q p S' c' true (.returned (.bool true)) w2 from by rw [HSC.out.1, HSC.out.2]; exact ⟨rfl, o2, h2, (Stp.ofBelow q o HB.out).trans s2⟩)
      clear h2 s2 HD HB HCB hcc
      go_wp2_with fail
      go_ret
      exact D.out
    | false =>
      have D := Lib.hid (show PutL o w q p S' c' true (.returned (.bool true)) wc from by rw [HSC.out.1, HSC.out.2]; exact ⟨rfl, o, HSJ.out.below HB.out, Stp.ofBelow q o HB.out⟩)
      clear HDR HB HCB HSJ
      go_wp2_with fail
      go_ret
      exact D.out
theorem clay_any {A : Nat → Prop} (h : SpJ o w q p S c) {cb : Nat} {ρ : List Nat} {now : Int} {nm : List UInt8} {sv : Value} (hcb : Blk o w ρ cb (callC p now nm sv) 93) (k : List UInt8) {l : List Tx} {v : Value} (hv : Vw A w v 1 l.length (l.map txt))
    (hA : ∀ b, A b → b ≠ p) (hasc : Asc l) (hs : ∀ x ∈ l, x.length ≤ 1048576) (hn : l.length ≤ 1099511627776) (hc : c.num ≤ 4611686018427387904) (hf : c.few ≤ 1099511627776) (due : Int) (hd : 0 ≤ due ∧ due ≤ 9007199254740992) :
    Calls Tryz.prog 50 #[.pointer (some ⟨cb, 0, none⟩), txt k, v, .int .i64 due] w (PutL o w q p (S.layS now k l due (c.num + 1)) (c.layS (S.at now k).isSome l) true) := by
  unfold SP.layS Cnt.layS
  by_cases h0 : l = []
  · subst h0
    obtain ⟨a, cap, rfl, _⟩ := id hv.slice
    rw [if_pos rfl, if_pos rfl]
    exact clay_nil h hcb k a cap rfl hc hf due
  · rw [if_neg h0, if_neg h0]
    exact clay_ok h hcb k hv hA h0 hasc hs hn hc hf due hd
set_option maxRecDepth 10000 in
set_option maxHeartbeats 4000000 in
theorem cput_ok {A : Nat → Prop} (h : SpJ o w q p S c) {cb : Nat} {ρ : List Nat} {now : Int} {nm : List UInt8} {sv : Value} (hcb : Blk o w ρ cb (callC p now nm sv) 93) (k : List UInt8) {l : List Tx} {v : Value} (hv : Vw A w v 1 l.length (l.map txt))
    (hA : ∀ b, A b → b ≠ p) (hasc : Asc l) (hs : ∀ x ∈ l, x.length ≤ 1048576) (hn : l.length ≤ 1099511627776) (hc : c.num ≤ 4611686018427387904) (hf : c.few ≤ 1099511627776) :
    Calls Tryz.prog 72 #[.pointer (some ⟨cb, 0, none⟩), txt k, v] w (PutL o w q p (S.layS now k l ((S.at now k).getD hd0).due (c.num + 1)) (c.layS (S.at now k).isSome l) true) := by
  have hdl := h.lim' now k
  have HDUE := Lib.hid (jdue_ok (h.below (Below.refl _ w).drew) k now)
  have HLAY := Lib.hid (fun (W : World) (hW : Below w.heap.size w W) => clay_any (h.below hW) (hcb.below hW) k (hv.below hW) hA hasc hs hn hc hf _ hdl)
  have hcc := hcb.cell
  have HCB := Lib.hid hcb
  obtain ⟨a, cap, rfl, _⟩ := id hv.slice
  clear h hcb hv hA hasc hs hdl
  unfold DueDid at HDUE
  generalize S.layS now k l ((S.at now k).getD hd0).due (c.num + 1) = S' at *
  generalize c.layS (S.at now k).isSome l = c' at *
  generalize ((S.at now k).getD hd0).due = due at *
  generalize (S.at now k).isSome = ok at *
  unfold txt at HDUE HLAY ⊢
  go_enter Tryz.func72, Tryz.ntmps72
  go_wp2_with fail
  go_region_with (
    go_at_call 19
    (with_reducible refine HDUE.out.mono ?_)
    rintro e w2 ⟨rfl, hB2⟩
    have hB2' : Below w.heap.size w w2 := (Below.refl _ w).drew.trans hB2
    have hcc2 := (HCB.out.below hB2').cell
    have HB2 := Lib.hid hB2'
    clear hB2 hB2')
  all_goals (
    have HL := Lib.hid (HLAY.out w2 HB2.out)
    clear HDUE HLAY hcc
    go_wp2_with fail
    refine HL.out.mono ?_; rintro e w3 ⟨rfl, o3, h3, s3⟩
    have D := Lib.hid (show PutL o w q p S' c' true (.returned (.bool true)) w3 from ⟨rfl, o3, h3, (Stp.ofBelow q o HB2.out).trans s3⟩)
    clear h3 s3 HL HB2
    go_wp2_with fail
    go_ret
    exact D.out)
end
end Go.Proofs.YtoganolkgmilaaaGreatDoor
